/-
  Wf, AfP, AhP, AiP, AjP, AnP, AkP, AlP: own texts of this repository (wip/tpl, wip/plans), merged and shaken by wip/tools/pack.py.
-/
import Derived.Test.YtkmjdamkifbddaaGreatDoorE6e
set_option maxRecDepth 100000
set_option linter.unusedVariables false
set_option linter.unusedSimpArgs false
section
namespace Go.Ph.Wd
open Go.Ph.Pl Go.Ph.Pf
open Go.Ph.Gr (chars Ch byts segs)
open Go.Ph.Chs (vld setN setOf encK encGo decoded utf8 lower lowB)
open Go.Ph.Utf (rune dr)
theorem fnd_q {s:Ls}{j:Nat}{A r:Ls}(h:q1 (s.drop j)=some (A,r)):fnd s [63] j=((j+A.length:Nat):Int):=by
 have e:Lib.index (s.drop j) [63]=((A.length:Nat):Int):=(index_q1 _).trans (by rw[h]);unfold fnd;rw[e,if_neg Om];omega
theorem fnd_q0 {s:Ls}{j:Nat}(h:q1 (s.drop j)=none):fnd s [63] j = -1:=by
 have e:Lib.index (s.drop j) [63] = -1:=(index_q1 _).trans (by rw[h]);unfold fnd;rw[e,if_pos rfl]
theorem fnd_at (s sub:Ls)(i:Nat)(h0:sub≠ [])(hi:i≤s.length):fnd s sub i=(i:Int)↔sub <+: s.drop i:=by
 constructor
 · intro h;by_cases hl:i<s.length
   · refine Classical.byContradiction fun hp=>?_
     rw[fnd_next hl hp] at h;unfold fnd at h;have:=Lib.index_ge (s.drop (i+1)) sub;split at h <;> omega
   have:0<sub.length:=List.length_pos_iff.2 h0;rw[fnd_none hi Om] at h;omega
 intro h;have:0<sub.length:=List.length_pos_iff.2 h0;have h2:=h.length_le;rw[l01] at h2;exact fnd_here Om h
def ans (o:Option (Ls × Nat)):Ls × Int:=match o with|some p=>(p.1,(p.2:Int))|none=>([],0)
theorem rset_eq (A:Ls)(hA:A.length≤100000):R_SetOf A=some (match setOf A with|some k=>(k:Int)|none => -1):=by
 unfold R_SetOf;rw[if_pos Om];cases setOf A <;> rfl
theorem ruq_eq (D:Ls)(hD:D.length≤20000):Y1K D FU [] 0=some (match uq D with|some r => .inl r|none => .inr ([],0)):=by
 have:=ruq_L1 D Om D.length 0 FU [] Om (by unfold FU;omega) Om Sm;rw[l2o] at this;rw[this,l0m];cases uq D <;> rfl
theorem bytesP_len {K D b:Ls}(hD:D.length≤10000)(h:bytesP K D=some b):b.length≤D.length:=by
 obtain⟨x,_,h2,h3⟩:=Y5i K D hD;rw[h3 b h] at h2;exact h2
theorem rlow_eq (K:Ls)(h:K.length≤100000):R_Lower K=some (lower K):=by
 unfold R_Lower;rw[if_pos Om]
theorem drop_q1 {s:Ls}{j:Nat}{A r:Ls}(h:q1 (s.drop j)=some (A,r)):j+A.length+1≤s.length∧s.drop (j+A.length+1)=r∧(s.take (j+A.length)).drop j=A:=by
 obtain⟨h1,_⟩:=q1_some h;have hl:=congrArg List.length h1;simp only[l01,l00,l02] at hl;refine⟨by omega,?_,?_⟩
 · rw[show j+A.length+1=j+(A.length+1) by omega,←l0l,h1,←l0l,l2l];rfl
 rw[l0S,h1,show j+A.length-j=A.length by omega,l1y]
theorem wordAt_eq (s:Ls)(i:Nat)(hs:s.length≤10000)(hi:i≤s.length):Y4c s (i:Int)=some (ans (pw (s.drop i))):=by
 unfold Y4c pw;rw[find_eq s [61,63] i Om Sm Sm hi,bsome];by_cases hp:[61,63] <+: s.drop i
 · have hl2 := hp.length_le;simp only[l01,l02,l03] at hl2;rw[if_pos ((fnd_at s _ i Sm hi).2 hp),if_pos hp,show (i:Int)+2=((i+2:Nat):Int) by omega,chk_ok Om Om,bsome,find_eq s [63] (i+2) Om Sm Sm Om,bsome,l0l];unfold sp3;cases h1:q1 (s.drop (i+2)) with
   | none=>rw[fnd_q0 h1];rfl
   | some p1 =>
     obtain⟨A,r1⟩:=p1;obtain⟨a1,a2,a3⟩:=drop_q1 h1;rw[fnd_q h1,if_neg Om,show ((i+2+A.length:Nat):Int)+1=((i+2+A.length+1:Nat):Int) by omega,chk_ok Om Om,bsome,find_eq s [63] (i+2+A.length+1) Om Sm Sm Om,bsome,bsome];dsimp only;cases h2:q1 r1 with
     | none=>rw[fnd_q0 (by rw[a2];exact h2)];rfl
     | some p2 =>
       obtain⟨K,r2⟩:=p2;rw[←a2] at h2;obtain⟨b1,b2,b3⟩:=drop_q1 h2;rw[fnd_q h2,if_neg Om,show ((i+2+A.length+1+K.length:Nat):Int)+1=((i+2+A.length+1+K.length+1:Nat):Int) by omega,chk_ok Om Om,bsome,find_eq s [63] (i+2+A.length+1+K.length+1) Om Sm Sm Om,bsome,bsome];cases h3:q1 r2 with
       | none=>rw[fnd_q0 (by rw[b2];exact h3),if_pos Dc,bsome,if_pos rfl,bsome];dsimp only;rw [h3];rfl
       | some p3 =>
         obtain⟨D,r3⟩:=p3;have h3':=h3;rw[←b2] at h3;obtain⟨c1,c2,c3⟩:=drop_q1 h3;rw[fnd_q h3];have hz:((i+2+A.length+1+K.length+1+D.length:Nat):Int)+1=((i+2+A.length+1+K.length+1+D.length+1:Nat):Int):=by omega
         rw[if_neg Om,hz,chk_ok Om Om,bsome,bsome,bsome];dsimp only;have hcond:(if (s.length:Int)≤((i+2+A.length+1+K.length+1+D.length+1:Nat):Int) then some true else(idx s ((i+2+A.length+1+K.length+1+D.length+1:Nat):Int)).bind fun c22=>(if c22=61 then(chk (((i+2+A.length+1+K.length+1+D.length:Nat):Int)+2)).bind fun n24=>(chk (n24-(i:Int))).bind fun n25=>some (decide ((75:Int)<n25)) else some true))=some (!decide ([61] <+: r3∧A.length+K.length+D.length+6≤75)):=by
          have hh:[61] <+: r3↔(s.drop (i+2+A.length+1+K.length+1+D.length+1)).head? = some 61:=by rw[c2];exact pre1 _ _
          by_cases hq:i+2+A.length+1+K.length+1+D.length+1<s.length
          · rw[if_neg Om,idx_nat,List.getElem?_eq_getElem hq,bsome];rw[l09 hq,List.head?_cons] at hh;by_cases h61:s[i+2+A.length+1+K.length+1+D.length+1]=61
            · rw[if_pos h61,chk_ok Om Om,bsome,chk_ok Om Om,bsome];rw[h61] at hh;by_cases h75:A.length+K.length+D.length+6≤75
              · rw[decide_eq_false Om,decide_eq_true ⟨hh.2 rfl,h75⟩];rfl
              rw[decide_eq_true Om,decide_eq_false (fun e=>h75 e.2)];rfl
            rw[if_neg h61,decide_eq_false (fun e=>h61 (oI (hh.1 e.1)))];rfl
          rw[l08 Om] at hh;rw[if_pos Om,decide_eq_false (fun e=>by have:=hh.1 e.1;cases this)];rfl
         rw[hcond,bsome]
         conv=>rhs;rw [h3',bsome,bsome];dsimp only
         by_cases hq:[61] <+: r3∧A.length+K.length+D.length+6≤75
         · rw [decide_eq_true hq,if_neg Dc,if_pos hq,cut_of (a:=i+2) (b:=i+2+A.length) rfl rfl Om Om,bsome,a3,rset_eq A Om,bsome];have e1:((i+2+A.length:Nat):Int)+1=((i+2+A.length+1:Nat):Int):=by omega
           have e2:((i+2+A.length+1+K.length:Nat):Int)+1=((i+2+A.length+1+K.length+1:Nat):Int):=by omega
           rw[bsome,cut_of (a:=i+2+A.length+1) (b:=i+2+A.length+1+K.length) rfl rfl Om Om,bsome,b3,rlow_eq K Om,bsome,bsome,cut_of (a:=i+2+A.length+1+K.length+1) (b:=i+2+A.length+1+K.length+1+D.length) rfl rfl Om Om,bsome,c3];unfold body;cases hA:setOf A with
           | none=>rfl
           | some k =>
             have hk:=Chs.setOf_lt hA;dsimp only;have fin :∀b:Ls,b.length≤D.length→((Y44 (k:Int) b).bind fun s113=>(chk (((i+2+A.length+1+K.length+1+D.length:Nat):Int)+2)).bind fun n115=>(chk (n115-(i:Int))).bind fun n116=>some (s113,n116))=some (ans (some (decoded k b,A.length+K.length+D.length+6))):=by
              intro b hb;unfold Y44;rw[if_pos ⟨by omega,by omega,by omega⟩,bsome,chk_ok Om Om,bsome,chk_ok Om Om,bsome,l0t];unfold ans;dsimp only;congr 2;omega
             unfold bytesP;rw[if_neg Om,bsome];by_cases k1:lower K=[98]
             · have hl:=lenient_len D;rw[if_pos k1,if_pos k1,toB_ok Om,bsome];unfold Y4r Y3J;rw[if_pos Om,bsome,←B64.lenient_loose,if_pos Om,bsome];by_cases k2:B64.chars64 (B64.lenient D)=D
               · rw[if_pos k2,if_pos k2,bsome];exact fin _ hl
               rw[if_neg k2,if_neg k2,bsome];rfl
             rw[if_neg k1,if_neg k1];by_cases k2:lower K=[113]
             · rw[if_pos k2,if_pos k2,ruq_eq D Om,bsome];cases hu:uq D with
               | none=>rfl
               | some r=>exact fin r (uqF_len _ _ _ hu)
             rw[if_neg k2,if_neg k2];rfl
         rw[decide_eq_false hq,if_pos Dc,if_neg hq];rfl
 rw[if_neg (fun e=>hp ((fnd_at s _ i Sm hi).1 e)),if_neg hp];rfl
theorem decW_len :∀(n:Nat) (l:Ls),l.length≤n→(Chs.decW l).length≤l.length:=by
 intro n;induction n with
 | zero=>intro l h;obtain rfl:=l0c (Nat.le_zero.1 h);simp [Chs.decW]
 | succ n ih =>
   intro l h
   match l,h with
   | [],_=>simp [Chs.decW]
   | [_],_=>simp [Chs.decW]
   | [a,b],_=>simp [Chs.decW]
   | [a,b,c],_=>simp [Chs.decW]
   | a::b::c::d::r,h =>
     simp only[l02] at h;rw[Chs.decW];split
     · have:=ih r Om;simp only[l02];omega
     have:=ih (c::d::r) (by simp only[l02];omega);simp only[l02] at this ⊢;omega
theorem decK_len (k:Nat)(l:Ls):(Chs.decK k l).length≤l.length:=by
 unfold Chs.decK;split
 · simp [Chs.decS]
 split
 · simp [Chs.decS]
 split
 · unfold Chs.decU;rw [l0a];exact chars_len l
 exact decW_len _ l (l0e _)
theorem decoded_len (k:Nat)(l:Ls):(decoded k l).length≤4*l.length:=by
 unfold decoded;have h1:=flatMap_len utf8 4 (Chs.decK k l) (fun a _=>(Chs.Y2i a).2);have h2:=decK_len k l;omega
theorem pw_size {t:Ls}(ht:t.length≤10000){p:Ls × Nat}(h:pw t=some p):6≤p.2∧p.2≤t.length∧p.1.length≤4*p.2:=by
 unfold pw at h;split at h
 case isFalse=>cases h
 obtain⟨⟨A,K,D,r⟩,h1,h⟩:=bnd h;dsimp only at h;split at h
 case isFalse=>cases h
 rename_i hq;obtain⟨x,hx,hp⟩:=Option.map_eq_some_iff.1 h;subst hp;have hl:=congrArg List.length (sp3_some h1).1;have hr:=hq.1.length_le;simp only[l01,l00,l02,l03] at hl hr;unfold body at hx;obtain⟨k,_,hx⟩:=bnd hx;obtain⟨b,hb,hx⟩:=Option.map_eq_some_iff.1 hx;have h2:=bytesP_len Om hb;have h3:=decoded_len k b;subst hx;dsimp only;exact⟨by omega,by omega,by omega⟩
def blk (c:UInt8):Bool:=decide (c=32∨c=9)
def after (u:Ls):Ls:=if (pw (u.dropWhile blk)).isSome then u.dropWhile blk else u
theorem after_len (u:Ls):(after u).length≤u.length:=by
 unfold after;split
 · exact(List.dropWhile_suffix _).length_le
 exact l0e _
def unF : Nat→Ls→Ls
 | 0,_=>[]
 | n + 1,t=>match t with
   | []=>[]
   | c::r=>match pw (c::r) with
     | none=>c::unF n r
     | some p=>p.1++unF n (after ((c::r).drop p.2))
theorem unF_more :∀(n m:Nat) (t:Ls),t.length≤10000→t.length<n→t.length<m→unF n t=unF m t:=by
 intro n;induction n with
 | zero=>intro m t _ h;omega
 | succ n ih =>
   intro m t ht h1 h2;obtain⟨m,rfl⟩ :∃k,m=k+1:=⟨m-1,by omega⟩
   cases t with
   | nil=>rfl
   | cons c r =>
     rw[unF,unF];simp only[l02] at ht h1 h2;cases hp:pw (c::r) with
     | none=>dsimp only;rw [ih m r Om Om Om]
     | some p =>
       dsimp only;have hz:=pw_size (by simp only[l02];omega) hp;have ha:=after_len ((c::r).drop p.2);simp only[l01,l02] at ha hz;rw[ih m _ Om Om Om]
def un (t:Ls):Ls:=unF (t.length+1) t
theorem un_nil : un []=[]:=rfl
theorem un_none {c:UInt8}{r:Ls}(h:pw (c::r)=none):un (c::r)=c::un r:=by
 unfold un;rw[unF,h];rfl
theorem un_some {t:Ls}{p:Ls × Nat}(ht:t.length≤10000)(h:pw t=some p):un t=p.1++un (after (t.drop p.2)):=by
 have hz:=pw_size ht h;cases t with
 | nil=>simp at hz;omega
 | cons c r =>
   have ha:=after_len ((c::r).drop p.2);simp only[l01,l02] at ha hz ht;unfold un;rw[unF,h];dsimp only;rw[unF_more _ ((after ((c::r).drop p.2)).length+1) _ Om (by simp only[l02];omega) Om]
theorem pw_front {c:UInt8}{r:Ls}(h:c≠61):pw (c::r)=none:=by
 unfold pw;rw[if_neg];intro e;obtain⟨t,ht⟩:=e;cases ht;exact h G
theorem blk_ne {c:UInt8}(h:blk c=true):c≠61:=by
 intro e;subst e;exact absurd h Dc
theorem un_blanks {v:Ls}:∀{b:Ls},(∀x∈b,blk x=true)→un (b++v)=b++un v
 | [],_=>rfl
 | c::b,h=>by
   rw[l05,un_none (pw_front (blk_ne (h c Sm))),un_blanks (fun x hx=>h x (by simp [hx])),l05]
theorem dropWhile_blanks {v:Ls}:∀{b:Ls},(∀x∈b,blk x=true)→(b++v).dropWhile blk=v.dropWhile blk
 | [],_=>rfl
 | c::b,h=>by
   rw[l05,l0C (h c Sm),dropWhile_blanks (fun x hx=>h x (by simp [hx]))]
theorem blank_eq (c:UInt8):Y1e c=some (blk c):=by
 unfold Y1e blk;by_cases h:c=32
 · rw[if_pos h,bsome,decide_eq_true (.inl h)]
 rw[if_neg h,bsome];simp [h]
theorem rblank_eq (c:UInt8):R_Blank c=some (blk c):=by
 unfold R_Blank blk;by_cases h:c=32
 · rw[if_pos h,bsome,decide_eq_true (.inl h)]
 rw[if_neg h,bsome];simp [h]
def fin (s:Ls)(p:Ls × Int):Option Ls:=if (0:Int)≤p.2 then(cut s p.2 (s.length:Int)).bind fun s81=>(Y08 p.1 s81).bind fun(n82,b83,l84)=>some l84 else some p.1
theorem dec_end {s:Ls}{m i:Nat}{out:Ls}{g:Int}(hi :¬i<s.length):Y04 s (m+1) out g (i:Int)=some (out,g):=by
 rw[Y04,if_neg Om]
theorem dec_word {s:Ls}{m i:Nat}{out:Ls}{g:Int}{x:Ls}{k:Nat}(hi:i<s.length)(hs:s.length≤4000)(hk:k≤10000)(ho:out.length+x.length≤1000000)
 (hr:Y2n (s.drop i)=some (x,(k:Int),true)):Y04 s (m+1) out g (i:Int)=Y04 s m (out++x) ((i+k:Nat):Int) ((i+k:Nat):Int):=by
 rw[Y04,if_pos Om,cut_from rfl Om,bsome,hr,bsome];dsimp only;rw[if_pos rfl];unfold Y08;rw[app_ok Om,bsome,bsome];dsimp only;rw[show (i:Int)+(k:Int)=((i+k:Nat):Int) by omega,chk_ok Om Om,bsome]
theorem dec_free {s:Ls}{m i:Nat}{out x:Ls}{n:Int}(hi:i<s.length)(hs:s.length≤4000)(ho:out.length≤1000000)
 (hr:Y2n (s.drop i)=some (x,n,false)):Y04 s (m+1) out (-1) (i:Int)=Y04 s m (out++[s[i]]) (-1) ((i+1:Nat):Int):=by
 rw[Y04,if_pos Om,cut_from rfl Om,bsome,hr,bsome];dsimp only;rw[if_neg l06,if_pos Dc,idx_nat,List.getElem?_eq_getElem hi,bsome];unfold Y0p;rw[app_ok (by simp;omega),bsome,bsome];dsimp only;rw[bsome,if_neg Dc,bsome,if_neg l06,bsome];dsimp only;rw[chk_succ Om,bsome]
theorem dec_blank {s:Ls}{m i g:Nat}{out x:Ls}{n:Int}(hi:i<s.length)(hs:s.length≤4000)(hb:blk s[i]=true)
 (hr:Y2n (s.drop i)=some (x,n,false)):Y04 s (m+1) out (g:Int) (i:Int)=Y04 s m out (g:Int) ((i+1:Nat):Int):=by
 rw[Y04,if_pos Om,cut_from rfl Om,bsome,hr,bsome];dsimp only;rw[if_neg l06,if_neg Om,bsome,if_pos Om,idx_nat,List.getElem?_eq_getElem hi,bsome,blank_eq,hb,bsome,bsome,if_neg Dc,bsome];dsimp only;rw[chk_succ Om,bsome]
theorem dec_flush {s:Ls}{m i g:Nat}{out x:Ls}{n:Int}(hi:i<s.length)(hs:s.length≤4000)(hg:g≤i)(ho:out.length≤1000000)(hb:blk s[i]=false)
 (hr:Y2n (s.drop i)=some (x,n,false)):Y04 s (m+1) out (g:Int) (i:Int)=Y04 s m (out++(s.take (i+1)).drop g) (-1) ((i+1:Nat):Int):=by
 have hl:((s.take (i+1)).drop g).length≤4000:=by rw[l01,l04];omega
 rw[Y04,if_pos Om,cut_from rfl Om,bsome,hr,bsome];dsimp only;rw[if_neg l06,if_neg Om,bsome,if_pos Om,idx_nat,List.getElem?_eq_getElem hi,bsome,blank_eq,hb,bsome,bsome,if_pos Dc,chk_succ Om,bsome,cut_of (a:=g) (b:=i+1) rfl rfl Om Om,bsome];unfold Y08;rw[app_ok Om,bsome,bsome];dsimp only;rw[bsome];dsimp only;rw[bsome]
theorem dec_L1 (s:Ls)(hs:s.length≤4000):∀(d i m:Nat),s.length-i≤d→d<m→i≤s.length→
 (∀out:Ls,out.length≤4*i→(Y04 s m out (-1) (i:Int)).bind (fin s)=some (out++un (s.drop i)))∧
 (∀(out:Ls) (g:Nat),out.length≤4*g→g≤i→(∀x∈(s.take i).drop g,blk x=true)→(Y04 s m out (g:Int) (i:Int)).bind (fin s)=some (out++un (after (s.drop g)))):=by
 intro d;induction d using Nat.strongRecOn with
 | ind d ih =>
   intro i m h1 h2 h3;obtain⟨m,rfl⟩ :∃k,m=k+1:=⟨m-1,by omega⟩
   have hgap :∀g,g≤i→s.drop g=(s.take i).drop g++s.drop i:=by
    intro g hg
    conv=>lhs;rw [←l0J i s]
    rw[l0P (by rw[l04];omega)]
   by_cases hi:i<s.length
   · have hd:=l09 hi;obtain⟨x,n,hr,hx⟩:=read_eq (s.drop i) (by rw[l01];omega);cases hp:pw (s.drop i) with
     | some p =>
       obtain⟨rfl,rfl⟩:=hx p hp;rw[hp,l1V] at hr;have hz:=pw_size (by rw[l01];omega) hp;rw[l01] at hz;have hun:=un_some (by rw[l01];omega) hp;rw[l0l] at hun;have key :∀(out:Ls) (g:Int),out.length≤4*i→(Y04 s (m+1) out g (i:Int)).bind (fin s)=some (out++un (s.drop i)):=by
        intro out g ho;rw[dec_word hi hs Om Om hr,(ih (d-p.2) Om (i+p.2) m Om Om Om).2 (out++p.1) (i+p.2) (by rw[l00];omega) (l0e _) (by rw[l08 (by rw[l04];omega)];simp),hun,l0d]
       refine⟨fun out ho=>key out _ ho,fun out g ho hg hb=>?_⟩;rw[key out _ Om];have hnb:(s.drop i).dropWhile blk=s.drop i:=by
        rw[hd] at hp ⊢;refine l0Z (fun e=>?_);rw[pw_front (blk_ne e)] at hp;cases hp
       have:after (s.drop g)=s.drop i:=by
        unfold after;rw[hgap g hg,dropWhile_blanks hb,hnb,hp,l1V,if_pos rfl]
       rw[this]
     | none =>
       rw[hp,l1w] at hr;have hun:un (s.drop i)=s[i]::un (s.drop (i+1)):=by rw[hd] at hp ⊢;exact un_none hp
       refine⟨fun out ho=>?_,fun out g ho hg hb=>?_⟩
       · rw[dec_free hi hs Om hr,(ih (d-1) Om (i+1) m Om Om Om).1 _ (by rw[l00,l1J];omega),hun];simp
       have ht:(s.take (i+1)).drop g=(s.take i).drop g++[s[i]]:=by
        rw[l0n hi,l0P (by rw[l04];omega)]
       by_cases hbk:blk s[i]=true
       · rw[dec_blank hi hs hbk hr];refine(ih (d-1) Om (i+1) m Om Om Om).2 out g ho Om ?_;rw[ht];intro x hx;rcases List.mem_append.1 hx with h|h
         · exact hb x h
         rw[List.mem_singleton.1 h];exact hbk
       rw[dec_flush hi hs hg Om (by simpa using hbk) hr,(ih (d-1) Om (i+1) m Om Om Om).1 _ (by rw[l00,l01,l04];omega)];have hnb:(s.drop i).dropWhile blk=s.drop i:=by rw[hd];exact l0Z hbk
       have:after (s.drop g)=s.drop g:=by
        unfold after;rw[if_neg];rw[hgap g hg,dropWhile_blanks hb,hnb,hp];decide
       rw[this,hgap g hg,un_blanks hb,hun,ht];simp
   have he:s.drop i=[]:=l08 Om;refine⟨fun out ho=>?_,fun out g ho hg hb=>?_⟩
   · rw[dec_end hi,bsome,he];unfold fin;dsimp only;rw[if_neg Dc,un_nil,l0k]
   rw[dec_end hi,bsome];unfold fin;dsimp only;rw[if_pos Om,cut_from rfl Om,bsome];unfold Y08;rw[app_ok (by rw[l01];omega),bsome,bsome];have:after (s.drop g)=s.drop g:=by
    unfold after;rw[if_neg];rw[hgap g hg,dropWhile_blanks hb,he];decide
   rw[this];dsimp only;rw[hgap g hg,un_blanks hb,he,un_nil]
theorem decode_eq {s:Ls}(hs:s.length≤4000):Y1l s=some (un s,(0,0)):=by
 have h:=(dec_L1 s hs s.length 0 FU Om (by unfold FU;omega) Om).1 [] Sm;rw[l2o,l0m,l07] at h;unfold Y1l;rw[if_neg Om];obtain⟨⟨o,g⟩,h1,h2⟩:=bnd h;rw[h1,bsome];unfold fin at h2;dsimp only at h2 ⊢;rw[h2,bsome];rfl
theorem skip_L2 (s:Ls)(hs:s.length≤4000):∀(d i m:Nat),s.length-i≤d→d<m→i≤s.length→∃j:Nat,Y1x s m (i:Int)=some (j:Int)∧i≤j∧j≤s.length∧s.drop j=(s.drop i).dropWhile blk:=by
 intro d;induction d with
 | zero =>
   intro i m h1 h2 h3;obtain⟨m,rfl⟩ :∃k,m=k+1:=⟨m-1,by omega⟩
   refine⟨i,?_,l0e _,h3,?_⟩
   · rw[Y1x,if_neg Om,bsome,if_neg l06]
   rw[l08 Om];rfl
 | succ d ih =>
   intro i m h1 h2 h3;obtain⟨m,rfl⟩ :∃k,m=k+1:=⟨m-1,by omega⟩
   by_cases hi:i<s.length
   · have hd:=l09 hi;rw[Y1x,if_pos Om,idx_nat,List.getElem?_eq_getElem hi,bsome,rblank_eq,bsome,bsome];by_cases hb:blk s[i]=true
     · obtain⟨j,j1,j2,j3,j4⟩:=ih (i+1) m Om Om Om;rw[if_pos hb,chk_succ Om,bsome];refine⟨j,j1,by omega,j3,?_⟩;rw[j4,hd,l0C hb]
     rw[if_neg hb];exact⟨i,G,l0e _,h3,by rw[hd,l0Z hb]⟩
   refine⟨i,?_,l0e _,h3,?_⟩
   · rw[Y1x,if_neg Om,bsome,if_neg l06]
   rw[l08 Om];rfl
theorem unw_L1 (s:Ls)(hs:s.length≤4000):∀(d i m:Nat) (out:Ls),s.length-i≤d→d<m→i≤s.length→out.length≤4*i→Y11 s m out (i:Int)=some (out++un (s.drop i)):=by
 intro d;induction d using Nat.strongRecOn with
 | ind d ih =>
   intro i m out h1 h2 h3 h4;obtain⟨m,rfl⟩ :∃k,m=k+1:=⟨m-1,by omega⟩
   rw[Y11];by_cases hi:i<s.length
   · have hd := l09 hi;rw[if_pos Om,wordAt_eq s i Om Om,bsome];cases hp:pw (s.drop i) with
     | none =>
       have hun:un (s.drop i)=s[i]::un (s.drop (i+1)):=by rw[hd] at hp ⊢;exact un_none hp
       have hsl:(s.take (i+1)).drop i=[s[i]]:=by
        rw[l0n hi,l0P (by rw[l04];omega),l08 (by rw[l04];omega)];rfl
       unfold ans;dsimp only;rw[if_pos rfl,chk_succ Om,bsome,cut_of (a:=i) (b:=i+1) rfl rfl Om Om,bsome,hsl,cat_ok (by simp;omega),bsome,bsome,ih (d-1) Om (i+1) m _ Om Om Om (by rw[l00,l1J];omega),hun];simp
     | some p =>
       have hz:=pw_size (by rw[l01];omega) hp;rw[l01] at hz;have hun:=un_some (by rw[l01];omega) hp;rw[l0l] at hun;unfold ans;dsimp only;rw[if_neg Om,cat_ok Om,bsome,show (i:Int)+(p.2:Int)=((i+p.2:Nat):Int) by omega,chk_ok Om Om,bsome];obtain⟨j,j1,j2,j3,j4⟩:=skip_L2 s hs s.length (i+p.2) FU Om (by unfold FU;omega) Om;rw[j1,bsome];have here:pw ((s.drop (i+p.2)).dropWhile blk)=none∨j=i+p.2→Y11 s m (out++p.1) ((i+p.2:Nat):Int)=some (out++un (s.drop i)):=by
        intro hor;rw[ih (d-p.2) Om (i+p.2) m _ Om Om Om (by rw[l00];omega),hun];have:after (s.drop (i+p.2))=s.drop (i+p.2):=by
         unfold after;split
         · rename_i hs1;rcases hor with h|h
           · rw[h] at hs1;cases hs1
           rw[←j4,h]
         rfl
        rw[this,l0d]
       by_cases hj:i+p.2<j
       · rw[if_pos Om,bsome];by_cases hj2:j<s.length
         · rw [if_pos (decide_eq_true Om),wordAt_eq s j Om Om,bsome];cases hq:pw (s.drop j) with
           | none =>
             unfold ans;dsimp only;rw[if_neg Dc];exact here (.inl (by rw[←j4];exact hq))
           | some q =>
             have hy:=pw_size (by rw[l01];omega) hq;unfold ans;dsimp only;rw[if_pos Om,ih (d-p.2) Om j m _ Om Om Om (by rw[l00];omega),hun];have:after (s.drop (i+p.2))=s.drop j:=by
              unfold after;rw[if_pos,j4];rw[←j4,hq];rfl
             rw[this,l0d]
         rw[if_neg (by rw[decide_eq_true_eq];omega)];exact here (.inl (by rw[←j4,l08 Om];rfl))
       rw[if_neg Om,bsome,if_neg l06];exact here (.inr Om)
   rw[if_neg Om,l08 Om,un_nil,l0k]
theorem unworded_eq {s:Ls}(hs:s.length≤4000):Y3p s=some (un s):=by
 have h:=unw_L1 s hs s.length 0 FU [] Om (by unfold FU;omega) Om Sm;rw[l2o,l0m,l07] at h;unfold Y3p;rw[h,bsome]
end Go.Ph.Wd
end
section
namespace Go.Ph.Ad
open Go.Ph.Pl Go.Ph.Pf
abbrev Wrd : Type:=Ls × Bool
def nd : LT→Bool
 | .err=>true
 | .eof=>false
 | .tok _ t=>nd t
def sz : LT→Nat
 | .tok (.inr w) t=>w.1.length+1+sz t
 | .tok (.inl _) t=>sz t
 | _=>0
def dp : LT→Nat
 | .tok _ t=>dp t+1
 | _=>0
def wz : List Wrd→Nat
 | []=>0
 | w::l=>w.1.length+1+wz l
def jl : List Ls→Nat
 | []=>0
 | w::l=>w.length+1+jl l
theorem jl_app (x:Ls):∀l:List Ls,jl (l++[x])=jl l+(x.length+1)
 | []=>by simp [jl]
 | y::l=>by rw[l05,jl,jl,jl_app x l];omega
theorem jl_len :∀l:List Ls,l.length≤jl l
 | []=>l1c _
 | y::l=>by have:=jl_len l;rw [jl,l02];omega
theorem jn_jl :∀l:List Ls,(jn [32] l).length≤jl l-1
 | []=>l1c _
 | [x]=>by simp [jn,jl]
 | x::y::l=>by
   have:=jn_jl (y::l);rw[jn,jl];simp only[l00,l02,l03,jl] at this ⊢;omega
theorem wz_mem :∀{l:List Wrd} {x:Wrd},x∈l→x.1.length≤wz l
 | y::l,x,h=>by
   rw[wz];rcases List.mem_cons.1 h with rfl|h
   · omega
   have:=wz_mem h;omega
theorem un_len :∀(n:Nat) (t:Ls),t.length≤n→t.length≤10000→(Wd.un t).length≤4*t.length:=by
 intro n;induction n with
 | zero=>intro t h _;rw [l0c (by omega:t.length=0),Wd.un_nil];simp
 | succ n ih =>
   intro t h h2;cases t with
   | nil=>rw[Wd.un_nil];simp
   | cons c r =>
     cases hp:Wd.pw (c::r) with
     | none =>
       have:=ih r (by simp at h;omega) (by simp at h2;omega);rw[Wd.un_none hp];simp;omega
     | some p =>
       have hz:=Wd.pw_size h2 hp;have ha:=Wd.after_len ((c::r).drop p.2);rw[l01] at ha;have:=ih _ (by omega:(Wd.after ((c::r).drop p.2)).length≤n) Om;rw[Wd.un_some h2 hp,l00];omega
theorem named1 (run out:List Ls)(h1:jl run≤4001)(h2:jl out≤100000):∃o,Y1n run out=some ([],o)∧jl o≤jl out+4*jl run:=by
 unfold Y1n;cases run with
 | nil=>exact⟨out,rfl,by omega⟩
 | cons x r =>
   have hj:=jn_jl (x::r);have hl:=jl_len out;have hr:=jl_len (x::r);have hu:=un_len _ (jn [32] (x::r)) (l0e _) Om;have hx:1≤jl (x::r):=by rw[jl];omega
   unfold Y0t;rw[if_pos Sm,if_pos ⟨by omega,by omega⟩,bsome,Wd.decode_eq Om,bsome];dsimp only;rw[app_ok (by simp;omega),bsome];exact⟨_,G,by rw[jl_app];omega⟩
theorem namedL (l:List Wrd)(hw:l.length≤100000):∀(k i m:Nat) (out run:List Ls),l.length-i≤k→k<m→i≤l.length→jl run+wz (l.drop i)≤4001→jl out+4*jl run+4*wz (l.drop i)≤100000→
 ∃o r,Y0n l m out run (i:Int)=some (o,r)∧jl r≤4001∧jl o+4*jl r≤jl out+4*jl run+4*wz (l.drop i):=by
 intro k;induction k with
 | zero =>
   intro i m out run h1 h2 h3 h4 h5;obtain⟨m,rfl⟩ :∃k,m=k+1:=⟨m-1,by omega⟩
   rw[Y0n,if_neg Om];exact⟨_,_,G,by omega,by omega⟩
 | succ k ih =>
   intro i m out run h1 h2 h3 h4 h5;obtain⟨m,rfl⟩ :∃k,m=k+1:=⟨m-1,by omega⟩
   by_cases hi:i<l.length
   · rw[l09 hi,wz] at h4 h5 ⊢;rw[Y0n,if_pos Om,idx_nat,List.getElem?_eq_getElem hi,bsome];have hlo:=jl_len out;have hlr:=jl_len run;by_cases hq:l[i].2=true
     · obtain⟨o,e1,e2⟩:=named1 run out Om Om;have hl2:=jl_len o;rw[if_pos hq,e1,bsome];dsimp only;rw[app_ok (by simp;omega),bsome,chk_succ Om,bsome];obtain⟨o',r',q1,q2,q3⟩:=ih (i+1) m (o++[l[i].1]) [] Om Om Om (by rw[jl];omega) (by rw[jl_app,jl];omega);rw[jl_app,jl] at q3;exact⟨o',r',q1,q2,by omega⟩
     rw[if_neg hq,app_ok (by simp;omega),bsome,chk_succ Om,bsome];obtain⟨o',r',q1,q2,q3⟩:=ih (i+1) m out (run++[l[i].1]) Om Om Om (by rw[jl_app];omega) (by rw[jl_app];omega);rw[jl_app] at q3;exact⟨o',r',q1,q2,by omega⟩
   rw[Y0n,if_neg Om];exact⟨_,_,G,by omega,by omega⟩
theorem wz_len :∀l:List Wrd,l.length≤wz l
 | []=>l1c _
 | y::l=>by have:=wz_len l;rw [wz,l02];omega
def nam (l:List Wrd):Ls:=(Y1A l).getD []
theorem named_eq (l:List Wrd)(h:wz l≤4001):Y1A l=some (nam l)∧(nam l).length≤100000:=by
 have hl:=wz_len l;obtain⟨o,r,q1,q2,q3⟩:=namedL l Om l.length 0 FU [] [] Om (FU_gt Om) Om (by rw[jl,l0m];omega) (by rw[jl,l0m];omega);rw[jl,l0m] at q3;obtain⟨o',q4,q5⟩:=named1 r o q2 Om;have hj:=jn_jl o';have ho:=jl_len o';have:Y1A l=some (jn [32] o'):=by
  unfold Y1A;rw[show (0:Int)=((0:Nat):Int) from rfl,q1,bsome];dsimp only;rw[q4,bsome];dsimp only;unfold Y0t;rw[if_pos ⟨by omega,by omega⟩,bsome]
 unfold nam;rw[this];exact⟨G,by dsimp only[Option.getD];omega⟩
theorem lex_cons (c:UInt8)(l:Ls):lex (c::l)=if blB c=true then lex l else if c=40 then(match cmtF 1 l with|none => .err|some r=>lex r) else if c=34 then(match quF l with|none => .err|some p => .tok (.inr (p.1,true)) (lex p.2)) else
 if sgB c=true then .tok (.inl c) (lex l) else if waB c=true then .tok (.inr ((c::l).takeWhile waB,false)) (lex ((c::l).dropWhile waB)) else .err:=by
 by_cases h1:blB c=true
 · rw[if_pos h1,lex_blank h1]
 rw[if_neg h1,lex_eq];unfold nxF;rw[sk_cons,if_neg h1];by_cases h2:c=40
 · rw[if_pos h2,if_pos h2];cases cmtF 1 l with
   | none=>rfl
   | some r=>rw[bsome];dsimp only;rw [lex_eq];rfl
 rw[if_neg h2,if_neg h2,bsome];dsimp only;by_cases h3:c=34
 · rw[if_pos h3,if_pos h3];cases quF l <;> rfl
 rw[if_neg h3,if_neg h3];by_cases h4:sgB c=true
 · rw[if_pos h4,if_pos h4];rfl
 rw[if_neg h4,if_neg h4];by_cases h5:waB c=true
 · rw[if_pos h5,if_pos h5];rfl
 rw[if_neg h5,if_neg h5]
theorem quF_sz :∀(l:Ls) (p:Ls × Ls),quF l=some p→p.1.length+p.2.length<l.length
 | [],p,h=>by simp [quF] at h
 | [c],p,h=>by
   rw[quF] at h;split at h
   · cases h;simp
   cases h
 | c :: x::l,p,h=>by
   rw[quF] at h;split at h
   · cases h;simp
   split at h
   · obtain⟨q,h1,rfl⟩:=Option.map_eq_some_iff.1 h;have:=quF_sz l q h1;simp;omega
   obtain⟨q,h1,rfl⟩:=Option.map_eq_some_iff.1 h;have:=quF_sz (x::l) q h1;simp at this ⊢;omega
theorem lex_size :∀(n:Nat) (l:Ls),l.length≤n→sz (lex l)≤l.length+1∧dp (lex l)≤l.length∧((∀c r,l=c::r→waB c=false)→sz (lex l)≤l.length):=by
 intro n;induction n with
 | zero=>intro l h;rw [l0c (by omega:l.length=0),lex_nil];simp [sz,dp]
 | succ n ih =>
   intro l h;cases l with
   | nil=>rw[lex_nil];simp [sz,dp]
   | cons c l =>
     rw[l02] at h;rw[lex_cons,l02];by_cases h1:blB c=true
     · rw[if_pos h1];have:=ih l Om;omega
     rw[if_neg h1];by_cases h2:c=40
     · rw[if_pos h2];have hc:=cmtF_len l 1;revert hc;cases cmtF 1 l with
       | none=>intro _;simp [sz,dp]
       | some r=>intro hc;have:=hc r rfl;have:=ih r Om;dsimp only;omega
     rw[if_neg h2];by_cases h3:c=34
     · rw[if_pos h3];have hc:=quF_sz l;revert hc;cases quF l with
       | none=>intro _;simp [sz,dp]
       | some p=>intro hc;have:=hc p rfl;have:=ih p.2 Om;dsimp only;rw [sz,dp];dsimp only;omega
     rw[if_neg h3];by_cases h4:sgB c=true
     · rw[if_pos h4,sz,dp];have:=ih l Om;omega
     rw[if_neg h4];by_cases h5:waB c=true
     · rw[if_pos h5,sz,dp];have e:((c::l).takeWhile waB).length+((c::l).dropWhile waB).length=l.length+1:=by rw[←l00,l2r,l02]
       have e2:1≤((c::l).takeWhile waB).length:=by rw[l0o h5];simp
       have:=ih ((c::l).dropWhile waB) Om;have hd:=this.2.2 (fun d r hd=>by
        have:=List.head?_dropWhile_not waB (c::l);rw[hd] at this;simpa using this)
       refine⟨by dsimp only;omega,by omega,fun hc=>?_⟩;rw[hc c l rfl] at h5;cases h5
     rw[if_neg h5];simp [sz,dp]
def ub (c:Ls):Ls:=9::40::(c++[41,32])
abbrev St (t t':LT):Prop:=nd t'=nd t∧dp t'≤dp t∧sz t'≤sz t
theorem wordsS_st :∀(t:LT) (l:List Wrd) (t':LT),wordsS t=some (l,t')→nd t'=nd t∧l.length+dp t'≤dp t∧wz l+sz t'≤sz t
 | .err,l,t',h=>by cases h
 | .eof,l,t',h=>by cases h;exact ⟨rfl,l0e _,l0e _⟩
 | .tok (.inl c) t,l,t',h=>by cases h;exact ⟨rfl,by simp,by simp [wz]⟩
 | .tok (.inr w) t,l,t',h=>by
   rw[wordsS] at h;obtain⟨q,h1,h2⟩:=Option.map_eq_some_iff.1 h;cases h2;obtain⟨e1,e2,e3⟩:=wordsS_st t q.1 q.2 h1;rw[nd,dp,sz,wz,l02];exact⟨e1,by omega,by omega⟩
theorem isS_st {c:UInt8}{t t':LT}{b:Bool}(h:isS c t=some (b,t')):St t t'∧(b=true→dp t'<dp t):=by
 cases t with
 | err=>cases h
 | eof=>cases h;exact ⟨⟨rfl,l0e _,l0e _⟩,fun h=>by cases h⟩
 | tok e t =>
   cases e with
   | inr w=>cases h;exact ⟨⟨rfl,l0e _,l0e _⟩,fun h=>by cases h⟩
   | inl d =>
     rw[isS] at h;split at h
     · cases h;exact ⟨⟨rfl,by rw[dp];omega,by rw[sz];omega⟩,fun _=>by rw[dp];omega⟩
     cases h;exact ⟨⟨rfl,l0e _,l0e _⟩,fun h=>by cases h⟩
theorem needS_st {c:UInt8}{t t':LT}(h:needS c t=some t'):St t t'∧dp t'<dp t:=by
 obtain⟨⟨b,u⟩,h1,h2⟩:=bnd h;have:=isS_st h1;cases b with
 | true=>cases h2;exact ⟨this.1,this.2 rfl⟩
 | false=>cases h2
def domS : LT→Option (Ls × LT)
 | .tok (.inr (d,false)) t=>if domT d=true then some (d,t) else none
 | _=>none
def spcS (l:List Wrd)(t:LT):Option (Adr × LT) :=
 match l with
 | [(w,q)]=>if locT w=true∧(q=true∨dtF atB true w=true) then(needS 64 t).bind fun t=>(domS t).map fun p=>(([],w,p.1),p.2) else none
 | _=>none
def adrS (l:List Wrd)(t:LT):Option (Adr × LT) :=
 (isS 60 t).bind fun p=>if p.1=true then(wordsS p.2).bind fun q=>(spcS q.1 q.2).bind fun r=>(needS 62 r.2).map fun t=>((nam l,r.1.2),t) else spcS l p.2
def itmL : Nat→List Adr→LT→Option (List Adr × LT)
 | 0,_,_=>none
 | n+1,m,t=>(wordsS t).bind fun q=>(adrS q.1 q.2).bind fun r=>(isS 59 r.2).bind fun u=>if u.1=true then some (m++[r.1],u.2) else(needS 44 u.2).bind fun t=>itmL n (m++[r.1]) t
def itmS (t:LT):Option (Itm × LT) :=
 (wordsS t).bind fun q=>(isS 58 q.2).bind fun p=>if p.1=true then(if nam q.1=[] then none else(isS 59 p.2).bind fun u=>if u.1=true then some ((nam q.1,true,[]),u.2) else(itmL (dp u.2+1) [] u.2).map fun r=>((nam q.1,true,r.1),r.2))
  else(adrS q.1 p.2).map fun r=>(([],false,[r.1]),r.2)
def prsL : Nat→List Itm→LT→Option (List Itm × LT)
 | 0,_,_=>none
 | n+1,l,t=>(isS 44 t).bind fun p=>if p.1=true then(itmS p.2).bind fun r=>prsL n (l++[r.1]) r.2 else some (l,p.2)
def prsS (t:LT):Option (List Itm) :=
 match t with
 | .eof=>some []
 | t=>(itmS t).bind fun r=>(prsL (dp r.2+1) [r.1] r.2).bind fun p=>match p.2 with
   | .eof=>some p.1
   | _=>none
abbrev SzA (a:Adr):Prop:=a.1.length≤100000∧a.2.1.length≤100000∧a.2.2.length≤100000
abbrev SzI (x:Itm):Prop:=x.1.length≤100000∧x.2.2.length≤100000∧∀a∈x.2.2,SzA a
theorem domS_st {t t':LT}{d:Ls}(h:domS t=some (d,t')):St t t'∧d.length≤60:=by
 cases t with
 | err=>cases h
 | eof=>cases h
 | tok e t =>
   cases e with
   | inl c=>cases h
   | inr w =>
     obtain⟨w,q⟩:=w;cases q with
     | true=>cases h
     | false =>
       rw[domS] at h;split at h
       · rename_i hd;cases h;exact ⟨⟨rfl,by rw[dp];omega,by rw[sz];omega⟩,dom_len hd⟩
       cases h
theorem spcS_st {l:List Wrd}{t t':LT}{a:Adr}(h:spcS l t=some (a,t')):St t t'∧SzA a:=by
 unfold spcS at h;split at h
 · rename_i w q;split at h
   · rename_i hw;obtain⟨u,h1,h2⟩:=bnd h;obtain⟨p,h3,h4⟩:=Option.map_eq_some_iff.1 h2;cases h4;have e1:=needS_st h1;have e2:=domS_st h3;have e3:=loc_len hw.1;exact⟨⟨e2.1.1.trans e1.1.1,l0A e2.1.2.1 e1.1.2.1,l0A e2.1.2.2 e1.1.2.2⟩,by simp,by dsimp only;omega,by dsimp only;omega⟩
   cases h
 cases h
theorem adrS_st {l:List Wrd}{t t':LT}{a:Adr}(hl:wz l≤4001)(h:adrS l t=some (a,t')):St t t'∧SzA a:=by
 obtain⟨⟨b,u⟩,h1,h2⟩:=bnd h;have e1:=(isS_st h1).1;dsimp only at h2;split at h2
 · obtain⟨⟨m,v⟩,h3,h4⟩:=bnd h2;obtain⟨⟨c,w⟩,h5,h6⟩:=bnd h4;obtain⟨x,h7,h8⟩:=Option.map_eq_some_iff.1 h6;cases h8;have e2:=wordsS_st _ _ _ h3;have e3:=spcS_st h5;have e4:=needS_st h7;have e5:=(named_eq l hl).2;exact⟨⟨e4.1.1.trans (e3.1.1.trans (e2.1.trans e1.1)),by have:=e4.1.2.1;have:=e3.1.2.1;have:=e1.2.1;dsimp only at *;omega,by have:=e4.1.2.2;have:=e3.1.2.2;have:=e1.2.2;dsimp only at *;omega⟩,e5,e3.2.2⟩
 have e2:=spcS_st h2;exact⟨⟨e2.1.1.trans e1.1,l0A e2.1.2.1 e1.2.1,l0A e2.1.2.2 e1.2.2⟩,e2.2⟩
theorem itmL_st :∀(n:Nat) (m:List Adr) (t:LT) (m':List Adr) (t':LT),sz t≤4001→m.length+dp t≤100000→(∀a∈m,SzA a)→itmL n m t=some (m',t')→St t t'∧m'.length≤100000∧∀a∈m',SzA a:=by
 intro n;induction n with
 | zero=>intro m t m' t' _ _ _ h;cases h
 | succ n ih =>
   intro m t m' t' hs hd hm h;rw[itmL] at h;obtain⟨⟨l,u⟩,h1,h2⟩:=bnd h;obtain⟨⟨a,v⟩,h3,h4⟩:=bnd h2;obtain⟨⟨b,w⟩,h5,h6⟩:=bnd h4;have e1:=wordsS_st _ _ _ h1;dsimp only at h3 h5 h6;have e2:=adrS_st Om h3;have e3:=isS_st h5;have hma :∀x∈m++[a],SzA x:=by
    intro x hx;rcases List.mem_append.1 hx with hx|hx
    · exact hm x hx
    rw[List.mem_singleton.1 hx];exact e2.2
   have hn:=e3.1.1.trans (e2.1.1.trans e1.1);have hdp:=e2.1.2.1;have hsz:=e2.1.2.2;have hdq:=e3.1.2.1;have hsq:=e3.1.2.2;split at h6
   · rename_i hb;cases h6;have:=e3.2 hb;exact⟨⟨hn,by omega,by omega⟩,by simp;omega,hma⟩
   obtain⟨x,h7,h8⟩:=bnd h6;have e4:=needS_st h7;have:=e4.1.2.1;have:=e4.1.2.2;have:=e4.2;obtain⟨q1,q2⟩:=ih (m++[a]) x m' t' Om (by simp;omega) hma h8;have:=q1.2.1;have:=q1.2.2;exact⟨⟨q1.1.trans (e4.1.1.trans hn),by omega,by omega⟩,q2⟩
theorem itmS_st {t t':LT}{x:Itm}(hs:sz t≤4001)(hd:dp t≤4001)(h:itmS t=some (x,t')):St t t'∧SzI x:=by
 obtain⟨⟨l,u⟩,h1,h2⟩:=bnd h;obtain⟨⟨b,v⟩,h3,h4⟩:=bnd h2;have e1:=wordsS_st _ _ _ h1;dsimp only at h3 h4;have e2:=(isS_st h3).1;have hn:=e2.1.trans e1.1;have hdp:=e2.2.1;have hsz:=e2.2.2;have e5:=(named_eq l Om).2;split at h4
 · split at h4
   · cases h4
   obtain⟨⟨c,w⟩,h5,h6⟩:=bnd h4;have e3:=(isS_st h5).1;have:=e3.2.1;have:=e3.2.2;dsimp only at h6;split at h6
   · cases h6;exact⟨⟨e3.1.trans hn,by omega,by omega⟩,e5,by simp,by simp⟩
   obtain⟨⟨m,y⟩,h7,h8⟩:=Option.map_eq_some_iff.1 h6;cases h8;obtain⟨q1,q2,q3⟩:=itmL_st _ [] _ _ _ Om (by simp;omega) Sm h7;have:=q1.2.1;have:=q1.2.2;exact⟨⟨q1.1.trans (e3.1.trans hn),by dsimp only;omega,by dsimp only;omega⟩,e5,q2,q3⟩
 obtain⟨⟨a,y⟩,h7,h8⟩:=Option.map_eq_some_iff.1 h4;cases h8;obtain⟨q1,q2⟩:=adrS_st Om h7;have:=q1.2.1;have:=q1.2.2;exact⟨⟨q1.1.trans hn,by dsimp only;omega,by dsimp only;omega⟩,by simp,by simp,fun x hx=>by rw[List.mem_singleton.1 hx];exact q2⟩
theorem prsL_st :∀(n:Nat) (m:List Itm) (t:LT) (m':List Itm) (t':LT),sz t≤4001→dp t≤4001→m.length+dp t≤100000→(∀x∈m,SzI x)→prsL n m t=some (m',t')→nd t'=nd t∧m'.length≤100000∧∀x∈m',SzI x:=by
 intro n;induction n with
 | zero=>intro m t m' t' _ _ _ _ h;cases h
 | succ n ih =>
   intro m t m' t' hs hd1 hd hm h;rw[prsL] at h;obtain⟨⟨b,u⟩,h1,h2⟩:=bnd h;have e1:=isS_st h1;have:=e1.1.2.1;have:=e1.1.2.2;dsimp only at h2;split at h2
   · rename_i hb;have:=e1.2 hb;obtain⟨⟨x,v⟩,h3,h4⟩:=bnd h2;have e2:=itmS_st Om Om h3;have:=e2.1.2.1;have:=e2.1.2.2;obtain⟨q1,q2⟩:=ih (m++[x]) v m' t' Om Om (by simp;omega) (by
      intro y hy;rcases List.mem_append.1 hy with hy|hy
      · exact hm y hy
      rw[List.mem_singleton.1 hy];exact e2.2) h4
     exact⟨q1.trans (e2.1.1.trans e1.1.1),q2⟩
   cases h2;exact⟨e1.1.1,by omega,hm⟩
theorem prsS_st {t:LT}{l:List Itm}(hs:sz t≤4001)(hd:dp t≤4001)(h:prsS t=some l):nd t=false∧l.length≤100000∧∀x∈l,SzI x:=by
 unfold prsS at h;split at h
 · cases h;exact ⟨rfl,by simp,by simp⟩
 obtain⟨⟨x,u⟩,h1,h2⟩:=bnd h;obtain⟨⟨m,v⟩,h3,h4⟩:=bnd h2;have e1:=itmS_st hs hd h1;have:=e1.1.2.1;have:=e1.1.2.2;dsimp only at h3 h4;have e2:=prsL_st _ [x] u m v Om Om (by simp;omega) (fun y hy=>by rw[List.mem_singleton.1 hy];exact e1.2) h3;split at h4
 · cases h4;exact⟨(e2.1.trans e1.1.1).symm,e2.2⟩
 cases h4
theorem RnS.bind {α β:Type}{s:Ls}{f:Option ((α × (Ls × Int)) ⊕ Int)}{x:Option (α × LT)}{k:(α × (Ls × Int)) ⊕ Int→Option ((β × (Ls × Int)) ⊕ Int)}{g:α × LT→Option (β × LT)}(h:RnS s f x)
 (hk :∀a (j:Nat) t,j≤s.length→t=lex (s.drop j)→x=some (a,t)→RnS s (k (.inl (a,(s,(j:Int))))) (g (a,t))) (hn :∀n,k (.inr n)=some (.inr n)):RnS s (f.bind k) (x.bind g):=by
 cases x with
 | none=>obtain⟨n,h1,h2⟩:=h;rw [h2,bsome,hn];exact ⟨n,h1,rfl⟩
 | some p=>obtain⟨a,t⟩:=p;obtain ⟨j,h1,h2,h3⟩:=h;rw [h3,bsome,bsome];exact hk a j t h1 h2 rfl
theorem RsS.bind {β:Type}{s:Ls}{f:Option ((Ls × Int) ⊕ Int)}{x:Option LT}{k:(Ls × Int) ⊕ Int→Option ((β × (Ls × Int)) ⊕ Int)}{g:LT→Option (β × LT)}(h:RsS s f x)
 (hk :∀(j:Nat) t,j≤s.length→t=lex (s.drop j)→x=some t→RnS s (k (.inl (s,(j:Int)))) (g t)) (hn :∀n,k (.inr n)=some (.inr n)):RnS s (f.bind k) (x.bind g):=by
 cases x with
 | none=>obtain⟨n,h1,h2⟩:=h;rw [h2,bsome,hn];exact ⟨n,h1,rfl⟩
 | some t=>obtain⟨j,h1,h2,h3⟩:=h;rw [h3,bsome,bsome];exact hk j t h1 h2 rfl
theorem mapb {α β:Type}(f:α→β)(o:Option α):o.map f=o.bind fun a=>some (f a):=by cases o <;> rfl
theorem bid {α:Type}(o:Option α):(o.bind fun r=>some r)=o:=by cases o <;> rfl
theorem RnS.fail {α:Type}{s:Ls}(i:Nat):RnS (α:=α) s (some (.inr (i:Int))) none:=⟨_,l0g _,rfl⟩
theorem spc_run (s:Ls)(hs:Sml s)(i:Nat)(h3:i≤s.length)(l:List Wrd)(hl:wz l≤4001):RnS s (Y0o (s,(i:Int)) l) (spcS l (lex (s.drop i))):=by
 unfold Y0o
 match l,hl with
 | [],_=>rw[if_neg Sm,bsome,if_pos rfl,fail_eq,bsome];exact RnS.fail i
 | x::y::r,_=>rw[if_neg (by simp only[l02];omega),bsome,if_pos rfl,fail_eq,bsome];exact RnS.fail i
 | [(w, q)],hl =>
   have hi:idx [(w,q)] 0=some (w,q):=rfl;have hw:w.length≤4001:=l0A (wz_mem (l:=[(w,q)]) (x:=(w,q)) Sm) hl;have hbad:(if ((([(w,q)]:List (Ls × Bool)).length:Int)=(1:Int)) then(idx [(w,q)] 0).bind fun a5=>(Y1R a5.1).bind fun b6=>(if b6=true then(idx [(w,q)] 0).bind fun a8=>(if a8.2=true then some false else(idx [(w,q)] 0).bind fun a10=>(Y1D a10.1).bind fun b11=>some (!b11)) else some true) else some true)=some (!decide (locT w=true∧(q=true∨dtF atB true w=true))):=by
    rw[if_pos (show((([(w,q)]:List (Ls × Bool)).length:Int)=(1:Int)) from rfl),hi,bsome,local_eq _ (by unfold Big;dsimp only;omega),bsome];dsimp only;cases locT w with
    | false=>rfl
    | true =>
      rw[if_pos rfl,bsome];dsimp only;cases q with
      | true=>rfl
      | false =>
        rw[if_neg Dc,bsome,dotted_eq _ (by dsimp only;omega),bsome];dsimp only;cases dtF atB true w <;> rfl
   rw[hbad,bsome,spcS];by_cases hg:locT w=true∧(q=true∨dtF atB true w=true)
   · rw[decide_eq_true hg,if_neg Dc,bsome,if_pos hg];dsimp only;refine RsS.bind (need_run s hs i h3 64) (fun j t j1 j2 _=>?_) fun _=>G
     dsimp only;rw[j2];cases hx:lex (s.drop j) with
     | err =>
       obtain⟨n,n1,n2⟩:=next_err s hs j j1 hx;rw[n2,bsome];exact ⟨n,n1,rfl⟩
     | eof =>
       obtain⟨k,_,k2⟩:=next_eof s hs j j1 hx;rw[k2,bsome];dsimp only;rw[okW_eq,bsome];dsimp only[getW,isW];simp only[l0h,if_false,bsome,if_true,fail_eq];exact RnS.fail k
     | tok e u =>
       obtain⟨k,k1,_,k3,k4⟩:=next_tok s hs j j1 hx;rw[k4,bsome];dsimp only;rw[okW_eq,bsome];cases e with
       | inl c =>
         dsimp only[getW,isW];simp only[l0h,if_false,bsome,if_true,fail_eq];exact RnS.fail k
       | inr v =>
         obtain⟨v,b⟩:=v;dsimp only[getW,isW];cases b with
         | true=>simp only[if_true,bsome,fail_eq];exact RnS.fail k
         | false =>
           simp only[if_true,l0h,if_false,domain_eq,bsome,domS];cases hd:domT v with
           | false=>simp only[l2E,if_true,fail_eq,bsome,l0h,if_false];exact RnS.fail k
           | true=>simp only[l1v,if_true,bsome,l0h,if_false,hi];exact ⟨k,k1,k3,rfl⟩
   rw[decide_eq_false hg,if_pos Dc,fail_eq,bsome,bsome,if_neg hg];exact RnS.fail i
theorem adr_run (s:Ls)(hs:Sml s)(i:Nat)(h3:i≤s.length)(l:List Wrd)(hl:wz l≤4001)(ht:sz (lex (s.drop i))≤4001):RnS s (Y0D (s,(i:Int)) l) (adrS l (lex (s.drop i))):=by
 unfold Y0D adrS;dsimp only;refine RnS.bind (is_run s hs i h3 60) (fun b j t j1 j2 j3=>?_) fun _=>G
 have e1:=(isS_st j3).1.2.2;dsimp only;cases b with
 | true =>
   rw[if_pos rfl,if_pos rfl,j2];refine RnS.bind (Y4y s hs j j1) (fun m k u k1 k2 k3=>?_) fun _=>G
   have e2:=wordsS_st _ _ _ k3;dsimp only;rw[k2];refine RnS.bind (spc_run s hs k k1 m (by rw[←j2] at e2;omega)) (fun a n v n1 n2 n3=>?_) fun _=>G
   dsimp only;rw[(named_eq l hl).1,bsome,n2,mapb];exact RsS.bind (need_run s hs n n1 62) (fun p w p1 p2 _=>⟨p,p1,p2,G⟩) fun _=>G
 | false =>
   rw[if_neg Dc,if_neg Dc,j2];have h:=spc_run s hs j j1 l hl;revert h;cases spcS l (lex (s.drop j)) with
   | none=>rintro⟨n,q1,q2⟩;rw [q2,bsome];exact ⟨n,q1,rfl⟩
   | some p=>obtain⟨a,v⟩:=p;rintro ⟨k,q1,q2,q3⟩;rw [q3,bsome];exact ⟨k,q1,q2,rfl⟩
theorem itmL_run (s:Ls)(hs:Sml s)(x:Ls)(y:Bool)(z:List Adr)(g:Ls)(b:Bool):∀(n m i:Nat) (acc:List Adr),i≤s.length→dp (lex (s.drop i))<n→dp (lex (s.drop i))<m→sz (lex (s.drop i))≤4001→acc.length+dp (lex (s.drop i))≤100000→
 RnS s (Y0E m s (i:Int) x y z g b acc) ((itmL n acc (lex (s.drop i))).bind fun r=>some ((g,b,r.1),r.2)):=by
 intro n;induction n with
 | zero=>intro m i acc _ h;omega
 | succ n ih =>
   intro m i acc h1 h2 h3 h4 h5;obtain⟨m,rfl⟩ :∃k,m=k+1:=⟨m-1,by omega⟩
   rw[Y0E,itmL,l2m];refine RnS.bind (Y4y s hs i h1) (fun l j t j1 j2 j3=>?_) fun _=>G
   have e1:=wordsS_st _ _ _ j3;dsimp only;rw[j2,l2m];rw[j2] at e1;refine RnS.bind (adr_run s hs j j1 l Om Om) (fun a k u k1 k2 k3=>?_) fun _=>G
   have e2:=(adrS_st Om k3).1;rw[k2] at e2;have e21:=e2.2.1;have e22:=e2.2.2;dsimp only;rw[app_ok (by simp;omega),bsome,k2,l2m];refine RnS.bind (is_run s hs k k1 59) (fun c p v p1 p2 p3=>?_) fun _=>G
   have e3:=(isS_st p3).1;rw[p2] at e3;have e31:=e3.2.1;have e32:=e3.2.2;dsimp only;cases c with
   | true=>rw[if_pos rfl,if_pos rfl];exact ⟨p,p1,p2,rfl⟩
   | false =>
     rw[if_neg Dc,if_neg Dc,p2,l2m];refine RsS.bind (need_run s hs p p1 44) (fun q w q1 q2 q3=>?_) fun _=>G
     have e4:=needS_st q3;rw[q2] at e4;have e41:=e4.1.2.2;have e42:=e4.2;rw[q2];exact ih m q (acc++[a]) q1 Om Om Om (by simp;omega)
theorem itm_run (s:Ls)(hs:Sml s)(i:Nat)(h3:i≤s.length)(ht:sz (lex (s.drop i))≤4001)(hd:dp (lex (s.drop i))≤4001):RnS s (Y0l (s,(i:Int))) (itmS (lex (s.drop i))):=by
 unfold Y0l itmS;dsimp only;refine RnS.bind (Y4y s hs i h3) (fun l j t j1 j2 j3=>?_) fun _=>G
 have e1:=wordsS_st _ _ _ j3;rw[j2] at e1;dsimp only;rw[j2];refine RnS.bind (is_run s hs j j1 58) (fun b k u k1 k2 k3=>?_) fun _=>G
 have e2:=(isS_st k3).1;rw[k2] at e2;have e21:=e2.2.1;have e22:=e2.2.2;dsimp only;rw[k2];cases b with
 | true =>
   rw[if_pos rfl,if_pos rfl,(named_eq l Om).1,bsome];by_cases hn:nam l=[]
   · rw[if_pos hn,if_pos hn,fail_eq,bsome,bsome];exact RnS.fail k
   rw[if_neg hn,if_neg hn,bsome];dsimp only;refine RnS.bind (is_run s hs k k1 59) (fun c p v p1 p2 p3=>?_) fun _=>G
   have e3:=(isS_st p3).1;rw[p2] at e3;have e31:=e3.2.1;have e32:=e3.2.2;dsimp only;cases c with
   | true=>rw[if_pos rfl,if_pos rfl];exact ⟨p,p1,p2,rfl⟩
   | false =>
     rw[if_neg Dc,if_neg Dc,p2,mapb,bid];exact itmL_run s hs _ _ _ _ _ _ FU p [] p1 (l0b _) (FU_gt Om) Om (by simp;omega)
 | false =>
   rw[if_neg Dc,if_neg Dc,mapb];exact RnS.bind (adr_run s hs k k1 l Om Om) (fun a p v p1 p2 _=>⟨p,p1,p2,G⟩) fun _=>G
abbrev PF : Type:=List Itm × (Int × Int)
def PrR (s:Ls)(f:Option ((List Itm × Ls × Int) ⊕ PF)):Option (List Itm × LT)→Prop
 | some (l,t) =>∃j:Nat,j≤s.length∧t=lex (s.drop j)∧f=some (.inl (l,s,(j:Int)))
 | none =>∃n:Int,f=some (.inr ([],(11,n)))∧0≤n∧n≤(s.length:Int)
theorem mn {n:Int}(h:0≤n)(k:Nat):0≤min n (k:Int)∧min n (k:Int)≤(k:Int):=by omega
theorem prsL_run (s:Ls)(hs:Sml s):∀(n m i:Nat) (l:List Itm),i≤s.length→dp (lex (s.drop i))<n→dp (lex (s.drop i))<m→sz (lex (s.drop i))≤4001→dp (lex (s.drop i))≤4001→l.length+dp (lex (s.drop i))≤100000→
 PrR s (Y17 s m l s (i:Int)) (prsL n l (lex (s.drop i))):=by
 intro n;induction n with
 | zero=>intro m i l _ h;omega
 | succ n ih =>
   intro m i l h1 h2 h3 h4 h5 h6;obtain⟨m,rfl⟩ :∃k,m=k+1:=⟨m-1,by omega⟩
   rw[Y17,prsL];have hi:=is_run s hs i h1 44;revert hi;cases hx:isS 44 (lex (s.drop i)) with
   | none=>rintro⟨n,q1,q2⟩;rw [q2,bsome];exact ⟨_,rfl,mn q1 _⟩
   | some p =>
     obtain⟨b,t⟩:=p;rintro⟨j,j1,j2,j3⟩;have e1:=isS_st hx;rw[j2] at e1;have e11:=e1.1.2.1;have e12:=e1.1.2.2;rw[j3,bsome,bsome];dsimp only;cases b with
     | false=>rw[if_neg Dc,if_neg Dc];exact ⟨j,j1,j2,rfl⟩
     | true =>
       have e13:=e1.2 rfl;rw[if_pos rfl,if_pos rfl,j2];have ht:=itm_run s hs j j1 Om Om;revert ht;cases hy:itmS (lex (s.drop j)) with
       | none=>rintro⟨n,q1,q2⟩;rw [q2,bsome];exact ⟨_,rfl,mn q1 _⟩
       | some p =>
         obtain⟨x,u⟩:=p;rintro⟨k,k1,k2,k3⟩;have e2:=(itmS_st Om Om hy).1;rw[k2] at e2;have e21:=e2.2.1;have e22:=e2.2.2;rw[k3,bsome,bsome];dsimp only;rw[app_ok (by simp;omega),bsome,k2];exact ih m k (l++[x]) k1 Om Om Om Om (by simp;omega)
theorem parse_run (s:Ls)(hs:s.length≤4000):match prsS (lex s) with
 | none =>∃n:Int,Y0U s=some ([],(11,n))∧0≤n∧n≤(s.length:Int)
 | some l=>Y0U s=some (if (itemsF l).1=0 then(l,(0,0)) else([],((itemsF l).1,-2))):=by
 have hsm:Sml s:=by unfold Sml;omega
 have hz:=lex_size _ s (l0e _);have fin :∀l:List Itm,prsS (lex s)=some l→((Y1z l).bind fun(n85,n86)=>(Y1k (n85,n86)).bind fun b88=>(if b88=true then(Y07 n85 (-2)).bind fun(n91,n92)=>some (([]:List Itm),(n91,n92)) else(Y0I).bind fun(n94,n95)=>some (l,(n94,n95))))=some (if (itemsF l).1=0 then(l,(0,0)) else([],((itemsF l).1,-2))):=by
  intro l hl;obtain⟨_,h1,h2⟩:=prsS_st Om Om hl;have hb:BigL l:=⟨by omega,fun x hx=>⟨by have:=(h2 x hx).1;unfold Big;omega,by have:=(h2 x hx).2.1;omega,fun a ha=>by have h:=(h2 x hx).2.2 a ha;have e1:=h.1;have e2:=h.2.1;have e3:=h.2.2;exact ⟨by unfold Big;omega,by unfold Big;omega,by unfold Big;omega⟩⟩⟩
  rw[check_eq l hb,bsome];obtain⟨u,v,huv⟩ :∃u v,itemsF l=(u,v):=⟨_,_,rfl⟩
  rw[huv];by_cases hu:u=0
  · subst hu;simp [failed_eq,none_eq]
  simp [failed_eq,fault_eq,hu]
 unfold Y0U;rw[if_neg Om];have hp:=peek_run s hsm 0 Om;have hl0:lex (s.drop 0)=lex s:=rfl;rw[hl0] at hp;rcases hp with ⟨h,n,hn,hp⟩|⟨h,hp⟩
 · have hp':Y0f (s,0)=some (.inr n):=hp;rw[hp',bsome,h];exact ⟨_,rfl,mn hn _⟩
 have hp':Y0f (s,0)=some (.inl (elOf (lex s),(s,(0:Int)))):=hp;rw[hp',bsome];dsimp only;cases hx:lex s with
 | err=>exact absurd hx h
 | eof =>
   have:=fin [] (by rw[hx];rfl);rw[if_pos (show elOf .eof=none from rfl),bsome];exact this
 | tok e t =>
   rw[←hx,if_neg (show ¬elOf (lex s)=none by rw[hx];simp [elOf])];have hps:prsS (lex s)=(itmS (lex s)).bind fun r=>(prsL (dp r.2+1) [r.1] r.2).bind fun p=>match p.2 with
    | .eof=>some p.1
    | _=>none:=by rw[hx];rfl
   have ht:=itm_run s hsm 0 Om (by rw[hl0];omega) (by rw[hl0];omega);rw[hl0] at ht;revert ht hps;cases hy:itmS (lex s) with
   | none =>
     rintro hps ⟨n,q1,q2⟩;have q2':Y0l (s,0)=some (.inr n):=q2;rw[hps,q2',bsome,bsome];exact ⟨_,rfl,mn q1 _⟩
   | some p =>
     obtain⟨x,u⟩:=p;rintro hps ⟨k,k1,k2,k3⟩;have e2:=(itmS_st Om Om hy).1;rw[k2] at e2;have e21:=e2.2.1;have e22:=e2.2.2;have k3':Y0l (s,0)=some (.inl (x,(s,(k:Int)))):=k3;rw[k3',bsome];dsimp only;rw[app_ok Sm,bsome];have hr:=prsL_run s hsm (dp (lex (s.drop k))+1) FU k [x] k1 Om (FU_gt Om) Om Om (by simp;omega);rw[bsome] at hps;dsimp only at hps;rw[k2] at hps;revert hr hps;cases prsL (dp (lex (s.drop k))+1) [x] (lex (s.drop k)) with
     | none =>
       rintro hps ⟨n,hr,hn⟩;rw[l07,hr,hps,bsome,bsome];exact ⟨_,rfl,hn⟩
     | some p =>
       obtain⟨l,v⟩:=p;rintro hps ⟨j,j1,j2,j3⟩;rw[l07,j3,bsome];dsimp only;have hpk:=peek_run s hsm j j1;rw[←j2] at hpk;rw[bsome] at hps;dsimp only at hps;cases v with
       | err =>
         rcases hpk with ⟨_,n,hn,hpk⟩|⟨hh,_⟩
         · rw[hpk,hps,bsome,bsome];exact ⟨_,rfl,mn hn _⟩
         exact absurd G hh
       | eof =>
         rcases hpk with ⟨hh,_⟩|⟨_,hpk⟩
         · cases hh
         have:=fin l hps;rw[hpk,hps,bsome];dsimp only;rw[if_pos (show elOf .eof=none from rfl),bsome];exact this
       | tok e w =>
         rcases hpk with ⟨hh,_⟩|⟨_,hpk⟩
         · cases hh
         rw[hpk,hps,bsome];dsimp only;rw[if_neg (show ¬elOf (.tok e w)=none by simp [elOf]),fail_eq,bsome,bsome];exact ⟨_,rfl,mn (l0g _) _⟩
end Go.Ph.Ad
end
section
namespace Go.Ph.Ad
open Go.Ph.Pl Go.Ph.Pf
abbrev El : Type:=UInt8 ⊕ Wrd
def els : LT→List El
 | .tok e t=>e::els t
 | _=>[]
def ofL : List El→LT
 | [] => .eof
 | e::l => .tok e (ofL l)
theorem els_eof : els .eof=[]:=rfl
theorem ofL_els :∀{t:LT},nd t=false→ofL (els t)=t
 | .err,h=>by cases h
 | .eof,_=>rfl
 | .tok e t,h=>by rw[els,ofL,ofL_els (t:=t) h]
abbrev okS (w:Ls)(q:Bool)(d:Ls):Prop:=(locT w=true∧(q=true∨dtF atB true w=true))∧domT d=true
inductive Mb : List El→Adr→Prop where
 | bare {w:Ls} {q:Bool} {d:Ls}:okS w q d→Mb [.inr (w,q), .inl 64, .inr (d,false)] ([],w,d)
 | full (W:List Wrd) {w:Ls} {q:Bool} {d:Ls}:okS w q d→Mb (W.map .inr++[.inl 60, .inr (w,q), .inl 64, .inr (d,false), .inl 62]) (nam W,w,d)
inductive Mbs : List El→List Adr→Prop where
 | one {p:List El} {a:Adr}:Mb p a→Mbs p [a]
 | cons {p m:List El} {a:Adr} {ar:List Adr}:Mb p a→Mbs m ar→Mbs (p ++ .inl 44::m) (a::ar)
inductive It : List El→Itm→Prop where
 | one {p:List El} {a:Adr}:Mb p a→It p ([],false,[a])
 | nil {W:List Wrd}:nam W≠ []→It (W.map .inr++[.inl 58, .inl 59]) (nam W,true,[])
 | cons {W:List Wrd} {m:List El} {ar:List Adr}:nam W≠ []→Mbs m ar→It (W.map .inr ++ .inl 58::(m++[.inl 59])) (nam W,true,ar)
inductive Its : List El→List Itm→Prop where
 | one {p:List El} {x:Itm}:It p x→Its p [x]
 | cons {p m:List El} {x:Itm} {xs:List Itm}:It p x→Its m xs→Its (p ++ .inl 44::m) (x::xs)
theorem wordsS_els :∀(t:LT) (l:List Wrd) (t':LT),wordsS t=some (l,t')→els t=l.map .inr++els t'
 | .err,l,t',h=>by cases h
 | .eof,l,t',h=>by cases h;rfl
 | .tok (.inl c) t,l,t',h=>by cases h;rfl
 | .tok (.inr w) t,l,t',h=>by
   rw[wordsS] at h;obtain⟨q,h1,h2⟩:=Option.map_eq_some_iff.1 h;cases h2;rw[els,wordsS_els t q.1 q.2 h1];rfl
theorem isS_els {c:UInt8}{t t':LT}{b:Bool}(h:isS c t=some (b,t')):els t=if b=true then .inl c::els t' else els t':=by
 cases t with
 | err=>cases h
 | eof=>cases h;rfl
 | tok e t =>
   cases e with
   | inr w=>cases h;rfl
   | inl d =>
     rw[isS] at h;split at h
     · rename_i hd;cases h;rw [hd];rfl
     cases h;rfl
theorem needS_els {c:UInt8}{t t':LT}(h:needS c t=some t'):els t = .inl c::els t':=by
 obtain⟨⟨b,u⟩,h1,h2⟩:=bnd h;have:=isS_els h1;cases b with
 | true=>cases h2;exact this
 | false=>cases h2
theorem spcS_els {l:List Wrd}{t t':LT}{a:Adr}(h:spcS l t=some (a,t')):∃w q d,l=[(w,q)]∧els t = .inl 64 :: .inr (d,false)::els t'∧okS w q d∧a=([],w,d):=by
 unfold spcS at h;split at h
 · rename_i w q;split at h
   · rename_i hw;obtain⟨u,h1,h2⟩:=bnd h;obtain⟨p,h3,h4⟩:=Option.map_eq_some_iff.1 h2;cases h4;rw[needS_els h1];unfold domS at h3;split at h3
     · rename_i d v;split at h3
       · rename_i hd;cases h3;exact⟨w,q,d,G,G,⟨hw,hd⟩,G⟩
       cases h3
     cases h3
   cases h
 cases h
theorem adrS_els {l:List Wrd}{t t':LT}{a:Adr}(h:adrS l t=some (a,t')):∃p,l.map .inr++els t=p++els t'∧Mb p a:=by
 obtain⟨⟨b,u⟩,h1,h2⟩:=bnd h;have e1:=isS_els h1;rw[e1];cases b with
 | true =>
   rw[if_pos rfl] at h2;obtain⟨⟨m,v⟩,h3,h4⟩:=bnd h2;obtain⟨⟨c,w⟩,h5,h6⟩:=bnd h4;obtain⟨x,h7,h8⟩:=Option.map_eq_some_iff.1 h6;cases h8;have e2:=wordsS_els _ _ _ h3;obtain⟨w,q,d,rfl,e3,e4,rfl⟩:=spcS_els h5;dsimp only at e2 e3;rw[needS_els h7] at e3;rw[e2,e3];exact⟨_,by simp, .full l e4⟩
 | false =>
   dsimp only at h2;rw[if_neg Dc] at h2;obtain⟨w,q,d,rfl,e3,e4,rfl⟩:=spcS_els h2;rw[if_neg Dc,e3];exact⟨_,G, .bare e4⟩
theorem itmL_els :∀(n:Nat) (m:List Adr) (t:LT) (m':List Adr) (t':LT),itmL n m t=some (m',t')→∃p ar,m'=m++ar∧els t=p ++ .inl 59::els t'∧Mbs p ar:=by
 intro n;induction n with
 | zero=>intro m t m' t' h;cases h
 | succ n ih =>
   intro m t m' t' h;rw[itmL] at h;obtain⟨⟨l,u⟩,h1,h2⟩:=bnd h;obtain⟨⟨a,v⟩,h3,h4⟩:=bnd h2;obtain⟨⟨b,w⟩,h5,h6⟩:=bnd h4;obtain⟨p,e1,e2⟩:=adrS_els h3;have e3:=isS_els h5;rw[wordsS_els _ _ _ h1,e1,e3];cases b with
   | true=>cases h6;exact ⟨p,[a],rfl,rfl, .one e2⟩
   | false =>
     obtain⟨x,h7,h8⟩:=bnd h6;obtain⟨q,ar,rfl,e4,e5⟩:=ih _ _ _ _ h8;dsimp only at h7;rw[if_neg Dc,needS_els h7,e4];exact⟨p ++ .inl 44::q,a::ar,by simp,by simp, .cons e2 e5⟩
theorem itmS_els {t t':LT}{x:Itm}(h:itmS t=some (x,t')):∃p,els t=p++els t'∧It p x:=by
 obtain⟨⟨l,u⟩,h1,h2⟩:=bnd h;obtain⟨⟨b,v⟩,h3,h4⟩:=bnd h2;have e3:=isS_els h3;rw[wordsS_els _ _ _ h1];dsimp only at e3;cases b with
 | true =>
   rw[e3];dsimp only at h4;rw[if_pos rfl] at h4;split at h4
   · cases h4
   rename_i hn;obtain⟨⟨c,w⟩,h5,h6⟩:=bnd h4;have e4:=isS_els h5;cases c with
   | true=>cases h6;rw [if_pos rfl,e4];exact ⟨_,by simp, .nil hn⟩
   | false =>
     obtain⟨⟨m,y⟩,h7,h8⟩:=Option.map_eq_some_iff.1 h6;cases h8;obtain⟨p,ar,rfl,e5,e6⟩:=itmL_els _ _ _ _ _ h7;rw[if_pos rfl,e4,if_neg Dc,e5];exact⟨_,by simp, .cons hn e6⟩
 | false =>
   obtain⟨⟨a,y⟩,h7,h8⟩:=Option.map_eq_some_iff.1 h4;cases h8;obtain⟨p,e1,e2⟩:=adrS_els h7;rw[e3];exact⟨p,e1, .one e2⟩
theorem prsL_els :∀(n:Nat) (l:List Itm) (t:LT) (l':List Itm) (t':LT),prsL n l t=some (l',t')→(l'=l∧els t=els t')∨∃p xs,l'=l++xs∧els t = .inl 44::(p++els t')∧Its p xs:=by
 intro n;induction n with
 | zero=>intro l t l' t' h;cases h
 | succ n ih =>
   intro l t l' t' h;rw[prsL] at h;obtain⟨⟨b,u⟩,h1,h2⟩:=bnd h;have e1:=isS_els h1;cases b with
   | true =>
     obtain⟨⟨x,v⟩,h3,h4⟩:=bnd h2;obtain⟨p,e2,e3⟩:=itmS_els h3;dsimp only at e2 h4;rw[e1,if_pos rfl,e2];rcases ih _ _ _ _ h4 with ⟨rfl,e4⟩|⟨q,xs,rfl,e4,e5⟩
     · exact .inr ⟨p,[x],G,by rw[e4], .one e3⟩
     exact .inr ⟨p ++ .inl 44::q,x::xs,by simp,by rw[e4];simp, .cons e3 e5⟩
   | false=>cases h2;exact .inl ⟨rfl,e1⟩
theorem prsS_els {t:LT}{l:List Itm}(h:prsS t=some l):(els t=[]∧l=[])∨Its (els t) l:=by
 unfold prsS at h;split at h
 · cases h;exact .inl ⟨rfl,rfl⟩
 obtain⟨⟨x,u⟩,h1,h2⟩:=bnd h;obtain⟨⟨m,v⟩,h3,h4⟩:=bnd h2;obtain⟨p,e2,e3⟩:=itmS_els h1;dsimp only at h3 h4 e2;split at h4
 · cases h4;rw[e2];rcases prsL_els _ _ _ _ _ h3 with ⟨rfl,e4⟩|⟨q,xs,rfl,e4,e5⟩
   · rw[e4,els_eof,l0k];exact .inr (.one e3)
   rw[e4,els_eof,l0k];exact .inr (.cons e3 e5)
 cases h4
theorem wordsS_ofL :∀(W:List Wrd) (c:UInt8) (r:List El),wordsS (ofL (W.map .inr ++ .inl c::r))=some (W,ofL (.inl c::r))
 | [],c,r=>rfl
 | w::W,c,r=>by rw[l0i,l05,ofL,wordsS,wordsS_ofL W c r];rfl
theorem isS_yes (c:UInt8)(r:List El):isS c (ofL (.inl c::r))=some (true,ofL r):=by rw[ofL,isS,if_pos rfl]
theorem isS_no {c:UInt8}{e:El}{r:List El}(h:e≠ .inl c):isS c (ofL (e::r))=some (false,ofL (e::r)):=by
 cases e with
 | inl d=>rw[ofL,isS,if_neg (fun e=>h (by rw[e]))]
 | inr w=>rfl
theorem needS_yes (c:UInt8)(r:List El):needS c (ofL (.inl c::r))=some (ofL r):=by rw[needS,isS_yes];rfl
theorem spcS_ofL {w:Ls}{q:Bool}{d:Ls}(h:okS w q d)(r:List El):spcS [(w,q)] (ofL (.inl 64 :: .inr (d,false)::r))=some (([],w,d),ofL r):=by
 unfold spcS;dsimp only;rw[if_pos h.1,needS_yes,bsome,ofL,domS,if_pos h.2];rfl
theorem mb_ofL {p:List El}{a:Adr}(h:Mb p a)(r:List El):∃W c u,wordsS (ofL (p++r))=some (W,ofL (.inl c::u))∧c≠58∧adrS W (ofL (.inl c::u))=some (a,ofL r):=by
 cases h with
 | bare h =>
   rename_i w q d;refine⟨[(w,q)],64, .inr (d,false)::r,wordsS_ofL [(w,q)] _ _,by decide,?_⟩;unfold adrS;rw[isS_no Dc,bsome];exact spcS_ofL h r
 | full W h =>
   rename_i w q d;refine⟨W,60, .inr (w,q) :: .inl 64 :: .inr (d,false) :: .inl 62::r,by rw[l0d];exact wordsS_ofL W _ _,by decide,?_⟩;unfold adrS;rw[isS_yes,bsome];dsimp only;rw[if_pos rfl,show (.inr (w,q) :: .inl 64 :: .inr (d,false) :: .inl 62::r:List El)=[(w,q)].map .inr ++ .inl 64::(.inr (d,false) :: .inl 62::r) from rfl,wordsS_ofL,bsome];dsimp only;rw[spcS_ofL h,bsome];dsimp only;rw[needS_yes];rfl
theorem mb_head {p:List El}{a:Adr}(h:Mb p a):∃e u,p=e::u∧∀c,c≠60→e≠ .inl c:=by
 cases h with
 | bare h=>exact⟨_,_,rfl,fun c _=>by simp⟩
 | full W h =>
   cases W with
   | nil=>exact⟨_,_,rfl,fun c hc e=>hc (by cases e;rfl)⟩
   | cons w W=>exact⟨_,_,rfl,fun c _=>by simp⟩
theorem mbs_head {p:List El}{a:List Adr}(h:Mbs p a):∃e u,p=e::u∧e≠ .inl 59:=by
 cases h with
 | one h=>obtain⟨e,u,rfl,h2⟩:=mb_head h;exact ⟨e,u,rfl,h2 59 Dc⟩
 | cons h _=>obtain⟨e,u,rfl,h2⟩:=mb_head h;exact ⟨e,_,rfl,h2 59 Dc⟩
theorem dp_ofL :∀l:List El,dp (ofL l)=l.length
 | []=>rfl
 | e::l=>by rw[ofL,dp,dp_ofL l];rfl
theorem itmL_ofL {m:List El}{ar:List Adr}(h:Mbs m ar):∀(n:Nat) (acc:List Adr) (r:List El),m.length<n→itmL n acc (ofL (m ++ .inl 59::r))=some (acc++ar,ofL r):=by
 induction h with
 | one h =>
   intro n acc r hn;obtain⟨n,rfl⟩ :∃k,n=k+1:=⟨n-1,by omega⟩
   obtain⟨W,c,u,h1,_,h2⟩:=mb_ofL h (.inl 59::r);rw[itmL,h1,bsome];dsimp only;rw[h2,bsome];dsimp only;rw[isS_yes,bsome];rfl
 | cons h _ ih =>
   rename_i p m a ar _;intro n acc r hn;obtain⟨n,rfl⟩ :∃k,n=k+1:=⟨n-1,by omega⟩
   obtain⟨W,c,u,h1,_,h2⟩:=mb_ofL h (.inl 44::(m ++ .inl 59::r));rw[itmL,l0d,l05,h1,bsome];dsimp only;rw[h2,bsome];dsimp only;rw[isS_no Dc,bsome];dsimp only;rw[if_neg Dc,needS_yes,bsome,ih n _ r (by simp at hn;omega)];simp
theorem it_ofL {p:List El}{x:Itm}(h:It p x)(r:List El):itmS (ofL (p++r))=some (x,ofL r):=by
 unfold itmS;cases h with
 | one h =>
   obtain⟨W,c,u,h1,h2,h3⟩:=mb_ofL h r;rw[h1,bsome];dsimp only;rw[isS_no (by simpa using h2),bsome];dsimp only;rw[if_neg Dc,h3];rfl
 | nil h =>
   rename_i W;rw[l0d,l05,wordsS_ofL,bsome];dsimp only;rw[isS_yes,bsome];dsimp only;rw[if_pos rfl,if_neg h,l05,isS_yes,bsome];rfl
 | cons h hm =>
   rename_i W m ar;rw[l0d,l05,wordsS_ofL,bsome];dsimp only;rw[isS_yes,bsome];dsimp only;obtain⟨e,u,hu,he⟩:=mbs_head hm;have hno:isS 59 (ofL (m++[.inl 59]++r))=some (false,ofL (m++[.inl 59]++r)):=by rw[hu];exact isS_no he
   rw[if_pos rfl,if_neg h,hno,bsome];dsimp only;rw[if_neg Dc,l0d,l05,itmL_ofL hm _ [] _ (by rw[dp_ofL];simp;omega)];rfl
theorem prsL_ofL {l:List El}{xs:List Itm}(h:Its l xs):∀(n:Nat) (acc:List Itm),l.length+1<n→prsL n acc (ofL (.inl 44::l))=some (acc++xs, .eof):=by
 induction h with
 | one h =>
   intro n acc hn;obtain⟨n,rfl⟩ :∃k,n=k+1+1:=⟨n-2,by omega⟩
   have:=it_ofL h [];rw[l0k] at this;rw[prsL,isS_yes,bsome];dsimp only;rw[if_pos rfl,this,bsome];dsimp only;rw[prsL];rfl
 | cons h _ ih =>
   intro n acc hn;obtain⟨n,rfl⟩ :∃k,n=k+1:=⟨n-1,by omega⟩
   rw[prsL,isS_yes,bsome];dsimp only;rw[if_pos rfl,it_ofL h,bsome];dsimp only;rw[ih n _ (by simp at hn;omega)];simp
theorem its_ofL {l:List El}{xs:List Itm}(h:Its l xs):prsS (ofL l)=some xs:=by
 have hne :∀{p:List El} {x:Itm},It p x→p≠ []:=by
  intro p x h;cases h with
  | one h=>obtain⟨e,u,rfl,_⟩:=mb_head h;simp
  | nil h=>simp
  | cons h _=>simp
 have hp :∀l:List El,l≠ []→prsS (ofL l)=(itmS (ofL l)).bind fun r=>(prsL (dp r.2+1) [r.1] r.2).bind fun p=>match p.2 with
  | .eof=>some p.1
  | _=>none:=by
  intro l hl;cases l with
  | nil=>exact absurd rfl hl
  | cons e l=>rfl
 cases h with
 | one h =>
   have:=it_ofL h [];rw[l0k] at this;rw[hp _ (hne h),this];rfl
 | cons h h2 =>
   rename_i p m x xs;rw[hp _ Sm,it_ofL h,bsome];dsimp only;rw[prsL_ofL h2 _ _ (by rw[dp_ofL];simp)];rfl
end Go.Ph.Ad
end
section
namespace Go.Ph.Ad
open Go.Ph.Pl Go.Ph.Pf
abbrev Tk : Type:=UInt8 × Ls
def tk : El→Tk
 | .inl c=>(c,[])
 | .inr (w,q)=>(if q=true then 113 else 119,w)
def Rj (s:Ls)(f:Option (Int ⊕ (List Tk × Bool))):Option Ls→Prop
 | some r =>∃j:Nat,j≤s.length∧r=s.drop j∧f=some (.inl (j:Int))
 | none=>f=some (.inr ([],false))
theorem rcmt (s:Ls)(hs:s.length≤4000):∀(k i m d:Nat),s.length+1-i≤k→k<m→i≤s.length+1→1≤d→d≤i+1→Rj s (Y0b s m (i:Int) (d:Int)) (cmtF d (s.drop i)):=by
 intro k;induction k with
 | zero =>
   intro i m d h1 h2 h3 h4 h5;obtain⟨m,rfl⟩ :∃k,m=k+1:=⟨m-1,by omega⟩
   rw[Y0b,if_pos Om,l08 Om,cmtF];rfl
 | succ k ih =>
   intro i m d h1 h2 h3 h4 h5;obtain⟨m,rfl⟩ :∃k,m=k+1:=⟨m-1,by omega⟩
   by_cases hi:i<s.length
   · have n1:=ih (i+1) m d Om Om Om h4 Om;have n2:=ih (i+1) m (d+1) Om Om Om Om Om;have n3:2≤d→Rj s (Y0b s m ((i+1:Nat):Int) ((d-1:Nat):Int)) (cmtF (d-1) (s.drop (i+1))):=fun hd=>ih (i+1) m (d-1) Om Om Om Om Om
     have n4:=ih (i+1+1) m d Om Om Om h4 Om;have c1:chk ((i:Int)+1)=some ((i+1:Nat):Int):=chk_succ Om;have c2:chk (((i+1:Nat):Int)+1)=some ((i+1+1:Nat):Int):=chk_succ Om;have c3:chk ((d:Int)+1)=some ((d+1:Nat):Int):=chk_succ Om;have c4:chk ((d:Int)-1)=some ((d-1:Nat):Int):=chk_pred h4 Om;rw[Y0b,if_neg Om,idx_nat,List.getElem?_eq_getElem hi,l09 hi,cmt_step];obtain⟨c,hc⟩ :∃c,s[i]=c:=⟨_,rfl⟩
     rw[hc];by_cases q1:c=40
     · have e2 :¬c=41:=by rw[q1];decide
       have e3 :¬c=92:=by rw[q1];decide
       simp only[bsome,if_pos q1,if_neg e2,if_neg e3,c1,c3];rw[if_neg Om];exact n2
     by_cases q2:c=41
     · have e3 :¬c=92:=by rw[q2];decide
       simp only[bsome,if_neg q1,if_pos q2,if_neg e3,c1,c4];by_cases q3:d=1
       · rw[if_pos Om,if_pos q3];exact⟨i+1,by omega,G,G⟩
       rw[if_neg Om,if_neg q3];exact n3 Om
     by_cases q3:c=92
     · simp only[bsome,if_neg q1,if_neg q2,if_pos q3,c1,c2];rw[if_neg Om];exact n4
     simp only[bsome,if_neg q1,if_neg q2,if_neg q3,c1];rw[if_neg Om];exact n1
   rw[Y0b,if_pos Om,l08 Om,cmtF];rfl
theorem rcomment (s:Ls)(hs:s.length≤4000)(i:Nat)(hi:i<s.length)(hc:s[i]=40):Rj s (Y0b s FU (i:Int) 0) (cmtF 1 (s.drop (i+1))):=by
 have h:=rcmt s hs (s.length+1) (i+1) 18446744073709551615 1 Om Om Om Om Om;have c1:chk ((i:Int)+1)=some ((i+1:Nat):Int):=chk_succ Om;have c3:chk ((0:Int)+1)=some ((1:Nat):Int):=by decide
 have e2 :¬(40:UInt8)=41:=by decide
 have e3 :¬(40:UInt8)=92:=by decide
 rw[FU_pos,Y0b,if_neg Om,idx_nat,List.getElem?_eq_getElem hi,hc];simp only[bsome,if_true,if_neg e2,if_neg e3,c1,c3];rw[if_neg Dc];exact h
theorem cut1 {s:Ls}{i:Nat}(hi:i<s.length):cut s (i:Int) ((i+1:Nat):Int)=some [s[i]]:=by
 rw[cut_of rfl rfl Om Om,l0S,l1R,l09 hi];rfl
def Rq (s:Ls)(acc:Ls)(f:Option (Int × Ls)):Option (Ls × Ls)→Prop
 | some p =>∃j:Nat,j<s.length∧p.2=s.drop (j+1)∧f=some ((j:Int),acc++p.1)
 | none =>∃(j:Int) (o:Ls),(s.length:Int)≤j∧f=some (j,o)
theorem rquo (s:Ls)(hs:s.length≤4000):∀(k i m:Nat) (acc:Ls),s.length-i≤k→k<m→i≤s.length→acc.length≤i→
 Rq s acc (Y0F s m (i:Int) acc) (quF (s.drop i)):=by
 intro k;induction k with
 | zero =>
   intro i m acc h1 h2 h3 h4;obtain⟨m,rfl⟩ :∃k,m=k+1:=⟨m-1,by omega⟩
   rw[Y0F,if_neg Om,bsome,if_neg Dc,l08 Om,quF];exact⟨_,_,by omega,G⟩
 | succ k ih =>
   intro i m acc h1 h2 h3 h4;obtain⟨m,rfl⟩ :∃k,m=k+1:=⟨m-1,by omega⟩
   by_cases hi:i<s.length
   · have c1:chk ((i:Int)+1)=some ((i+1:Nat):Int):=chk_succ Om;rw[Y0F,if_pos Om,idx_nat,List.getElem?_eq_getElem hi,bsome,bsome,l09 hi];by_cases q1:s[i]=34
     · have:quF (s[i]::s.drop (i+1))=some ([],s.drop (i+1)):=by
        cases s.drop (i+1) <;> simp [quF,q1]
       rw[this,q1,if_neg Dc];exact⟨i,hi,G,by simp⟩
     rw[decide_eq_false q1,if_pos Dc,bsome];by_cases q2:s[i]=92
     · rw[if_pos q2,c1,bsome,bsome];by_cases hj:i+1<s.length
       · have c2:chk (((i+1:Nat):Int)+1)=some ((i+1+1:Nat):Int):=chk_succ Om;have h5:=ih (i+1+1) m (acc++[s[i+1]]) Om Om Om (by simp;omega);have ha:cat acc [s[i+1]]=some (acc++[s[i+1]]):=cat_ok (by simp;omega);rw[decide_eq_true Om,if_pos rfl,bsome,bsome];simp only[c2,bsome,cut1 hj,ha];rw[l09 hj,quF,if_neg q1,if_pos q2];revert h5;cases quF (s.drop (i+1+1)) with
         | none=>exact id
         | some p=>simp [Rq]
       have ha:cat acc [s[i]]=some (acc++[s[i]]):=cat_ok (by simp;omega);have h5:=ih (i+1) m (acc++[s[i]]) Om Om Om (by simp;omega);rw[decide_eq_false Om,if_neg Dc,bsome];simp only[c1,bsome,cut1 hi,ha];rw[l08 Om,quF] at h5;rw[l08 Om,quF,if_neg q1];exact h5
     have ha:cat acc [s[i]]=some (acc++[s[i]]):=cat_ok (by simp;omega);have h5:=ih (i+1) m (acc++[s[i]]) Om Om Om (by simp;omega);rw[if_neg q2,bsome,if_neg Dc,bsome];simp only[c1,bsome,cut1 hi,ha];have:quF (s[i]::s.drop (i+1))=(quF (s.drop (i+1))).map fun p=>(s[i]::p.1,p.2):=by
      cases s.drop (i+1) with
      | nil=>simp [quF,q1]
      | cons x l=>rw[quF,if_neg q1,if_neg q2]
     rw[this];revert h5;cases quF (s.drop (i+1)) with
     | none=>exact id
     | some p=>simp [Rq]
   rw[Y0F,if_neg Om,bsome,if_neg Dc,l08 Om,quF];exact⟨_,_,by omega,G⟩
theorem rword (s:Ls)(hs:s.length≤4000):∀(k i m:Nat) (acc:Ls),s.length-i≤k→k<m→i≤s.length→acc.length≤i→
 Y0G s m (i:Int) acc=some (((i+((s.drop i).takeWhile waB).length:Nat):Int),acc++(s.drop i).takeWhile waB):=by
 intro k;induction k with
 | zero =>
   intro i m acc h1 h2 h3 h4;obtain⟨m,rfl⟩ :∃k,m=k+1:=⟨m-1,by omega⟩
   rw[Y0G,if_neg Om,bsome,if_neg Dc,l08 Om];simp
 | succ k ih =>
   intro i m acc h1 h2 h3 h4;obtain⟨m,rfl⟩ :∃k,m=k+1:=⟨m-1,by omega⟩
   by_cases hi:i<s.length
   · have c1:chk ((i:Int)+1)=some ((i+1:Nat):Int):=chk_succ Om;have ha:cat acc [s[i]]=some (acc++[s[i]]):=cat_ok (by simp;omega);rw[Y0G,if_pos Om,idx_nat,List.getElem?_eq_getElem hi,bsome,ratom_eq,bsome,l09 hi];have hw:(if atB s[i]=true then some true else(some s[i]).bind fun c31=>some (decide (c31=46)))=some (waB s[i]):=by
      unfold waB;cases atB s[i] <;> simp
     rw[hw,bsome];by_cases q:waB s[i]=true
     · rw[if_pos q,c1,bsome,cut1 hi,bsome,ha,bsome,bsome,ih (i+1) m _ Om Om Om (by simp;omega),l0o q,l02,l0d,l2k];rfl
     rw[if_neg q,l0y q];simp
   rw[Y0G,if_neg Om,bsome,if_neg Dc,l08 Om];simp
theorem rbl (c:UInt8):R_Blank c=some (blB c):=by
 unfold R_Blank blB;by_cases h:c=32 <;> simp [h]
theorem rsg (c:UInt8):R_OneOf c [58,59,44,64,60,62]=some (sgB c):=by
 refine allB (p:=fun c=>R_OneOf c [58,59,44,64,60,62]=some (sgB c)) ?_ c;decide +kernel
theorem rtok_L1 (s:Ls)(hs:s.length≤4000):∀(k i m:Nat) (acc:List Tk),s.length-i≤k→k<m→i≤s.length→acc.length≤i→
 Y0c s m acc (i:Int)=some (if nd (lex (s.drop i))=true then .inr ([],false) else .inl (acc++(els (lex (s.drop i))).map tk)):=by
 intro k;induction k with
 | zero =>
   intro i m acc h1 h2 h3 h4;obtain⟨m,rfl⟩ :∃k,m=k+1:=⟨m-1,by omega⟩
   rw[Y0c,if_neg Om,l08 Om,lex_nil];simp [nd,els]
 | succ k ih =>
   intro i m acc h1 h2 h3 h4;obtain⟨m,rfl⟩ :∃k,m=k+1:=⟨m-1,by omega⟩
   by_cases hi:i<s.length
   · have c1:chk ((i:Int)+1)=some ((i+1:Nat):Int):=chk_succ Om;have ha :∀x:Tk,app 24 acc [x]=some (acc++[x]):=fun x=>app_ok (by simp;omega)
     have step :∀(e:El) (t:LT) (x:Option (List Tk ⊕ (List Tk × Bool))),x=some (if nd t=true then .inr ([],false) else .inl (acc++[tk e]++(els t).map tk))→x=some (if nd (.tok e t)=true then .inr ([],false) else .inl (acc++(els (.tok e t)).map tk)):=by
      intro e t x h;rw[h,nd,els,l0i,l0d];rfl
     rw[Y0c,if_pos Om,idx_nat,List.getElem?_eq_getElem hi,bsome,rbl,bsome,l09 hi,lex_cons];by_cases h1:blB s[i]=true
     · rw[if_pos h1,if_pos h1,c1,bsome];exact ih (i+1) m acc Om Om Om Om
     rw[if_neg h1,if_neg h1];by_cases h2:s[i]=40
     · rw[if_pos h2,if_pos h2];have hr:=rcomment s hs i hi h2;have hl:=cmtF_len (s.drop (i+1)) 1;revert hr hl;cases cmtF 1 (s.drop (i+1)) with
       | none=>intro hr _;rw [show Y0b s FU (i:Int) 0=_ from hr];rfl
       | some r =>
         rintro⟨j,j1,rfl,j3⟩ hl;have:=hl _ rfl;rw[l01,l01] at this;rw[j3,bsome];exact ih j m acc Om Om j1 Om
     rw[if_neg h2,if_neg h2];by_cases h3:s[i]=34
     · rw[if_pos h3,if_pos h3,c1,bsome];have hr:=rquo s hs s.length (i+1) FU [] Om (FU_gt Om) Om Sm;have hl:=quF_len (s.drop (i+1));revert hr hl;cases quF (s.drop (i+1)) with
       | none=>rintro⟨j,o,j1,j2⟩ _;rw [j2,bsome];dsimp only;rw [if_pos j1];rfl
       | some p =>
         obtain⟨p,r⟩:=p;rintro⟨j,j1,rfl,j3⟩ hl;have:=hl _ rfl;rw[l01,l01] at this;rw[j3,bsome];dsimp only;rw[if_neg Om,chk_succ Om,bsome,ha,bsome];exact step _ _ _ (ih (j+1) m _ Om Om Om (by simp;omega))
     rw[if_neg h3,if_neg h3,ratom_eq,bsome];have hw:(if atB s[i]=true then some true else some (decide (s[i]=46)))=some (waB s[i]):=by
      unfold waB;cases atB s[i] <;> simp
     rw[hw,bsome];by_cases h4:sgB s[i]=true
     · have h5:=(sg_facts _ h4).2.2.2;rw[if_neg (by rw[h5];decide),if_pos h4,rsg,h4,bsome,if_pos rfl,ha,bsome,c1,bsome];exact step _ _ _ (ih (i+1) m _ Om Om Om (by simp;omega))
     rw[if_neg h4];by_cases h5:waB s[i]=true
     · have hp:1≤((s.drop i).takeWhile waB).length:=by rw[l09 hi,l0o h5];simp
       have hl:=tw_le waB (s.drop i);rw[l01] at hl;rw[if_pos h5,if_pos h5,rword s hs s.length i FU [] Om (FU_gt Om) Om Sm,bsome];dsimp only;rw[ha,bsome,←l09 hi,l07,←tw_drop,l0l];exact step _ _ _ (ih _ m _ Om Om Om (by simp;omega))
     rw[if_neg h5,if_neg h5,rsg,bsome,if_neg h4];rfl
   rw[Y0c,if_neg Om,l08 Om,lex_nil];simp [nd,els]
theorem rtok_eq (s:Ls)(hs:s.length≤4000):Y2m s=some (if nd (lex s)=true then([],false) else((els (lex s)).map tk,true)):=by
 unfold Y2m;rw[show (0:Int)=((0:Nat):Int) from rfl,rtok_L1 s hs s.length 0 FU [] Om (FU_gt Om) Om Sm,bsome,l0m,l07];cases nd (lex s) <;> rfl
def ez : List El→Nat
 | []=>0
 | .inr w::l=>w.1.length+1+ez l
 | .inl _::l=>ez l
theorem ez_els :∀t:LT,ez (els t)=sz t
 | .err=>rfl
 | .eof=>rfl
 | .tok (.inl _) t=>by rw[els,ez,sz,ez_els t]
 | .tok (.inr _) t=>by rw[els,ez,sz,ez_els t]
theorem len_els :∀t:LT,(els t).length=dp t
 | .err=>rfl
 | .eof=>rfl
 | .tok _ t=>by rw[els,dp,l02,len_els t]
theorem lex_gd :∀(n:Nat) (l:Ls),l.length≤n→∀c, .inl c∈els (lex l)→sgB c=true:=by
 intro n;induction n with
 | zero=>intro l h c hc;rw [l0c (by omega:l.length=0),lex_nil] at hc;cases hc
 | succ n ih =>
   intro l h c hc;cases l with
   | nil=>rw[lex_nil] at hc;cases hc
   | cons x l =>
     rw[l02] at h;rw[lex_cons] at hc;split at hc
     · exact ih l Om c hc
     split at hc
     · split at hc
       · cases hc
       rename_i r hr;have:=cmtF_len _ _ _ hr;exact ih r Om c hc
     split at hc
     · split at hc
       · cases hc
       rename_i p hp;have:=quF_len _ _ hp;rw[els] at hc;rcases List.mem_cons.1 hc with hc|hc
       · cases hc
       exact ih p.2 Om c hc
     split at hc
     · rename_i hs;rw[els] at hc;rcases List.mem_cons.1 hc with hc|hc
       · cases hc;exact hs
       exact ih l Om c hc
     split at hc
     · rename_i hw;rw[els] at hc;rcases List.mem_cons.1 hc with hc|hc
       · cases hc
       rw[l0C hw] at hc;have:=dw_len waB l;exact ih _ Om c hc
     cases hc
abbrev SmE (l:List El):Prop:=l.length≤4001∧ez l≤4001∧∀c, .inl c∈l→c≠119∧c≠113
theorem ez_sub {a b:List El}(h:a.Sublist b):ez a≤ez b:=by
 induction h with
 | slnil=>exact l0e _
 | cons e _ ih=>cases e <;> rw[ez] <;> omega
 | cons_cons e _ ih=>cases e <;> rw[ez,ez] <;> omega
theorem SmE.sub {a b:List El}(h:SmE b)(hs:a.Sublist b):SmE a:=⟨l0A hs.length_le h.1,l0A (ez_sub hs) h.2.1,fun c hc=>h.2.2 c (hs.subset hc)⟩
theorem lex_sm (s:Ls)(hs:s.length≤4000):SmE (els (lex s)):=by
 have h:=lex_size _ s (l0e _);refine⟨by rw[len_els];omega,by rw[ez_els];omega,fun c hc=>?_⟩;have:=lex_gd _ s (l0e _) c hc;exact⟨fun e=>by rw[e] at this;revert this;decide,fun e=>by rw[e] at this;revert this;decide⟩
end Go.Ph.Ad
end
section
namespace Go.Ph.Ad
open Go.Ph.Pl Go.Ph.Pf
def isU : El→Bool
 | .inr (_,false)=>true
 | _=>false
def isQ : El→Bool
 | .inr (_,true)=>true
 | _=>false
def isX (e:El):Bool:=isU e || isQ e
theorem tk_w {e:El}(h :∀c,e = .inl c→c≠119∧c≠113):((tk e).1=119↔isU e=true)∧((tk e).1=113↔isQ e=true):=by
 cases e with
 | inl c=>have:=h c rfl;simp [tk,isU,isQ,this.1,this.2]
 | inr w=>obtain⟨w,q⟩:=w;cases q <;> simp [tk,isU,isQ]
theorem tk_s {e:El}{c:UInt8}(h:c≠119∧c≠113):(tk e).1=c↔e = .inl c:=by
 cases e with
 | inl d=>simp [tk]
 | inr w=>obtain⟨w,q⟩:=w;cases q <;> simp [tk,h.1.symm,h.2.symm]
theorem ix (l:List El){i:Nat}(h:i<l.length):idx (l.map tk) (i:Int)=some (tk l[i]):=by rw[idx_nat,List.getElem?_map,List.getElem?_eq_getElem h];rfl
theorem SmE.at {l:List El}(h:SmE l){i:Nat}(hi:i<l.length):((tk l[i]).1=119↔isU l[i]=true)∧((tk l[i]).1=113↔isQ l[i]=true):=tk_w fun c hc=>h.2.2 c (hc ▸ l0N hi)
theorem allX :∀{l:List El},l.all isX=true→∃W:List Wrd,l=W.map .inr
 | [],_=>⟨[],rfl⟩
 | .inl c::l,h=>by simp [isX,isU,isQ] at h
 | .inr w::l,h=>by
   rw[l0B,l0j] at h;obtain⟨W,rfl⟩:=allX h.2;exact⟨w::W,G⟩
theorem xall :∀W:List Wrd,(W.map (Sum.inr (α:=UInt8))).all isX=true
 | []=>rfl
 | (w,q)::W=>by
   rw[l0i,l0B,xall W];cases q <;> rfl
theorem rwords_L1 (l:List El)(h:SmE l):∀(k i m:Nat),l.length-i≤k→k<m→i≤l.length→Y2p (l.map tk) m (i:Int)=some (if (l.drop i).all isX=true then .inl () else .inr false):=by
 intro k;induction k with
 | zero =>
   intro i m h1 h2 h3;obtain⟨m,rfl⟩ :∃k,m=k+1:=⟨m-1,by omega⟩
   rw[Y2p,l0a,if_neg Om,l08 Om];rfl
 | succ k ih =>
   intro i m h1 h2 h3;obtain⟨m,rfl⟩ :∃k,m=k+1:=⟨m-1,by omega⟩
   have:=h.1;by_cases hi:i<l.length
   · have ht:=h.at hi;rw[Y2p,l0a,if_pos Om,ix l hi,bsome,l09 hi,l0B];by_cases h1:isU l[i]=true
     · rw[if_pos (ht.1.2 h1),bsome,if_neg Dc,chk_succ Om,bsome,ih (i+1) m Om Om Om,isX,h1];rfl
     rw[if_neg (fun e=>h1 (ht.1.1 e)),bsome,bsome];by_cases h2:isQ l[i]=true
     · rw[decide_eq_true (ht.2.2 h2),if_neg Dc,chk_succ Om,bsome,ih (i+1) m Om Om Om,isX,h2,Bool.or_true];rfl
     rw[decide_eq_false (fun e=>h2 (ht.2.1 e)),if_pos Dc,isX,Bool.eq_false_iff.2 h1,Bool.eq_false_iff.2 h2];rfl
   rw[Y2p,l0a,if_neg Om,l08 Om];rfl
theorem rwords_eq (l:List El)(h:SmE l):R_words (l.map tk)=some (l.all isX):=by
 have hl:=h.1;unfold R_words;rw[show (0:Int)=((0:Nat):Int) from rfl,rwords_L1 l h l.length 0 FU Om (FU_gt Om) Om,bsome,l0m];cases l.all isX <;> rfl
def opn (i o:Bool)(e:El):Bool:=if e = .inl 59 then false else if e = .inl 58∧i=false then true else o
def cutA (i:Bool):Bool→List El→List El→List (List El)
 | _,part,[]=>[part]
 | o,part,e::l=>if e = .inl 44∧opn i o e=false then part::cutA i (opn i o e) [] l else cutA i (opn i o e) (part++[e]) l
def jc : List (List El)→List El
 | []=>[]
 | [p]=>p
 | p::q::l=>p ++ .inl 44::jc (q::l)
theorem jc_cons (p:List El):∀{l:List (List El)},l≠ []→jc (p::l)=p ++ .inl 44::jc l
 | [],h=>absurd rfl h
 | _::_,_=>rfl
theorem cutA_ne (i:Bool):∀(l:List El) (o:Bool) (part:List El),cutA i o part l≠ []
 | [],o,part=>by simp [cutA]
 | e::l,o,part=>by
   rw[cutA];split
   · simp
   exact cutA_ne i l _ _
theorem jc_cut (i:Bool):∀(l:List El) (o:Bool) (part:List El),jc (cutA i o part l)=part++l
 | [],o,part=>by simp [cutA,jc]
 | e::l,o,part=>by
   rw[cutA];split
   · rename_i h;rw [jc_cons _ (cutA_ne _ _ _ _),jc_cut i l,h.1];rfl
   rw[jc_cut i l,l0d];rfl
theorem jc_mem :∀{l:List (List El)} {p:List El},p∈l→p.Sublist (jc l)
 | [q],p,h=>by rw[List.mem_singleton.1 h];exact List.Sublist.refl _
 | q::r::l,p,h=>by
   rw[jc];rcases List.mem_cons.1 h with rfl|h
   · exact l1m _ _
   exact((jc_mem h).cons _).trans (l2f _ _)
theorem cut_len (i:Bool):∀(l:List El) (o:Bool) (part:List El),(cutA i o part l).length≤l.length+1
 | [],o,part=>by simp [cutA]
 | e::l,o,part=>by
   rw[cutA];split
   · have:=cut_len i l (opn i o e) [];simp;omega
   have:=cut_len i l (opn i o e) (part++[e]);simp;omega
theorem rcut_L1 (l:List El)(p:Bool)(h:SmE l):∀(k i m:Nat) (out:List (List El)) (part:List El) (o:Bool),l.length-i≤k→k<m→i≤l.length→out.length≤i→part.length≤i→
 ∃x y,Y2P (l.map tk) p m (out.map (·.map tk)) (part.map tk) o (i:Int)=some (x,y)∧x++[y]=(out++cutA p o part (l.drop i)).map (·.map tk):=by
 intro k;induction k with
 | zero =>
   intro i m out part o h1 h2 h3 h4 h5;obtain⟨m,rfl⟩ :∃k,m=k+1:=⟨m-1,by omega⟩
   rw[Y2P,l0a,if_neg Om,l08 Om];exact⟨_,_,G,by simp [cutA]⟩
 | succ k ih =>
   intro i m out part o h1 h2 h3 h4 h5;obtain⟨m,rfl⟩ :∃k,m=k+1:=⟨m-1,by omega⟩
   have hl:=h.1;by_cases hi:i<l.length
   · have t58:=tk_s (e:=l[i]) (c:=58) Dc;have t59:=tk_s (e:=l[i]) (c:=59) Dc;have t44:=tk_s (e:=l[i]) (c:=44) Dc;have a1:app 24 (out.map (·.map tk)) [part.map tk]=some ((out++[part]).map (·.map tk)):=by rw[app_ok (by simp;omega),l0R];rfl
     have a2:app 24 (part.map tk) [tk l[i]]=some ((part++[l[i]]).map tk):=by rw[app_ok (by simp;omega),l0R];rfl
     have c1:chk ((i:Int)+1)=some ((i+1:Nat):Int):=chk_succ Om;have n1:=ih (i+1) m (out++[part]) [] (opn p o l[i]) Om Om Om (by simp;omega) Sm;have n2:=ih (i+1) m out (part++[l[i]]) (opn p o l[i]) Om Om Om Om (by simp;omega);have ho:(if (if (tk l[i]).1=58 then some (!p) else some false).getD false=true then some true else some o)=(if (tk l[i]).1=58∧p=false then some true else some o):=by
      cases p <;> by_cases hh:(tk l[i]).1=58 <;> simp [hh]
     rw[Y2P,l0a,if_pos Om,l09 hi,cutA];have e1 :∀(f:Bool→Option (List (List Tk) × List Tk)),((if (tk l[i]).1=58 then some (!p) else some false)).bind (fun b=>(if b=true then some true else some o).bind fun b34=>(if (tk l[i]).1=59 then some false else some b34).bind f)=f (opn p o l[i]):=by
      intro f;unfold opn;by_cases q1:l[i] = .inl 59
      · have q2 :¬(tk l[i]).1=58:=by rw[t58,q1];decide
        rw[if_neg q2,bsome,if_neg Dc,bsome,if_pos (t59.2 q1),bsome,if_pos q1]
      rw[if_neg q1];by_cases q2:l[i] = .inl 58
      · rw[if_pos (t58.2 q2),bsome];cases p with
        | false=>rw[if_pos Dc,bsome,if_neg (fun e=>q1 (t59.1 e)),bsome,if_pos ⟨q2,rfl⟩]
        | true=>rw[if_neg Dc,bsome,if_neg (fun e=>q1 (t59.1 e)),bsome,if_neg (fun e=>by cases e.2)]
      rw[if_neg (fun e=>q2 (t58.1 e)),bsome,if_neg Dc,bsome,if_neg (fun e=>q1 (t59.1 e)),bsome,if_neg (fun e=>q2 e.1)]
     simp only[ix l hi,bsome];rw[e1];by_cases q:l[i] = .inl 44
     · rw[if_pos (t44.2 q),bsome];cases hop:opn p o l[i] with
       | false =>
         rw[hop] at n1;rw[if_pos Dc,if_pos ⟨q,rfl⟩,a1,bsome,c1,bsome];obtain⟨x,y,n1,n3⟩:=n1;exact⟨x,y,n1,by rw[n3];simp⟩
       | true =>
         rw[hop] at n2;rw[if_neg Dc,if_neg (fun e=>by cases e.2),a2,bsome,c1,bsome];exact n2
     rw[if_neg (fun e=>q (t44.1 e)),bsome,if_neg Dc,if_neg (fun e=>q e.1),a2,bsome,c1,bsome];exact n2
   rw[Y2P,l0a,if_neg Om,l08 Om];exact⟨_,_,G,by simp [cutA]⟩
theorem rcut_eq (l:List El)(p:Bool)(h:SmE l):R_cut (l.map tk) p=some ((cutA p false [] l).map (·.map tk)):=by
 have hl:=h.1;obtain⟨x,y,h1,h2⟩:=rcut_L1 l p h l.length 0 FU [] [] false Om (FU_gt Om) Om Sm Sm;have h3:=congrArg List.length h2;have h4:=cut_len p (l.drop 0) false [];rw[l07,l0m] at h2 h3;rw[l0m] at h4;simp only[l00,l0a,l02,l03] at h3;have h1':Y2P (l.map tk) p FU [] [] false 0=some (x,y):=h1;unfold R_cut;rw[h1',bsome];dsimp only;rw[app_ok (by simp;omega),bsome,h2]
inductive A2 {α β:Type}(R:α→β→Prop):List α→List β→Prop where
 | nil:A2 R [] []
 | cons {a:α} {b:β} {l:List α} {m:List β}:R a b→A2 R l m→A2 R (a::l) (b::m)
theorem its_jc {ps:List (List El)}{xs:List Itm}(h:A2 It ps xs):ps≠ []→Its (jc ps) xs:=by
 induction h with
 | nil=>exact fun h=>absurd rfl h
 | cons h1 h2 ih =>
   intro _;cases h2 with
   | nil=>exact .one h1
   | cons h3 h4=>exact .cons h1 (ih Sm)
theorem mbs_jc {ps:List (List El)}{xs:List Adr}(h:A2 Mb ps xs):ps≠ []→Mbs (jc ps) xs:=by
 induction h with
 | nil=>exact fun h=>absurd rfl h
 | cons h1 h2 ih =>
   intro _;cases h2 with
   | nil=>exact .one h1
   | cons h3 h4=>exact .cons h1 (ih Sm)
theorem cut_pl (i o:Bool):∀(p r part:List El),(∀e∈p,e≠ .inl 58∧e≠ .inl 59∧(o=false→e≠ .inl 44))→cutA i o part (p++r)=cutA i o (part++p) r
 | [],r,part,_=>by simp
 | e::p,r,part,h=>by
   have he:=h e Sm;have ho:opn i o e=o:=by rw[opn,if_neg he.2.1,if_neg (fun x=>he.1 x.1)]
   rw[l05,cutA,ho,if_neg (fun x=>he.2.2 x.2 x.1),cut_pl i o p r _ fun x hx=>h x (by simp [hx]),l0d];rfl
theorem mb_pl {p:List El}{a:Adr}(h:Mb p a):∀e∈p,e≠ .inl 58∧e≠ .inl 59∧e≠ .inl 44:=by
 cases h with
 | bare h=>simp
 | full W h =>
   intro e he;rcases List.mem_append.1 he with he|he
   · obtain⟨w,_,rfl⟩:=List.mem_map.1 he;simp
   simp only[l0T,l0G,or_false] at he;rcases he with rfl|rfl|rfl|rfl|rfl <;> simp
theorem mbs_pl {p:List El}{a:List Adr}(h:Mbs p a):∀e∈p,e≠ .inl 58∧e≠ .inl 59:=by
 induction h with
 | one h=>exact fun e he=>⟨(mb_pl h e he).1,(mb_pl h e he).2.1⟩
 | cons h _ ih =>
   intro e he;rcases List.mem_append.1 he with he|he
   · exact⟨(mb_pl h e he).1,(mb_pl h e he).2.1⟩
   rcases List.mem_cons.1 he with rfl|he
   · simp
   exact ih e he
theorem w_pl (W:List Wrd):∀e∈W.map (Sum.inr (α:=UInt8)),∀c,e≠ .inl c:=by
 intro e he c;obtain⟨w,_,rfl⟩:=List.mem_map.1 he;simp
theorem it_cut {p:List El}{x:Itm}(h:It p x)(part r:List El):cutA false false part (p++r)=cutA false false (part++p) r:=by
 have hw :∀(W:List Wrd) (part r:List El),cutA false false part (W.map .inr++r)=cutA false false (part++W.map .inr) r:=fun W part r=>cut_pl _ _ _ _ _ fun e he=>⟨w_pl W e he _,w_pl W e he _,fun _=>w_pl W e he _⟩
 have h58 :∀(part r:List El),cutA false false part (.inl 58::r)=cutA false true (part++[.inl 58]) r:=fun part r=>by rw[cutA,if_neg Dc];rfl
 have h59 :∀(part r:List El),cutA false true part (.inl 59::r)=cutA false false (part++[.inl 59]) r:=fun part r=>by rw[cutA,if_neg Dc];rfl
 cases h with
 | one h=>exact cut_pl _ _ _ _ _ fun e he=>⟨(mb_pl h e he).1,(mb_pl h e he).2.1,fun _=>(mb_pl h e he).2.2⟩
 | nil h=>rw[l0d,hw,l05,h58,l05,h59];simp
 | cons h hm =>
   rename_i W m ar;rw[l0d,hw,l05,h58,l0d m,cut_pl _ _ _ _ _ (fun e he=>⟨(mbs_pl hm e he).1,(mbs_pl hm e he).2,fun x=>by cases x⟩),l05,h59];simp
theorem its_cut {l:List El}{xs:List Itm}(h:Its l xs):A2 It (cutA false false [] l) xs:=by
 have h44 :∀(part r:List El),cutA false false part (.inl 44::r)=part::cutA false false [] r:=fun part r=>by rw[cutA,if_pos Dc];rfl
 induction h with
 | one h =>
   have:=it_cut h [] [];rw[l0k,l07] at this;rw[this];exact .cons h .nil
 | cons h _ ih=>rw[it_cut h,h44];exact .cons h ih
theorem mbs_cut {l:List El}{xs:List Adr}(h:Mbs l xs):A2 Mb (cutA true false [] l) xs:=by
 have h44 :∀(part r:List El),cutA true false part (.inl 44::r)=part::cutA true false [] r:=fun part r=>by rw[cutA,if_pos Dc];rfl
 have hp :∀{p:List El} {a:Adr},Mb p a→∀(part r:List El),cutA true false part (p++r)=cutA true false (part++p) r:=fun h part r=>cut_pl _ _ _ _ _ fun e he=>⟨(mb_pl h e he).1,(mb_pl h e he).2.1,fun _=>(mb_pl h e he).2.2⟩
 induction h with
 | one h =>
   have:=hp h [] [];rw[l0k,l07] at this;rw[this];exact .cons h .nil
 | cons h _ ih=>rw[hp h,h44];exact .cons h ih
end Go.Ph.Ad
end
section
namespace Go.Ph.Ad
open Go.Ph.Pl Go.Ph.Pf
def flR (run:List Ls):List Ls:=if run=[] then [] else [Wd.un (jn [32] run)]
def rns : List Ls→List Wrd→List Ls
 | run,[]=>flR run
 | run,(w,true)::l=>flR run++w::rns [] l
 | run,(w,false)::l=>rns (run++[w]) l
theorem named1_val (run out:List Ls)(h1:jl run≤4001)(h2:jl out≤100000):Y1n run out=some ([],out++flR run):=by
 unfold Y1n flR;cases run with
 | nil=>simp
 | cons x r =>
   have hj:=jn_jl (x::r);have hl:=jl_len out;have hr:=jl_len (x::r);have hx:1≤jl (x::r):=by rw[jl];omega
   unfold Y0t;rw[if_pos Sm,if_pos ⟨by omega,by omega⟩,bsome,Wd.decode_eq Om,bsome];dsimp only;rw[app_ok (by simp;omega),bsome,if_neg Sm]
theorem named_val :∀(l:List Wrd) (L:List Wrd) (i m:Nat) (out run:List Ls),L.drop i=l→L.length≤100000→i≤L.length→l.length<m→jl run+wz l≤4001→jl out+4*jl run+4*wz l≤100000→
 ∃o r,Y0n L m out run (i:Int)=some (o,r)∧o++flR r=out++rns run l:=by
 intro l;induction l with
 | nil =>
   intro L i m out run hd hL hi hm h4 h5;obtain⟨m,rfl⟩ :∃k,m=k+1:=⟨m-1,by omega⟩
   have:L.length≤i:=List.drop_eq_nil_iff.1 hd;rw[Y0n,if_neg Om];exact⟨_,_,G,G⟩
 | cons w l ih =>
   intro L i m out run hd hL hi hm h4 h5;obtain⟨m,rfl⟩ :∃k,m=k+1:=⟨m-1,by omega⟩
   have hlt:i<L.length:=by
    have:=congrArg List.length hd;rw[l01,l02] at this;omega
   rw[l09 hlt] at hd;injection hd with hd1 hd2;obtain⟨w,q⟩:=w;rw[wz] at h4 h5;have hlo:=jl_len out;have hlr:=jl_len run;rw[l02] at hm;rw[Y0n,if_pos Om,idx_nat,List.getElem?_eq_getElem hlt,bsome,hd1];dsimp only at h4 h5 ⊢;cases q with
   | true =>
     obtain⟨o,e1,e2⟩:=named1 run out Om Om;have e3:=named1_val run out Om Om;rw[e1] at e3;have e4:o=out++flR run:=by injection e3 with e3;exact congrArg Prod.snd e3
     have hl2:=jl_len o;rw[if_pos rfl,e1,bsome];dsimp only;rw[app_ok (by simp;omega),bsome,chk_succ Om,bsome];obtain⟨o',r',q1,q2⟩:=ih L (i+1) m (o++[w]) [] hd2 hL Om Om (by rw[jl];omega) (by rw[jl_app,jl];omega);exact⟨o',r',q1,by rw[q2,e4,rns];simp⟩
   | false =>
     rw[if_neg Dc,app_ok (by simp;omega),bsome,chk_succ Om,bsome];obtain⟨o',r',q1,q2⟩:=ih L (i+1) m out (run++[w]) hd2 hL Om Om (by rw[jl_app];omega) (by rw[jl_app];omega);exact⟨o',r',q1,by rw[q2,rns]⟩
theorem nam_val (l:List Wrd)(h:wz l≤4001):nam l=jn [32] (rns [] l):=by
 have hl:=wz_len l;obtain⟨o,r,q1,q2,q3⟩:=namedL l Om l.length 0 FU [] [] Om (FU_gt Om) Om (by rw[jl,l0m];omega) (by rw[jl,l0m];omega);obtain⟨o',r',q4,q5⟩:=named_val l l 0 FU [] [] l0m Om Om (FU_gt Om) (by rw[jl];omega) (by rw[jl];omega);rw[q1] at q4;cases q4;rw[jl,l0m] at q3;have q6:=named1_val r o q2 Om;obtain⟨o2,q7,q8⟩:=named1 r o q2 Om;rw[q6] at q7;have q9:o2=o++flR r:=by injection q7 with q7;exact (congrArg Prod.snd q7).symm
 have hj:=jn_jl o2;have ho:=jl_len o2;unfold nam Y1A;rw[show (0:Int)=((0:Nat):Int) from rfl,q1,bsome];dsimp only;rw[q6,bsome];dsimp only;unfold Y0t;rw[←q9,if_pos ⟨by omega,by omega⟩,bsome,q9,q5,l07];rfl
theorem rns_run :∀(r:List Ls) (acc:List Ls) (rest:List Wrd),rns acc (r.map (fun w=>(w,false))++rest)=rns (acc++r) rest
 | [],acc,rest=>by simp
 | w::r,acc,rest=>by rw[l0i,l05,rns,rns_run r _ rest,l0d];rfl
theorem rns_stop (acc:List Ls):∀(rest:List Wrd),(∀w u,rest=w::u→w.2=true)→rns acc rest=flR acc++rns [] rest
 | [],_=>by simp [rns,flR]
 |(w,true)::u,_=>by rw[rns,rns];rfl
 |(w,false)::u,h=>by cases h _ _ rfl
theorem jn_snoc :∀(d:List Ls) (x:Ls),jn [32] (d++[x])=if d=[] then x else jn [32] d++[32]++x
 | [],x=>rfl
 | [y],x=>by simp [jn]
 | y::z::d,x=>by
   have:=jn_snoc (z::d) x;rw[if_neg Sm] at this;rw[l05,l05,jn,←l05,this,if_neg Sm,jn];simp
end Go.Ph.Ad
end
section
namespace Go.Ph.Ad
open Go.Ph.Pl Go.Ph.Pf
theorem rfirst_L1 (l:List El)(h:SmE l):∀(k m:Nat) (n:Int),n=(k:Int)-1→k≤l.length→k<m→Y2J (l.map tk) m n=some (if (l.take k).any isQ=true then .inr true else .inl ()):=by
 intro k;induction k with
 | zero =>
   intro m n hn h1 h2;obtain⟨m,rfl⟩ :∃k,m=k+1:=⟨m-1,by omega⟩
   rw[Y2J,if_neg Om];rfl
 | succ k ih =>
   intro m n hn h1 h2;obtain⟨m,rfl⟩ :∃k,m=k+1:=⟨m-1,by omega⟩
   have hl:=h.1;have ht:=(h.at (show k<l.length by omega)).2;obtain rfl:n=(k:Int):=by omega
   rw[Y2J,if_pos Om,ix l (show k<l.length by omega),bsome,l0n (show k<l.length by omega),l1l];by_cases q:isQ l[k]=true
   · rw[if_pos (ht.2 q)];simp [q]
   rw[if_neg (fun e=>q (ht.1 e)),chk_ok Om Om,bsome,ih m _ rfl Om Om];simp [q]
theorem rfirst_eq (l:List El)(h:SmE l){i:Nat}(hi:i<l.length):R_first (l.map tk) (i:Int)=some (if isQ l[i]=true then decide (0<i) else(l.take (i+1)).any isQ):=by
 have hl:=h.1;have ht:=(h.at hi).2;unfold R_first;rw[ix l hi,bsome];by_cases q:isQ l[i]=true
 · rw[if_pos (ht.2 q),if_pos q];exact congrArg some (decide_eq_decide.2 Om)
 rw[if_neg (fun e=>q (ht.1 e)),if_neg q,rfirst_L1 l h (i+1) FU i Om Om (FU_gt Om),bsome];by_cases hq:(l.take (i+1)).any isQ=true
 · rw[if_pos hq,hq]
 rw[if_neg hq,Bool.eq_false_iff.2 hq]
def tx : List El→List Ls:=List.map fun e=>(tk e).2
theorem jn_flat (x:Ls):∀r:List Ls,jn [32] (x::r)=x++r.flatMap fun y=>32::y
 | []=>by simp [jn]
 | y::r=>by
   rw[jn,jn_flat y r];simp
theorem rrun (l:List El)(h:SmE l):∀(k i m:Nat) (t:Ls),l.length-i≤k→k<m→i<l.length→
 t.length+jl (tx ((l.drop (i+1)).takeWhile isU))≤1000000→Y2C (l.map tk) m (i:Int) t=some (((i+((l.drop (i+1)).takeWhile isU).length:Nat):Int),t++(tx ((l.drop (i+1)).takeWhile isU)).flatMap fun x=>32::x):=by
 intro k;induction k with
 | zero=>intro i m t h1 h2 h3;omega
 | succ k ih =>
   intro i m t h1 h2 h3 h4;obtain⟨m,rfl⟩ :∃k,m=k+1:=⟨m-1,by omega⟩
   have hl:=h.1;have c1:chk ((i:Int)+1)=some ((i+1:Nat):Int):=chk_succ Om;rw[Y2C,c1,bsome,l0a];by_cases hj:i+1<l.length
   · have ht:=(h.at hj).1;rw[l09 hj] at h4 ⊢;rw[if_pos Om,bsome,ix l hj,bsome];by_cases q:isU l[i+1]=true
     · rw[l0o q] at h4 ⊢;have e:tx (l[i+1]::(l.drop (i+1+1)).takeWhile isU)=(tk l[i+1]).2::tx ((l.drop (i+1+1)).takeWhile isU):=rfl;rw[e,jl] at h4;rw[decide_eq_true (ht.2 q),bsome,if_pos rfl,bsome,cat_ok (by simp;omega),bsome,ix l hj,bsome,cat_ok (by simp;omega),bsome,ih (i+1) m _ Om Om hj (by simp;omega),e,l02,l2k];simp [l1u]
     rw[decide_eq_false (fun e=>q (ht.1 e)),bsome,if_neg Dc,l0y q];simp [tx]
   rw[if_neg Om,bsome,if_neg Dc,l08 Om];simp [tx]
def nB (l:List El)(out:Ls)(j:Nat):Bool := !decide (out=[]) ||(decide (0<j)&&(l.take (j+1)).any isQ)
theorem rn_step (l:List El)(h:SmE l){j:Nat}(hj:j<l.length)(out t:Ls)(hb:out.length+t.length≤1000000)(m:Nat):
 (((if out=[] then(if (0:Int)<(j:Int) then(if (0:Int)<(l.length:Int) then(R_first (l.map tk) (j:Int)).bind fun b45=>some b45 else some false) else some false) else some true)).bind fun b41=>((if b41=true then(cat out [32]).bind fun s52=>some s52 else some out)).bind fun s50=>(cat s50 t).bind fun s54=>(chk ((j:Int)+1)).bind fun n55=>Y14 (l.map tk) m s54 n55)
 = Y14 (l.map tk) m ((if nB l out j=true then out++[32] else out)++t) ((j+1:Nat):Int):=by
 have hl:=h.1;have hg:(if out=[] then(if (0:Int)<(j:Int) then(if (0:Int)<(l.length:Int) then(R_first (l.map tk) (j:Int)).bind fun b45=>some b45 else some false) else some false) else some true)=some (nB l out j):=by
  unfold nB;by_cases ho:out=[]
  · rw[if_pos ho,decide_eq_true ho];by_cases hp:0<j
    · rw[if_pos Om,if_pos Om,rfirst_eq l h hj,bsome,decide_eq_true hp];by_cases q:isQ l[j]=true
      · rw[if_pos q,l0n hj,l1l];simp [q]
      rw[if_neg q];rfl
    rw[if_neg Om,decide_eq_false hp];rfl
  rw[if_neg ho,decide_eq_false ho];rfl
 rw[hg,bsome];have hc :∀o:Ls,o.length≤1000001→((cat o t).bind fun s54=>(chk ((j:Int)+1)).bind fun n55=>Y14 (l.map tk) m s54 n55)=Y14 (l.map tk) m (o++t) ((j+1:Nat):Int):=by
  intro o ho;rw[cat_ok Om,bsome,chk_succ Om,bsome]
 cases nB l out j with
 | false =>
   rw[if_neg l06,if_neg l06,bsome];exact hc out Om
 | true =>
   rw[if_pos rfl,if_pos rfl,cat_ok (by simp;omega),bsome,bsome];exact hc _ (by rw[l00,l1J];omega)
theorem isU_eq {e:El}(h:isU e=true):e = .inr ((tk e).2,false):=by
 cases e with
 | inl c=>cases h
 | inr w=>obtain⟨w,q⟩:=w;cases q with
   | true=>cases h
   | false=>rfl
theorem ez_app :∀a b:List El,ez (a++b)=ez a+ez b
 | [],b=>by simp [ez]
 | .inl _::a,b=>by rw[l05,ez,ez,ez_app a b]
 | .inr _::a,b=>by rw[l05,ez,ez,ez_app a b];omega
theorem tx_u :∀{r:List El},(∀e∈r,isU e=true)→r=(tx r).map (fun w => .inr (w,false))∧ez r=jl (tx r)
 | [],_=>⟨rfl,rfl⟩
 | e::r,h=>by
   have he:=isU_eq (h e Sm);obtain⟨h1,h2⟩:=tx_u (r:=r) fun x hx=>h x (by simp [hx])
   have ht:tx (e::r)=(tk e).2::tx r:=rfl;rw[ht,l0i,←h1,←he,jl,←h2];refine⟨G,?_⟩;rw[he,ez];rfl
theorem inr_inj {a b:List Wrd}(h:a.map (Sum.inr (α:=UInt8))=b.map .inr):a=b:=List.map_inj_right (fun x y e=>by injection e) |>.1 h
theorem rname_L1 (l:List El)(h:SmE l):∀(k i m:Nat) (out:Ls),l.length-i≤k→k<m→i≤l.length→out.length+5*ez (l.drop i)+(l.length-i)≤100000→
 ∃o,Y14 (l.map tk) m out (i:Int)=some o∧∀(W:List Wrd) (d:List Ls),l=W.map .inr→out=jn [32] d→(d=[]↔i=0)→(∀w u,W.drop i=w::u→w.2=false→0<i→∃v∈W.take i,v.2=true)→o=jn [32] (d++rns [] (W.drop i)):=by
 intro k;induction k with
 | zero =>
   intro i m out h1 h2 h3 h4;obtain⟨m,rfl⟩ :∃k,m=k+1:=⟨m-1,by omega⟩
   rw[Y14,l0a,if_neg Om];refine⟨_,G,fun W d hW ho _ _=>?_⟩;have:=congrArg List.length hW;rw[l0a] at this;rw[l08 Om,ho];simp [rns,flR]
 | succ k ih =>
   intro i m out h1 h2 h3 h4;obtain⟨m,rfl⟩ :∃k,m=k+1:=⟨m-1,by omega⟩
   have hl:=h.1;by_cases hi:i<l.length
   · have ht:=(h.at hi).1;have hd:=l09 hi;rw[Y14,l0a,if_pos Om,ix l hi,bsome,bsome];by_cases q:isU l[i]=true
     · obtain⟨R,hR⟩ :∃R,(l.drop (i+1)).takeWhile isU=R:=⟨_,rfl⟩
       have hRu :∀e∈R,isU e=true:=fun e he=>List.all_eq_true.1 (hR ▸ List.all_takeWhile) e he
       obtain⟨hR1,hR2⟩:=tx_u hRu;have hA:l.drop (i+1)=R++l.drop (i+R.length+1):=by
        have e1:=l2r (p:=isU) (l:=l.drop (i+1));rw[←tw_drop,hR,l0l,l2k] at e1;exact e1.symm
       have hlen:=congrArg List.length hA;simp only[l00,l01] at hlen;have hez:ez (l.drop i)=(tk l[i]).2.length+1+jl (tx R)+ez (l.drop (i+R.length+1)):=by
        rw[hd,isU_eq q,ez,hA,ez_app,hR2];dsimp only[tk];omega
       have hle:ez (l.drop i)≤4001:=l0A (ez_sub (List.drop_sublist _ _)) h.2.1;have htl:(jn [32] ((tk l[i]).2::tx R)).length≤jl ((tk l[i]).2::tx R)-1:=jn_jl _;rw[jl] at htl;have hul:=un_len _ (jn [32] ((tk l[i]).2::tx R)) (l0e _) Om;rw[if_pos (ht.2 q),rrun l h l.length i FU _ Om (FU_gt Om) hi (by rw[hR];omega),hR,bsome];dsimp only;rw[←jn_flat,Wd.unworded_eq Om,bsome,bsome];dsimp only;rw[rn_step l h (show i+R.length<l.length by omega) _ _ Om];obtain⟨o,n1,n2⟩:=ih (i+R.length+1) m ((if nB l out (i+R.length)=true then out++[32] else out)++Wd.un (jn [32] ((tk l[i]).2::tx R))) Om Om Om (by
        cases nB l out (i+R.length) <;> simp <;> omega)
       refine⟨o,n1,fun W d hW ho hdi hb=>?_⟩;have hWl:=congrArg List.length hW;rw[l0a] at hWl;have hWi:W.drop i=((tk l[i]).2::tx R).map (fun w=>(w,false))++W.drop (i+R.length+1):=by
        refine inr_inj ?_;have e1:((tx R).map fun w=>(w,false)).map (Sum.inr (α:=UInt8))=R:=by rw[l1t];exact hR1.symm
        rw[l0R,l2b,l2b,←hW,hd,hA,l0i,l0i,e1,←isU_eq q];rfl
       have hst :∀w u,W.drop (i+R.length+1)=w::u→w.2=true:=by
        intro w u hw;have e1:l.drop (i+R.length+1) = .inr w::u.map .inr:=by rw[hW,←l2b,hw];rfl
        have e2:(l.drop (i+1)).dropWhile isU = .inr w::u.map .inr:=by rw[←tw_drop,hR,l0l,l2k,e1]
        have e3:=List.head?_dropWhile_not isU (l.drop (i+1));rw[e2] at e3;obtain⟨w,b⟩:=w;cases b with
        | true=>rfl
        | false=>simp [isU] at e3
       have hfl:flR ((tk l[i]).2::tx R)=[Wd.un (jn [32] ((tk l[i]).2::tx R))]:=by rw[flR,if_neg Sm]
       have hnB:nB l out (i+R.length) = !decide (d=[]):=by
        unfold nB;by_cases hd0:d=[]
        · have hi0:=hdi.1 hd0;have:(l.take (i+R.length+1)).any isQ=false:=by
           rw[List.any_eq_false];intro e he;subst hi0;have e1:l.take (0+R.length+1)=l[0]::R:=by
            have e2:l=l[0]::(R++l.drop (0+R.length+1)):=by rw[←hA,←hd,l0m]
            conv=>lhs;rw [e2]
            simp
           rw[e1] at he;have he':isU e=true:=by
            rcases List.mem_cons.1 he with rfl|he
            · exact q
            exact hRu e he
           rw[isU_eq he'];simp [isQ]
          rw[this,ho,hd0,Bool.and_false];simp [jn]
        have hi0:0<i:=by
         rcases l1H i with e|e
         · exact absurd (hdi.2 e) hd0
         exact e
        obtain⟨v,v1,v2⟩:=hb _ _ hWi rfl hi0;have:(l.take (i+R.length+1)).any isQ=true:=by
         rw[List.any_eq_true];refine⟨.inr v,?_,by obtain⟨v,b⟩:=v;cases b <;> simp [isQ] at v2 ⊢⟩;rw[hW,←l2L];refine List.mem_map_of_mem ?_;exact(List.take_sublist_take_left Om).subset v1
        rw[this,decide_eq_true (show 0<i+R.length by omega),decide_eq_false hd0];simp
       rw[n2 W (d++[Wd.un (jn [32] ((tk l[i]).2::tx R))]) hW (by
        rw[jn_snoc,hnB,ho];by_cases hd0:d=[]
        · rw[if_pos hd0,decide_eq_true hd0,hd0];rfl
        rw[if_neg hd0,decide_eq_false hd0];rfl) Sm (fun w u hw hf=>by rw[hst w u hw] at hf;cases hf),hWi,rns_run,l07,rns_stop ((tk l[i]).2::tx R) _ hst,hfl]
       simp
     have hez:ez (l.drop i)=ez [l[i]]+ez (l.drop (i+1)):=by rw[hd,←ez_app];rfl
     have htl:(tk l[i]).2.length≤ez [l[i]]:=by
      cases l[i] with
      | inl c=>simp [tk]
      | inr w=>simp [tk,ez]
     rw[if_neg (fun e=>q (ht.1 e)),bsome];dsimp only;rw[rn_step l h hi _ _ Om];obtain⟨o,n1,n2⟩:=ih (i+1) m ((if nB l out i=true then out++[32] else out)++(tk l[i]).2) Om Om Om (by
      cases nB l out i <;> simp <;> omega)
     refine⟨o,n1,fun W d hW ho hdi hb=>?_⟩;have hWl:=congrArg List.length hW;rw[l0a] at hWl;have hWi:W.drop i=W[i]::W.drop (i+1):=l09 Om;have hei:l[i] = .inr W[i]:=by simp only[hW,List.getElem_map]
     obtain⟨⟨w,b⟩,hwb⟩ :∃x,W[i]'Om=x:=⟨_,rfl⟩
     rw[hwb] at hWi hei;cases b with
     | false=>rw[hei] at q;exact absurd rfl q
     | true =>
       have hany :∀j,i<j→(l.take j).any isQ=true:=by
        intro j hj;rw[List.any_eq_true];exact⟨l[i],List.mem_take_iff_getElem.2 ⟨i,by omega,G⟩,by rw[hei];rfl⟩
       have hnB:nB l out i = !decide (d=[]):=by
        unfold nB;rw[hany _ (l0b i),Bool.and_true];by_cases hd0:d=[]
        · rw[hdi.1 hd0,ho,hd0];simp [jn]
        have hi0:0<i:=by
         rcases l1H i with e|e
         · exact absurd (hdi.2 e) hd0
         exact e
        rw[decide_eq_true hi0,decide_eq_false hd0,Bool.or_true];rfl
       rw[n2 W (d++[w]) hW (by
        rw[jn_snoc,hnB,ho,hei];by_cases hd0:d=[]
        · rw[if_pos hd0,decide_eq_true hd0,hd0];rfl
        rw[if_neg hd0,decide_eq_false hd0];rfl) Sm (fun w2 u hw hf _=>⟨(w,true),List.mem_take_iff_getElem.2 ⟨i,by omega,hwb⟩,rfl⟩),hWi,rns,flR,if_pos rfl]
       simp
   rw[Y14,l0a,if_neg Om];refine⟨_,G,fun W d hW ho _ _=>?_⟩;have:=congrArg List.length hW;rw[l0a] at this;rw[l08 Om,ho];simp [rns,flR]
theorem ez_w :∀W:List Wrd,ez (W.map .inr)=wz W
 | []=>rfl
 | w::W=>by rw[l0i,ez,wz,ez_w W]
theorem rname_eq (l:List El)(h:SmE l):∃o,Y3X (l.map tk)=some o∧∀W:List Wrd,l=W.map .inr→o=nam W:=by
 have hl:=h.1;have h2:=h.2.1;obtain⟨o,h3,h4⟩:=rname_L1 l h l.length 0 FU [] Om (FU_gt Om) Om (by rw[l0m,l03];omega);have h3':Y14 (l.map tk) FU [] 0=some o:=h3;refine⟨o,by unfold Y3X;rw [h3',bsome],fun W hW=>?_⟩;rw[h4 W [] hW rfl Sm (fun _ _ _ _ hh=>absurd hh Om),l0m,l07,nam_val W (by rw[←ez_w,←hW];exact h2)]
end Go.Ph.Ad
end
section
namespace Go.Ph.Ad
open Go.Ph.Pl Go.Ph.Pf
theorem tk_len {l:List El}(h:SmE l){e:El}(he:e∈l):(tk e).2.length≤4001:=by
 cases e with
 | inl c=>simp [tk]
 | inr w =>
   have:=ez_sub (List.singleton_sublist.2 he);rw[ez,ez] at this;have:=h.2.1;dsimp only[tk];omega
theorem rspec3 (a b c:El)(h:SmE [a,b,c]):∃r,Y13 [tk a,tk b,tk c]=some r∧(r.2=true→∃w q d,[a,b,c]=[.inr (w,q), .inl 64, .inr (d,false)]∧okS w q d∧r.1=([],w,d))∧
 ∀w q d,[a,b,c]=[.inr (w,q), .inl 64, .inr (d,false)]→okS w q d→r=(([],w,d),true):=by
 have ta:=tk_w (e:=a) fun x hx=>h.2.2 x (by simp [hx])
 have tb:=tk_s (e:=b) (c:=64) Dc;have tc:=tk_w (e:=c) fun x hx=>h.2.2 x (by simp [hx])
 have la:=tk_len h (e:=a) Sm;have lc:=tk_len h (e:=c) Sm;have i0:idx [tk a,tk b,tk c] 0=some (tk a):=rfl;have i1:idx [tk a,tk b,tk c] 1=some (tk b):=rfl;have i2:idx [tk a,tk b,tk c] 2=some (tk c):=rfl;have h3:(([tk a,tk b,tk c].length:Nat):Int)=3:=rfl;unfold Y13;simp only[h3,i0,i1,i2,bsome,if_true];by_cases q1:b = .inl 64
 · rw [if_pos (tb.2 q1)];by_cases q2:isU c=true
   · rw [if_pos (tc.1.2 q2)];obtain⟨d,rfl⟩ :∃d,c = .inr (d,false):=⟨_,isU_eq q2⟩
     by_cases q3:isX a=true
     · obtain⟨w,q,rfl⟩ :∃w q,a = .inr (w,q):=by
        cases a with
        | inl x=>cases q3
        | inr w=>exact⟨w.1,w.2,rfl⟩
       have e1:(tk (.inr (w,q))).2=w:=rfl;have e2:(tk (.inr (d,false))).2=d:=rfl;rw[e1] at la;rw[e2] at lc;rw[e1,e2];have hb:(if (tk (.inr (w,q))).1=119 then some false else some (!decide ((tk (.inr (w,q))).1=113)))=some false:=by cases q <;> rfl
       have hD:(if (d.length:Int)≤(60:Int) then(Y2y d true).bind fun b28=>some (([]:Ls),w,d,b28) else some ([],w,d,false))=some ([],w,d,domT d):=by
        unfold domT;by_cases hh:d.length≤60
        · rw[if_pos Om,rdotD_eq _ (by unfold Big;omega),bsome,decide_eq_true hh,l1S]
        rw[if_neg Om,decide_eq_false hh,Bool.false_and]
       have key:(if locT w=true then(if (tk (.inr (w,q))).1=113 then some (([]:Ls),w,d,domT d) else(some (dtF atB true w)).bind fun b30=>(if b30=true then some ([],w,d,domT d) else some ([],w,d,false))) else some ([],w,d,false))=some ([],w,d,decide (okS w q d)):=by
        unfold okS;generalize locT w=x;generalize dtF atB true w=y;generalize domT d=z;cases x <;> cases q <;> cases y <;> cases z <;> rfl
       rw[hb,bsome,if_neg l06,rlocal_eq _ (by unfold Big;omega),bsome,hD,rdotA_eq _ (by unfold Big;omega),key,bsome];refine⟨_,G,fun hh=>⟨w,q,d,by rw[q1],of_decide_eq_true hh,G⟩,fun w' q' d' he hok=>?_⟩;cases he;rw[decide_eq_true hok]
     have hb:(if (tk a).1=119 then some false else some (!decide ((tk a).1=113)))=some true:=by
      unfold isX at q3;rw[l2t,not_or] at q3;rw[if_neg (fun e=>q3.1 (ta.1.1 e)),decide_eq_false (fun e=>q3.2 (ta.2.1 e))];rfl
     rw[hb,bsome,if_pos rfl];exact⟨_,G,fun hh=>(by cases hh),fun w' q' d' he _=>(by injection he with e1;rw [e1] at q3;exact absurd (by cases q' <;> rfl) q3)⟩
   rw[if_neg (fun e=>q2 (tc.1.1 e)),bsome,if_pos rfl];exact⟨_,G,fun hh=>(by cases hh),fun w' q' d' he _=>(by injection he with e1 e2;injection e2 with e2 e3;injection e3 with e3 _;rw [e3] at q2;exact absurd G q2)⟩
 rw[if_neg (fun e=>q1 (tb.1 e)),bsome,if_pos rfl];exact⟨_,G,fun hh=>(by cases hh),fun w' q' d' he _=>(by injection he with e1 e2;injection e2 with e2 _;exact absurd e2 q1)⟩
theorem rspec (l:List El)(h:SmE l):∃r,Y13 (l.map tk)=some r∧(r.2=true→∃w q d,l=[.inr (w,q), .inl 64, .inr (d,false)]∧okS w q d∧r.1=([],w,d))∧
 ∀w q d,l=[.inr (w,q), .inl 64, .inr (d,false)]→okS w q d→r=(([],w,d),true):=by
 match l,h with
 | [a,b,c],h=>exact rspec3 a b c h
 | [],_=>exact⟨(([],[],[]),false),rfl,fun hh=>(by cases hh),fun w q d hh=>(by cases hh)⟩
 | [a],_=>exact⟨(([],[],[]),false),rfl,fun hh=>(by cases hh),fun w q d hh=>(by cases hh)⟩
 | [a,b],_=>exact⟨(([],[],[]),false),rfl,fun hh=>(by cases hh),fun w q d hh=>(by cases hh)⟩
 | a::b::c::d::r,_ =>
   refine⟨(([],[],[]),false),?_,fun hh=>(by cases hh),fun w q d hh=>(by cases hh)⟩;unfold Y13;rw[if_neg (by simp;omega),bsome,if_pos rfl]
theorem split_at (c:UInt8):∀l:List El,(∀e∈l,e≠ .inl c)∨∃P q,l=P ++ .inl c::q∧∀e∈P,e≠ .inl c
 | [] => .inl Sm
 | e::l=>by
   by_cases he:e = .inl c
   · exact .inr ⟨[],l,by rw[he];rfl,by simp⟩
   rcases split_at c l with h|⟨P,q,rfl,h⟩
   · exact .inl fun x hx=>by
      rcases List.mem_cons.1 hx with rfl|hx
      · exact he
      exact h x hx
   exact .inr ⟨e::P,q,G,fun x hx=>by
    rcases List.mem_cons.1 hx with rfl|hx
    · exact he
    exact h x hx⟩
theorem split_uniq {c:UInt8}:∀{P P' q q':List El},(∀e∈P,e≠ .inl c)→(∀e∈P',e≠ .inl c)→P ++ .inl c::q=P' ++ .inl c::q'→P=P'∧q=q'
 | [],[],q,q',_,_,h=>by cases h;exact ⟨rfl,rfl⟩
 | [],e::P',q,q',_,h',h=>by injection h with h1;exact absurd h1.symm (h' e Sm)
 | e::P,[],q,q',h',_,h=>by injection h with h1;exact absurd h1 (h' e Sm)
 | e::P,e'::P',q,q',h1,h2,h=>by
   injection h with h3 h4;have:=split_uniq (fun x hx=>h1 x (by simp [hx])) (fun x hx=>h2 x (by simp [hx])) h4;rw[h3,this.1,this.2];exact ⟨rfl,rfl⟩
theorem walkTo {β:Type}{L:Nat→Int→β}{n:Nat}{v:β}(hs :∀m i,i<n→L (m+1) (i:Int)=L m ((i+1:Nat):Int))(hv :∀m,L (m+1) (n:Int)=v):∀(k i m:Nat),n-i≤k→k<m→i≤n→L m (i:Int)=v:=by
 intro k;induction k with
 | zero =>
   intro i m h1 h2 h3;obtain⟨m,rfl⟩ :∃k,m=k+1:=⟨m-1,by omega⟩
   obtain rfl:i=n:=by omega
   exact hv m
 | succ k ih =>
   intro i m h1 h2 h3;obtain⟨m,rfl⟩ :∃k,m=k+1:=⟨m-1,by omega⟩
   by_cases hi:i<n
   · rw[hs m i hi];exact ih (i+1) m Om Om Om
   obtain rfl:i=n:=by omega
   exact hv m
theorem mb_lt {l:List El}{a:Adr}(h:Mb l a){P q:List El}(hP:l=P ++ .inl 60::q)(hn :∀e∈P,e≠ .inl 60):∃W w q' d,P=W.map .inr∧q=[.inr (w,q'), .inl 64, .inr (d,false)]++[.inl 62]∧okS w q' d∧a=(nam W,w,d):=by
 cases h with
 | bare h =>
   have:(.inl 60:El)∈P ++ .inl 60::q:=by simp
   rw[←hP] at this;simp at this
 | full W h =>
   obtain⟨h1,h2⟩:=split_uniq (fun e he=>w_pl W e he _) hn hP;exact⟨W,_,_,_,h1.symm,h2.symm,h,G⟩
theorem rmb (l:List El)(h:SmE l):∃r,Y3P (l.map tk)=some r∧(r.2=true→Mb l r.1)∧∀a,Mb l a→r=(a,true):=by
 have hl:=h.1;have step :∀m i (hi:i<l.length),l[i]≠ .inl 60→Y0g (l.map tk) (m+1) [] [] [] (i:Int)=Y0g (l.map tk) m [] [] [] ((i+1:Nat):Int):=by
  intro m i hi hne;rw[Y0g,l0a,if_pos Om,ix l hi,bsome,if_neg (fun e=>hne ((tk_s Dc).1 e)),chk_succ Om,bsome]
 unfold Y3P;rcases split_at 60 l with hn|⟨P,q,hP,hn⟩
 · have h1:Y0g (l.map tk) FU [] [] [] ((0:Nat):Int)=some (.inl ([],[],[])):=by
    refine walkTo (L:=fun m i=>Y0g (l.map tk) m [] [] [] i) (n:=l.length) (fun m i hi=>step m i hi (hn _ (l0N hi))) (fun m=>?_) l.length 0 FU Om (FU_gt Om) Om;show Y0g (l.map tk) (m+1) [] [] [] (l.length:Int)=_
    rw[Y0g,l0a,if_neg Om]
   have h1':Y0g (l.map tk) FU [] [] [] 0=some (.inl ([],[],[])):=h1;obtain⟨⟨⟨x,y,z⟩,b⟩,h2,h3,h4⟩:=rspec l h;rw[h1',bsome];dsimp only;rw[h2,bsome];refine⟨_,G,fun hb=>?_,fun a ha=>?_⟩
   · obtain⟨w,q,d,h5,h6,h7⟩:=h3 hb;dsimp only at h7 ⊢;rw[h5,h7];exact .bare h6
   cases ha with
   | bare ho=>exact h4 _ _ _ rfl ho
   | full W ho=>exact absurd rfl (hn (.inl 60) Sm)
 have hPl:P.length<l.length:=by rw[hP];simp
 have hPs:P.Sublist l:=by rw[hP];exact l1m _ _
 have hat:l[P.length] = .inl 60:=by simp [hP]
 have hbef :∀i (hi:i<P.length),l[i]'Om≠ .inl 60:=fun i hi=>by
  have:l[i]'Om=P[i]:=by simp only[hP,List.getElem_append_left hi]
  rw[this];exact hn _ (l0N hi)
 have hlast:l[l.length-1]'Om=(.inl 60::q).getLast Sm:=by
  rw[←List.getLast_eq_getElem (h:=by intro e;rw [e] at hPl;simp at hPl)];simp only[hP,List.getLast_append_of_ne_nil _ (show(.inl 60::q:List El)≠ [] by simp)]
 have cutP:cut (l.map tk) 0 (P.length:Int)=some (P.map tk):=by
  rw[cut_to rfl (by rw[l0a];omega),hP,l0R,←l0a (f:=tk),l1y]
 suffices hs :∃r,(∀m,Y0g (l.map tk) (m+1) [] [] [] (P.length:Int)=some (.inr r))∧(r.2=true→Mb l r.1)∧∀a,Mb l a→r=(a,true) by
  obtain⟨r,h1,h2,h3⟩:=hs;have h4:Y0g (l.map tk) FU [] [] [] ((0:Nat):Int)=some (.inr r):=walkTo (L:=fun m i=>Y0g (l.map tk) m [] [] [] i) (n:=P.length) (fun m i hi=>step m i Om (hbef i hi)) h1 P.length 0 FU Om (FU_gt Om) Om;have h4':Y0g (l.map tk) FU [] [] [] 0=some (.inr r):=h4;exact⟨r,by rw[h4',bsome],h2,h3⟩
 have hgo :∀m,Y0g (l.map tk) (m+1) [] [] [] (P.length:Int)=((if (tk ((.inl 60::q).getLast Sm)).1=62 then(R_words (P.map tk)).bind fun b22=>some (!b22) else some true)).bind fun b17=>(if b17=true then some (.inr (([],[],[]),false)) else(cut (l.map tk) ((P.length+1:Nat):Int) ((l.length-1:Nat):Int)).bind fun l28=>(Y13 l28).bind fun((s29,s30,s31),b32)=>(Y3X (P.map tk)).bind fun s35=>some (.inr ((s35,s30,s31),b32))):=by
  intro m;rw[Y0g,l0a,if_pos Om,ix l hPl,bsome,hat,if_pos (show(tk (.inl 60:El)).1=60 from rfl),chk_pred Om Om,bsome,ix l (show l.length-1<l.length by omega),bsome,hlast,cutP,chk_succ Om];rfl
 have hbad:(∀a,¬Mb l a)→(∀m,Y0g (l.map tk) (m+1) [] [] [] (P.length:Int)=some (.inr (([],[],[]),false)))→∃r,(∀m,Y0g (l.map tk) (m+1) [] [] [] (P.length:Int)=some (.inr r))∧(r.2=true→Mb l r.1)∧∀a,Mb l a→r=(a,true):=fun h1 h2=>⟨_,h2,fun hh=>(by cases hh),fun a ha=>absurd ha (h1 a)⟩
 rcases List.eq_nil_or_concat q with hq|⟨m,e,hq⟩
 · refine hbad (fun a ha=>?_) fun m=>?_
   · obtain⟨W,w,q',d,_,h2,_⟩:=mb_lt ha hP hn;rw[hq] at h2;cases h2
   rw[hgo];subst hq;rfl
 rw[List.concat_eq_append] at hq;have hge:(.inl 60::q:List El).getLast Sm=e:=by subst hq;exact List.getLast_concat (l := .inl 60::m)
 by_cases he:e = .inl 62
 · have hm:cut (l.map tk) ((P.length+1:Nat):Int) ((l.length-1:Nat):Int)=some (m.map tk):=by
    have hll:l.length=P.length+1+m.length+1:=by rw[hP,hq];simp;omega
    have hs:l=(P++[.inl 60])++(m++[e]):=by rw[hP,hq];simp
    rw[cut_of rfl rfl Om (by rw[l0a];omega),←l2L,←l2b,hs,l0S,l1T Sm,l1i (by simp;omega)]
   have hms:SmE m:=h.sub (by rw[hP,hq];exact ((l1m m [e]).cons _).trans (l2f _ _));obtain⟨⟨⟨x,y,z⟩,b⟩,s1,s2,s3⟩:=rspec m hms;obtain⟨o,n1,n2⟩:=rname_eq P (h.sub hPs);have key :∀k,Y0g (l.map tk) (k+1) [] [] [] (P.length:Int)=if P.all isX=true then some (.inr ((o,y,z),b)) else some (.inr (([],[],[]),false)):=by
    intro k;rw[hgo,hge,he,if_pos (show(tk (.inl 62:El)).1=62 from rfl),rwords_eq P (h.sub hPs),bsome,bsome];cases P.all isX with
    | true=>rw[if_neg Dc,hm,bsome,s1,bsome,if_pos rfl];dsimp only;rw [n1,bsome]
    | false=>rw[if_pos Dc,if_neg Dc]
   by_cases hx:P.all isX=true
   · obtain⟨W,hW⟩:=allX hx;refine⟨((o,y,z),b),fun k=>by rw[key,if_pos hx],fun hb=>?_,fun a ha=>?_⟩
     · obtain⟨w,q',d,t1,t2,t3⟩:=s2 hb;dsimp only at t3 ⊢;cases t3;rw[hP,hq,hW,t1,he,n2 W hW];exact .full W t2
     obtain⟨W',w,q',d,t1,t2,t3,t4⟩:=mb_lt ha hP hn;rw[hq] at t2;have t5:=s3 w q' d (l2q t2 rfl) t3;cases t5;rw[t4,n2 W' t1]
   refine hbad (fun a ha=>?_) fun k=>by rw[key,if_neg hx]
   obtain⟨W',w,q',d,t1,_,_,_⟩:=mb_lt ha hP hn;exact hx (by rw[t1];exact xall W')
 refine hbad (fun a ha=>?_) fun m=>?_
 · obtain⟨W,w,q',d,_,h2,_⟩:=mb_lt ha hP hn;rw[hq] at h2;exact he (List.append_inj_right' h2 G |> fun x=>by injection x)
 rw[hgo,hge,if_neg (fun x=>he ((tk_s Dc).1 x)),bsome,if_pos rfl]
theorem mapL {α β γ δ:Type}{R:α→β→Prop}{L:Nat→List β→Int→Option (γ ⊕ δ)}(f:List β→γ)(bad:δ)(ps:List α)
 (hstep :∀p∈ps,∃r:Option β,(∀x,r=some x↔R p x)∧∀(m:Nat) (acc:List β) (i:Nat) (hi:i<ps.length),ps[i]=p→acc.length≤i→L (m+1) acc (i:Int)=match r with
  | some x=>L m (acc++[x]) ((i+1:Nat):Int)
  | none=>some (.inr bad))
 (hend :∀m acc,L (m+1) acc (ps.length:Int)=some (.inl (f acc))) :∀(k i m:Nat) (acc:List β),ps.length-i≤k→k<m→i≤ps.length→acc.length≤i→∃r:Option (List β),L m acc (i:Int)=some (match r with
  | some xs => .inl (f (acc++xs))
  | none => .inr bad)∧∀xs,r=some xs↔A2 R (ps.drop i) xs:=by
 have last :∀(m:Nat) (acc:List β),0<m→∃r:Option (List β),L m acc (ps.length:Int)=some (match r with
  | some xs => .inl (f (acc++xs))
  | none => .inr bad)∧∀xs,r=some xs↔A2 R (ps.drop ps.length) xs:=by
  intro m acc hm;obtain⟨m,rfl⟩ :∃k,m=k+1:=⟨m-1,by omega⟩
  refine⟨some [],by rw[hend];simp,fun xs=>?_⟩;rw[l0O];constructor
  · intro h;cases h;exact .nil
  intro h;cases h;rfl
 intro k;induction k with
 | zero =>
   intro i m acc h1 h2 h3 h4;obtain rfl:i=ps.length:=by omega
   exact last m acc Om
 | succ k ih =>
   intro i m acc h1 h2 h3 h4;by_cases hi:i<ps.length
   · obtain⟨m,rfl⟩ :∃k,m=k+1:=⟨m-1,by omega⟩
     obtain⟨r,r1,r2⟩:=hstep ps[i] (l0N hi);have r3:=r2 m acc i hi rfl h4;rw[r3,l09 hi];cases r with
     | none =>
       refine⟨none,G,fun xs=>⟨fun h=>(by cases h),fun h=>?_⟩⟩;cases h with
       | cons h5 h6=>exact absurd ((r1 _).2 h5) Sm
     | some x =>
       obtain⟨t,t1,t2⟩:=ih (i+1) m (acc++[x]) Om Om Om (by simp;omega);refine⟨t.map (x :: ·),?_,fun xs=>⟨fun h=>?_,fun h=>?_⟩⟩
       · dsimp only;rw[t1];cases t with
         | none=>rfl
         | some ys=>simp
       · obtain⟨ys,h5,rfl⟩:=Option.map_eq_some_iff.1 h;exact .cons ((r1 x).1 G) ((t2 ys).1 h5)
       cases h with
       | cons h5 h6 =>
         cases(r1 _).2 h5;rw[(t2 _).2 h6];rfl
   obtain rfl:i=ps.length:=by omega
   exact last m acc Om
theorem ixp (ps:List (List El)){i:Nat}(h:i<ps.length):idx (ps.map (·.map tk)) (i:Int)=some (ps[i].map tk):=by rw[idx_nat,List.getElem?_map,List.getElem?_eq_getElem h];rfl
theorem rmem_L3 (ps:List (List El))(hp:ps.length≤5000)(hs :∀p∈ps,SmE p)(g:Ls)(b:Bool):∃r:Option (List Adr),Y1H (ps.map (·.map tk)) FU g b [] 0=some (match r with
 | some ar => .inl (g,b,ar)
 | none => .inr ([],false))∧∀ar,r=some ar↔A2 Mb ps ar:=by
 refine Exists.elim (mapL (R:=Mb) (L:=fun m acc i=>Y1H (ps.map (·.map tk)) m g b acc i) (fun ar=>(g,b,ar)) (([]:List Itm),false) ps (fun p hm=>?_) (fun m acc=>?_) ps.length 0 FU [] Om (FU_gt Om) Om Sm) fun r h=>⟨r,by cases r <;> exact h.1,h.2⟩
 · obtain⟨⟨⟨x,y,z⟩,b2⟩,r1,r2,r3⟩:=rmb p (hs p hm);refine⟨if b2=true then some (x,y,z) else none,fun a=>⟨fun h=>?_,fun h=>?_⟩,fun m acc i hi he ha=>?_⟩
   · cases b2 with
     | true=>cases h;exact r2 rfl
     | false=>cases h
   · cases r3 a h;rfl
   rw[Y1H,l0a,if_pos Om,ixp ps hi,bsome,he,r1,bsome];dsimp only;cases b2 with
   | true=>rw[if_pos rfl,app_ok (by simp;omega),bsome,chk_succ Om,bsome];rfl
   | false=>rfl
 rw[Y1H,l0a,if_neg Om]
theorem rcolon_L2 (l:List El)(hl:l.length≤140737488355328):∀(n m:Nat) (c:Int),n<m→n≤l.length→
 ∃r,Y1G (l.map tk) m c ((n:Int)-1)=some r∧((∀e∈l.take n,e≠ .inl 58)→r=c)∧∀P q,l=P ++ .inl 58::q→(∀e∈P,e≠ .inl 58)→P.length<n→r=(P.length:Int):=by
 intro n;induction n with
 | zero =>
   intro m c hm hn;obtain⟨m,rfl⟩ :∃k,m=k+1:=⟨m-1,by omega⟩
   rw[Y1G,if_neg Om];exact⟨c,G,fun _=>G,fun P q _ _ h=>absurd h Om⟩
 | succ n ih =>
   intro m c hm hn;obtain⟨m,rfl⟩ :∃k,m=k+1:=⟨m-1,by omega⟩
   have hi:n<l.length:=by omega
   have c1:chk ((n:Int)-1)=some ((n:Int)-1):=chk_ok Om Om;rw[show ((n+1:Nat):Int)-1=(n:Int) by omega,Y1G,if_pos Om,ix l hi,bsome,c1,bsome,bsome];by_cases h:l[n] = .inl 58
   · rw[if_pos ((tk_s Dc).2 h)];obtain⟨r,h1,h2,h3⟩:=ih m (n:Int) Om Om;refine⟨r,h1,fun hx=>absurd h (hx _ (List.mem_take_iff_getElem.2 ⟨n,by omega,G⟩)),fun P q hP hx hlt=>?_⟩;by_cases hc:P.length<n
     · exact h3 P q hP hx hc
     have e:P.length=n:=by omega
     rw[h2 fun x hxx=>hx x (by rwa [hP,←e,l1i rfl] at hxx),e]
   rw[if_neg (fun x=>h ((tk_s Dc).1 x))];obtain⟨r,h1,h2,h3⟩:=ih m c Om Om;refine⟨r,h1,fun hx=>h2 fun e he=>hx e (l1p (i:=n) (by rw[l2D,l0L Om];exact he)),fun P q hP hx hlt=>h3 P q hP hx ?_⟩;rcases Nat.lt_or_eq_of_le (Nat.le_of_lt_succ hlt) with h4|h4
   · exact h4
   refine absurd ?_ h;subst h4;simp [hP]
theorem it_at {p:List El}{x:Itm}(h:It p x){P q:List El}(hP:p=P ++ .inl 58::q)(hn :∀e∈P,e≠ .inl 58):∃W inn ar,P=W.map .inr∧q=inn++[.inl 59]∧nam W≠ []∧x=(nam W,true,ar)∧((inn=[]∧ar=[])∨Mbs inn ar):=by
 cases h with
 | one h=>exact absurd rfl ((mb_pl h (.inl 58) (by rw[hP];simp)).1)
 | nil h =>
   obtain⟨h1,h2⟩:=split_uniq (fun e he=>w_pl _ e he _) hn hP;exact⟨_,[],[],h1.symm,h2.symm,h,G, .inl ⟨G,G⟩⟩
 | cons h hm =>
   obtain⟨h1,h2⟩:=split_uniq (fun e he=>w_pl _ e he _) hn hP;exact⟨_,_,_,h1.symm,h2.symm,h,G, .inr hm⟩
theorem it_of {W:List Wrd}{inn:List El}{ar:List Adr}(h:nam W≠ [])(h2:(inn=[]∧ar=[])∨Mbs inn ar):It (W.map .inr ++ .inl 58::(inn++[.inl 59])) (nam W,true,ar):=by
 rcases h2 with ⟨rfl,rfl⟩|h2
 · exact .nil h
 exact .cons h h2
theorem it_no {p:List El}{x:Itm}(h:It p x)(hn :∀e∈p,e≠ .inl 58):∃a,Mb p a∧x=([],false,[a]):=by
 cases h with
 | one h=>exact⟨_,h,rfl⟩
 | nil h=>exact absurd rfl (hn (.inl 58) Sm)
 | cons h hm=>exact absurd rfl (hn (.inl 58) Sm)
theorem cutP (P q:List El):cut ((P++q).map tk) 0 (P.length:Int)=some (P.map tk):=by
 rw[cut_to rfl Sm,l0R,←l0a (f:=tk),l1i rfl]
theorem cutM (P:List El)(c:El)(m:List El)(d:El){i j:Int}(hi:i=((P.length+1:Nat):Int))(hj:j=((P.length+1+m.length:Nat):Int)):cut ((P++c::(m++[d])).map tk) i j=some (m.map tk):=by
 rw[cut_of hi hj Om (by simp;omega),←l2L,←l2b,show P++c::(m++[d])=(P++[c])++(m++[d]) by simp,l0S,l1T Sm,l1i Om]
theorem ritem (p:List El)(hs:SmE p):∃r:Option Itm,(∀x,r=some x↔It p x)∧∀(l9:List (List Tk)) (m:Nat) (acc:List Itm) (i:Nat),i<l9.length→idx l9 (i:Int)=some (p.map tk)→l9.length≤5000→acc.length≤i→Y0w l9 (m+1) acc (i:Int)=match r with
 | some x=>Y0w l9 m (acc++[x]) ((i+1:Nat):Int)
 | none=>some (.inr ([],false)):=by
 have hl:=hs.1;obtain⟨c,c1,c2,c3⟩:=rcolon_L2 p Om p.length FU (-1) (FU_gt Om) (l0e _);rw[l0F] at c2;have fin :∀(l9:List (List Tk)) (m:Nat) (acc:List Itm) (i:Nat) (x:Itm),l9.length≤5000→i<l9.length→acc.length≤i→((app 48 acc [x]).bind fun l=>(chk ((i:Int)+1)).bind fun n=>Y0w l9 m l n)=Y0w l9 m (acc++[x]) ((i+1:Nat):Int):=by
  intro l9 m acc i x h1 h2 h3;rw[app_ok (by simp;omega),bsome,chk_succ Om,bsome]
 rcases split_at 58 p with hn|⟨P,q,hP,hn⟩
 · obtain rfl:=c2 hn;obtain⟨⟨⟨x,y,z⟩,b⟩,r1,r2,r3⟩:=rmb p hs;refine⟨if b=true then some ([],false,[(x,y,z)]) else none,fun u=>⟨fun h=>?_,fun h=>?_⟩,fun l9 m acc i hi hx h9 ha=>?_⟩
   · cases b with
     | true=>cases h;exact .one (r2 rfl)
     | false=>cases h
   · obtain⟨a,h1,rfl⟩:=it_no h hn;cases r3 a h1;rfl
   rw[Y0w,if_pos Om,hx,bsome,l0a,chk_ok Om Om,bsome,c1,bsome,if_pos Dc,r1,bsome];cases b with
   | true=>exact fin l9 m acc i _ h9 hi ha
   | false=>rfl
 have hPl:P.length<p.length:=by rw[hP];simp
 obtain rfl:=c3 P q hP hn hPl;obtain⟨o,n1,n2⟩:=rname_eq P (hs.sub (by rw[hP];exact l1m _ _));have n3:=rwords_eq P (hs.sub (by rw[hP];exact l1m _ _));have hcut:cut (p.map tk) 0 (P.length:Int)=some (P.map tk):=by rw[hP];exact cutP _ _
 have hlast :∃e,p.getLast? = some e∧idx (p.map tk) ((p.length-1:Nat):Int)=some (tk e):=by
  refine⟨p[p.length-1]'Om,?_,ix p Om⟩;rw[List.getLast?_eq_getElem?,List.getElem?_eq_getElem Om]
 obtain⟨e,he,hix⟩:=hlast;have start :∀(l9:List (List Tk)) (m:Nat) (acc:List Itm) (i:Nat),i<l9.length→idx l9 (i:Int)=some (p.map tk)→Y0w l9 (m+1) acc (i:Int)=if P.all isX=true∧o≠ []∧e = .inl 59 then
  (cut (p.map tk) ((P.length+1:Nat):Int) ((p.length-1:Nat):Int)).bind fun l68=>(((if (0:Int)<(l68.length:Int) then(R_cut l68 true).bind fun l77=>((Y1H l77 FU o true [] 0:Option (Itm ⊕ (List Itm × Bool)))).bind fun o106=>(match o106 with | .inl (s81,b82,l84)=>some (.inl (s81,b82,l84)) | .inr r105=>some (.inr r105)) else some (.inl (o,true,[]))):Option (Itm ⊕ (List Itm × Bool)))).bind fun o114=>(match o114 with | .inl (s71,b72,l74)=>(app 48 acc ([(s71,b72,l74)]:List Itm)).bind fun l111=>(chk ((i:Int)+1)).bind fun n112=>Y0w l9 m l111 n112 | .inr r113=>some (.inr r113))
  else some (.inr ([],false)):=by
  intro l9 m acc i hi hx;rw[Y0w,if_pos Om,hx,bsome,l0a,chk_pred Om Om,bsome];have c1':Y1G (p.map tk) FU (-1) ((p.length-1:Nat):Int)=some (P.length:Int):=by rw[←c1];congr 1;omega
  rw[c1',bsome,if_neg Om,hcut,bsome,n1,bsome,bsome,n3,bsome,chk_succ Om];simp only[bsome,hix];by_cases q1:P.all isX=true
  · rw[if_pos q1];by_cases q2:o=[]
    · rw[if_pos q2,bsome,if_pos rfl,if_neg (fun h=>h.2.1 q2)]
    rw[if_neg q2,bsome];by_cases q3:e = .inl 59
    · rw[if_neg (by rw[decide_eq_true ((tk_s Dc).2 q3)];decide),if_pos ⟨q1,q2,q3⟩];rfl
    rw[if_pos (by rw[decide_eq_false (fun h=>q3 ((tk_s Dc).1 h))];rfl),if_neg (fun h=>q3 h.2.2)]
  rw[if_neg q1,bsome,if_pos rfl,if_neg (fun h=>q1 h.1)]
 by_cases hq:P.all isX=true∧o≠ []∧e = .inl 59
 · obtain⟨q1,q2,q3⟩:=hq;obtain⟨W,hW⟩:=allX q1;have ho:=n2 W hW;obtain⟨inn,rfl⟩ :∃inn,q=inn++[.inl 59]:=by
    rcases List.eq_nil_or_concat q with h|⟨inn,d,h⟩
    · rw[hP,h,q3] at he;simp at he
    rw[List.concat_eq_append] at h;rw[hP,h,q3,show P ++ .inl 58::(inn++[d])=(P ++ .inl 58::inn)++[d] by simp,List.getLast?_concat] at he;injection he with he;exact⟨inn,by rw[h,he]⟩
   have hpl:p.length=P.length+1+inn.length+1:=by rw[hP];simp;omega
   have hsi:SmE inn:=hs.sub (by rw[hP];exact ((l1m inn _).cons _).trans (l2f _ _));have hcm:cut (p.map tk) ((P.length+1:Nat):Int) ((p.length-1:Nat):Int)=some (inn.map tk):=by
    rw[hP];refine cutM P _ inn _ rfl ?_;simp;omega
   by_cases hi0:inn=[]
   · refine⟨some (nam W,true,[]),fun u=>⟨fun h=>?_,fun h=>?_⟩,fun l9 m acc i hi hx h9 ha=>?_⟩
     · cases h;rw[hP,hW];exact it_of (ho ▸ q2) (.inl ⟨hi0,rfl⟩)
     · obtain⟨W',inn',ar,h1,h2,h3,rfl,h4⟩:=it_at h hP hn;have h5:=l2q h2 rfl;rw[←n2 W' h1,ho];rcases h4 with ⟨_,rfl⟩|h4
       · rfl
       obtain⟨e,u,h6,_⟩:=mbs_head h4;rw[←h5,hi0] at h6;cases h6
     rw[start l9 m acc i hi hx,if_pos ⟨q1,q2,q3⟩,hcm,bsome,hi0];dsimp only[l0U,l03];rw[if_neg Dc,bsome,ho];exact fin l9 m acc i _ h9 hi ha
   obtain⟨r,r1,r2⟩:=rmem_L3 (cutA true false [] inn) (by have:=cut_len true inn false [];have:=hsi.1;omega) (fun x hx=>hsi.sub (by have:=jc_mem hx;rw [jc_cut,l07] at this;exact this)) o true;have hjc:=jc_cut true inn false [];rw[l07] at hjc;refine⟨r.map fun ar=>(nam W,true,ar),fun u=>⟨fun h=>?_,fun h=>?_⟩,fun l9 m acc i hi hx h9 ha=>?_⟩
   · obtain⟨ar,h1,rfl⟩:=Option.map_eq_some_iff.1 h;have h2:=mbs_jc ((r2 ar).1 h1) (cutA_ne _ _ _ _);rw[hjc] at h2;rw[hP,hW];exact it_of (ho ▸ q2) (.inr h2)
   · obtain⟨W',inn',ar,h1,h2,h3,rfl,h4⟩:=it_at h hP hn;obtain rfl:=l2q h2 rfl;rcases h4 with ⟨h4,_⟩|h4
     · exact absurd h4 hi0
     rw[(r2 ar).2 (mbs_cut h4),←n2 W' h1,ho];rfl
   rw[start l9 m acc i hi hx,if_pos ⟨q1,q2,q3⟩,hcm,bsome];have hpos:0<inn.length:=List.length_pos_iff.2 hi0;rw[if_pos (by rw[l0a];omega),rcut_eq inn true hsi,bsome,r1,bsome];cases r with
   | none=>rfl
   | some ar=>rw[ho];exact fin l9 m acc i _ h9 hi ha
 refine⟨none,fun u=>⟨fun h=>(by cases h),fun h=>absurd ?_ hq⟩,fun l9 m acc i hi hx h9 ha=>by rw[start l9 m acc i hi hx,if_neg hq]⟩;obtain⟨W',inn',ar,h1,h2,h3,rfl,h4⟩:=it_at h hP hn;refine⟨by rw[h1];exact xall W',by rw[n2 W' h1];exact h3,?_⟩;rw[hP,h2,show P ++ .inl 58::(inn'++[.inl 59])=(P ++ .inl 58::inn')++[.inl 59] by simp,List.getLast?_concat] at he;injection he with he;exact he.symm
theorem ritems_L1 (ps:List (List El))(hp:ps.length≤5000)(hs :∀p∈ps,SmE p):∃r:Option (List Itm),Y0w (ps.map (·.map tk)) FU [] 0=some (match r with
 | some xs => .inl xs
 | none => .inr ([],false))∧∀xs,r=some xs↔A2 It ps xs:=by
 refine Exists.elim (mapL (R:=It) (L:=fun m acc i=>Y0w (ps.map (·.map tk)) m acc i) (fun ar=>ar) (([]:List Itm),false) ps (fun p hm=>?_) (fun m acc=>?_) ps.length 0 FU [] Om (FU_gt Om) Om Sm) fun r h=>⟨r,by cases r <;> exact h.1,h.2⟩
 · obtain⟨r,r1,r2⟩:=ritem p (hs p hm);exact⟨r,r1,fun m acc i hi he ha=>by rw[r2 (ps.map (·.map tk)) m acc i (by rw[l0a];exact hi) (by rw[ixp ps hi,he]) (by rw[l0a];exact hp) ha];cases r <;> rfl⟩
 rw[Y0w,l0a,if_neg Om]
theorem ritems_eq (s:Ls)(hs:s.length≤4000):Y47 s=some (match prsS (lex s) with
 | some xs=>(xs,true)
 | none=>([],false)):=by
 have hz:=lex_size _ s (l0e _);unfold Y47;rw[rtok_eq s hs,bsome];cases hnd:nd (lex s) with
 | true =>
   have hp:prsS (lex s)=none:=by
    cases hp:prsS (lex s) with
    | none=>rfl
    | some l=>rw[(prsS_st Om Om hp).1] at hnd;cases hnd
   rw[hp];rfl
 | false =>
   have hsm:=lex_sm s hs;have hof:=ofL_els hnd;rw[←hof];obtain⟨l,hel⟩ :∃l,els (lex s)=l:=⟨_,rfl⟩
   rw[hel] at hsm hof ⊢;rw[hof,hel,if_neg Dc];dsimp only;rw[if_pos rfl,l0a,bsome,←hof];by_cases h0:l=[]
   · subst h0;rfl
   have hlen:0<l.length:=List.length_pos_iff.2 h0;have hjc:=jc_cut false l false [];rw[l07] at hjc;have hln:=hsm.1;obtain⟨r,r1,r2⟩:=ritems_L1 (cutA false false [] l) (by have:=cut_len false l false [];omega) (fun x hx=>hsm.sub (by have:=jc_mem hx;rw [hjc] at this;exact this));rw[decide_eq_false Om,if_neg Dc,rcut_eq l false hsm,bsome,r1,bsome];have hiff :∀xs,r=some xs↔Its l xs:=fun xs=>by
    rw[r2];constructor
    · intro h;have:=its_jc h (cutA_ne _ _ _ _);rwa [hjc] at this
    exact its_cut
   cases hp:prsS (ofL l) with
   | some xs =>
     rcases prsS_els hp with ⟨h1,_⟩|h1
     · rw[hof,hel] at h1;exact absurd h1 h0
     rw[hof,hel] at h1;rw[(hiff xs).2 h1]
   | none =>
     cases r with
     | none=>rfl
     | some xs =>
       have:=its_ofL ((hiff xs).1 rfl);rw[hp] at this;cases this
theorem parse_big (s:Ls)(h:4000<s.length):Y0U s=some ([],(1,-1)):=by
 unfold Y0U;rw[if_pos Om];rfl
theorem parse_law (hex:Y0V=some true)(s:Ls)(hs:Big s):Y1i s=some true:=by
 have hbs:s.length≤140737488355328:=hs;unfold Y1i;rw[hex,bsome,if_pos rfl];by_cases hl:4000<s.length
 · rw[parse_big s hl,bsome];dsimp only;rw[if_pos Om];rfl
 have p1:=parse_run s Om;have hz:=lex_size _ s (l0e _);have hr:=ritems_eq s Om;revert p1 hr;cases hp:prsS (lex s) with
 | none =>
   rintro⟨n,p1,n1,n2⟩ hr;rw[p1,bsome];dsimp only;rw[if_neg Om,hr,bsome];dsimp only;rw[if_neg Dc,if_pos rfl,rin_eq,decide_eq_true ⟨n1,n2⟩];rfl
 | some l =>
   intro p1 hr;dsimp only at p1 hr;obtain⟨_,h1,h2⟩:=prsS_st Om Om hp;have hb:BigL l:=⟨by omega,fun x hx=>⟨by have:=(h2 x hx).1;unfold Big;omega,by have:=(h2 x hx).2.1;omega,fun a ha=>by have h:=(h2 x hx).2.2 a ha;have e1:=h.1;have e2:=h.2.1;have e3:=h.2.2;exact ⟨by unfold Big;omega,by unfold Big;omega,by unfold Big;omega⟩⟩⟩
   rw[p1,bsome];have hsame:=sameI_refl l Om fun x hx=>by have:=(h2 x hx).2.1;omega
   have hck:=rcheck_eq l hb;obtain⟨u,v,huv⟩ :∃u v,itemsF l=(u,v):=⟨_,_,rfl⟩
   rw[huv] at hck ⊢;by_cases hf:u=0
   · rw[if_pos hf];dsimp only;rw[if_neg Om,hr,bsome];dsimp only;rw[if_pos rfl,hck,bsome];dsimp only;rw[if_pos hf,if_pos rfl,hsame];rfl
   rw[if_neg hf];dsimp only;rw[if_neg Om,hr,bsome];dsimp only;rw[if_pos rfl,hck,bsome];dsimp only;rw[if_neg hf];have hat:R_At u (-2)=some (u,-2):=rfl;rw[hat,bsome];dsimp only;rw[if_pos ⟨rfl,rfl⟩];rfl
end Go.Ph.Ad
end
