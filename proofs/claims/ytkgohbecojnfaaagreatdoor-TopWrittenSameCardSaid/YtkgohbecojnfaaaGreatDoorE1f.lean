/-
  Vm, Vb, Vc, Vd, Ve, Vf, Vg: own texts of this repository (wip/tpl, wip/plans), merged and shaken by wip/tools/pack.py.
-/
import Derived.Test.YtkgohbecojnfaaaGreatDoorE1e
set_option maxRecDepth 100000
set_option linter.unusedVariables false
set_option linter.unusedSimpArgs false
section
section
namespace Go.Ph.Md
open Go.Ph.Pl Go.Ph.Pf
open Go.Ph.Chs (vld lower)
abbrev Big (l:Ls):Prop:=l.length<=140737488355328
theorem foldI {α σ γ:Type}{L:Nat->σ->Int->Option γ}(l:List α)(F:σ->α->σ)(fin:σ->γ)(I:Nat->σ->Prop)
 (hend :∀m s,I l.length s->L (m+1) s (l.length:Int)=some (fin s))
 (hstep :∀m s i a,l[i]? = some a->I i s->I (i+1) (F s a)/\L (m+1) s (i:Int)=L m (F s a) ((i+1:Nat):Int)) :
 ∀(d i:Nat) (s:σ) (m:Nat),l.length-i=d->i<=l.length->d<m->I i s->L m s (i:Int)=some (fin ((l.drop i).foldl F s)):=by
 intro d;induction d with
 | zero =>
   intro i s m u E J hI;obtain⟨m,rfl⟩ :∃k,m=k+1:=⟨m-1,by omega⟩
   obtain rfl:i=l.length:=by omega
   rw[hend m s hI,l0B];rfl
 | succ d ih =>
   intro i s m u E J hI;obtain⟨m,rfl⟩ :∃k,m=k+1:=⟨m-1,by omega⟩
   have hi:i<l.length:=by omega
   obtain⟨hI',hL⟩:=hstep m s i l[i] (List.getElem?_eq_getElem hi) hI;rw[hL,ih (i+1) _ m Om Om Om hI',l0g hi];rfl
theorem foldI0 {α σ γ:Type}{L:Nat->σ->Int->Option γ}(l:List α)(F:σ->α->σ)(fin:σ->γ)(I:Nat->σ->Prop)(hl:l.length<=9223372036854775807)
 (hend :∀m s,I l.length s->L (m+1) s (l.length:Int)=some (fin s))
 (hstep :∀m s i a,l[i]? = some a->I i s->I (i+1) (F s a)/\L (m+1) s (i:Int)=L m (F s a) ((i+1:Nat):Int)) (s:σ) (u:I 0 s):L FU s 0=some (fin (l.foldl F s)):=by
 have:=foldI l F fin I hend hstep l.length 0 s FU Om Om (FU_gt hl) u;simpa using this
theorem foldl_app {α β:Type}(f:α->List β):∀(l:List α) (o:List β),l.foldl (fun o a=>o++f a) o=o++l.flatMap f
 | [],o=>by simp
 | a::l,o=>by rw[l1m,foldl_app f l];simp
theorem allB {p:UInt8->Prop}(h :∀n,n<256->p (UInt8.ofNat n))(c:UInt8):p c:=by
 have:=h c.toNat c.toNat_lt;rwa [UInt8.ofNat_toNat] at this
theorem failed_eq (a b:Int):Y08 (a,b)=some (!decide (a=0)):=rfl
theorem fault_eq (a b:Int):Y03 a b=some (a,b):=by unfold Y03;rfl
theorem none_eq : Y0e=some (0,0):=rfl
def tkB (c:UInt8):Bool:=decide (33<=c.toNat)&&(decide (c.toNat<=126) && !([40,41,60,62,64,44,59,58,92,34,47,91,93,63,61,42,37,39]:Ls).any (fun x=>decide (x=c)))
theorem tokenByte_eq (c:UInt8):Y0X c=some (tkB c):=by
 refine allB (p:=fun c=>Y0X c=some (tkB c)) ?_ c;decide +kernel
theorem all_eq (l:Ls)(hl:Big l)(g:UInt8->Option Bool)(p:UInt8->Bool)(hg :∀c,g c=some (p c)):Y2S l g=some (l.all p):=by
 unfold Y2S;rw[scan0 (L:=Y1C l g) (l:=l) (p:=fun c => !p c) (stop := .inl ()) (r := .inr false) (FU_gt Om) (fun m=>by rw[Y1C,if_neg Om]) (fun m i h=>by
  rw[Y1C,if_pos Om,idx_nat,List.getElem?_eq_getElem h,chk_succ (by have:=hl;omega)];simp only[bsome,hg];cases p l[i] <;> simp)]
 simp only[bsome];rw[List.all_eq_not_any_not];cases l.any (fun c => !p c) <;> simp
def tkT (l:Ls):Bool:=l.all tkB&&decide (1<=l.length/\l.length<=60)
theorem token_eq (l:Ls)(hl:Big l):Y2U l=some (tkT l):=by
 unfold Y2U tkT;by_cases h:l=[]
 . subst h;rfl
 have hpos:1<=l.length:=by cases l <;> simp_all
 rw[if_neg h];by_cases u:l.length<=60
 . rw[if_pos Om,all_eq l hl _ tkB tokenByte_eq];simp [hpos,u]
 rw[if_neg Om];simp [u]
theorem tkT_len {l:Ls}(h:tkT l=true):1<=l.length/\l.length<=60:=by
 unfold tkT at h;rw[l0d,decide_eq_true_eq] at h;exact h.2
theorem tkT_all {l:Ls}(h:tkT l=true):∀c∈l,tkB c=true:=by
 unfold tkT at h;rw[l0d,l2e] at h;exact h.1
theorem same_eq {a b:Ls}(ha:Big a)(hb:Big b):Y0N a b=some (decide (lower a=lower b)):=Go.Ph.Sg.same_eq ha hb
abbrev Par : Type:=Ls × Ls
abbrev Med : Type:=Ls × Ls × List Par
abbrev BigP (l:List Par):Prop :=∀x∈l,Big x.1/\Big x.2
abbrev BigM (m:Med):Prop:=Big m.1/\Big m.2.1/\BigP m.2.2
def smP (x y:Par):Bool:=decide (lower y.1=lower x.1)
def pf1 (pre:List Par)(x:Par):Int:=if tkT x.1=true/\x.1.length<=20 then(if pre.any (smP x)=true then 7 else if 500<x.2.length then 1 else if vld x.2=true then 0 else 5) else 10
def pfz (pre:List Par):List Par->Int × Int
 | []=>(0,0)
 | x::r=>if pf1 pre x=0 then pfz (pre++[x]) r else(pf1 pre x,(pre.length:Int))
theorem pfz_zero :∀{l pre:List Par},(pfz pre l).1=0->pfz pre l=(0,0)
 | [],pre,h=>rfl
 | x :: r,pre,h=>by
   rw[pfz] at h ⊢;by_cases hx:pf1 pre x=0
   . rw[if_pos hx] at h ⊢;exact pfz_zero h
   rw[if_neg hx] at h;exact absurd h hx
theorem ffr {α:Type}{a:Int}(ha:a≠0)(i:Int)(X:Int × Int)(u:α):(if (if a=0 then X else(a,i)).1=0 then(.inl u:α ⊕ (Int × Int)) else .inr (if a=0 then X else(a,i))) = .inr (a,i):=by rw[if_neg ha,if_neg ha]
theorem indexF (l:List Par)(hl:l.length<=1000)(f:Par->Option Bool)(p:Par->Bool)(hf :∀x∈l,f x=some (p x)):Y11 l f=some (l.any p):=by
 unfold Y11 Y28;rcases scanP (fun m i=>Y0j l f m i) l (fun i x=>if p x=true then some (.inr (i:Int)) else none) (.inl ()) (fun m=>by rw[Y0j,if_neg Om]) (fun m i h=>by
  rw[Y0j,if_pos Om,idx_nat,List.getElem?_eq_getElem h,bsome];have e:f (l[i].1,l[i].2)=some (p l[i]):=hf _ (l0D h);rw[e,bsome,chk_succ Om,bsome];cases p l[i] <;> rfl) l.length 0 FU Om (FU_gt Om) Om with ⟨j,hj,r,E,u,K,J⟩|⟨E,u⟩
 . rw[l0H] at J;have hp:p l[j]=true:=by
    cases h:p l[j] with
    | true=>rfl
    | false=>rw[h,if_neg Dc] at u;cases u
   rw[hp,if_pos rfl] at u;cases u;rw[J,bsome,bsome];rw[show l.any p=true from List.any_eq_true.2 ⟨_,l0D hj,hp⟩,decide_eq_true Om]
 rw[l0H] at u;rw[u,bsome,bsome];have:l.any p=false:=by
  rw[l1v];intro x hx hp;obtain⟨i,hi,rfl⟩:=l1l hx;have:=E i hi Om;rw[hp,if_pos rfl] at this;cases this
 rw[this];rfl
theorem take_drop_cons {α:Type}{l:List α}{i:Nat}(h:i<l.length):l.take (i+1)=l.take i++[l[i]]:=by
 rw[l0w h]
theorem valid_L1 (u:Med)(hl:u.2.2.length<=60)(hb:BigP u.2.2)(U N:Int):∀(d i m:Nat),u.2.2.length-i<=d->d<m->i<=u.2.2.length->
 Y0O u m U N (i:Int)=some (if (pfz (u.2.2.take i) (u.2.2.drop i)).1=0 then .inl (U,N) else .inr (pfz (u.2.2.take i) (u.2.2.drop i))):=by
 obtain⟨ty,sb,l⟩:=u;dsimp only at hl hb ⊢;intro d;induction d with
 | zero =>
   intro i m Y O Z;obtain⟨m,rfl⟩ :∃k,m=k+1:=⟨m-1,by omega⟩
   rw[Y0O,if_neg (by dsimp only;omega),l0e Om];rfl
 | succ d ih =>
   intro i m Y O Z;obtain⟨m,rfl⟩ :∃k,m=k+1:=⟨m-1,by omega⟩
   by_cases hi:i<l.length
   . have hx:=hb l[i] (l0D hi);rw[Y0O];dsimp only;rw[if_pos Om,idx_nat,List.getElem?_eq_getElem hi,bsome,l0g hi,pfz,<-take_drop_cons hi];have hlen:(l.take i).length=i:=by rw[l0c];omega
     rw[hlen];unfold pf1;rw[token_eq _ hx.1,bsome];by_cases E:tkT l[i].1=true/\l[i].1.length<=20
     . rw[if_pos E,E.1,if_pos rfl,bsome,decide_eq_false (by have:=E.2;omega),if_neg l00,cut_to rfl Om,bsome,
        indexF (l.take i) Om _ (smP l[i]) (fun x hx'=>by unfold Y3h smP;rw [same_eq (hb x (l2y hx')).1 hx.1];rfl),bsome]
       by_cases J:(l.take i).any (smP l[i])=true
       . rw[if_pos J,if_pos J,fault_eq,bsome,ffr Dc]
       rw[if_neg J,if_neg J];by_cases V:500<l[i].2.length
       . rw[if_pos Om,if_pos V,fault_eq,bsome,ffr Dc]
       rw[if_neg Om,if_neg V];unfold Y3f;rw[if_pos Om,bsome];by_cases K:vld l[i].2=true
       . rw[if_pos K,if_pos K,if_pos rfl,chk_succ Om,bsome];exact ih (i+1) m Om Om Om
       rw[if_neg K,if_neg K,fault_eq,bsome,ffr Dc]
     have e:(if tkT l[i].1=true then some (decide ((20:Int)<(l[i].1.length:Int))) else some true)=some true:=by
      by_cases h:tkT l[i].1=true
      . rw[if_pos h,decide_eq_true (by have:=Nat.lt_of_not_le (fun O=>E ⟨h,O⟩);omega)]
      rw[if_neg h]
     rw[if_neg E,e,bsome,if_pos rfl,fault_eq,bsome,ffr Dc]
   rw[Y0O,if_neg (by dsimp only;omega),l0e Om];rfl
def valM (m:Med):Int × Int:=if tkT m.1=true/\tkT m.2.1=true then(if 60<m.2.2.length then(2,-3) else pfz [] m.2.2) else(10,-2)
theorem tk2 (a b:Bool):(if a=true then some (!b) else some true:Option Bool)=some (!(a&&b)):=by cases a <;> simp
theorem validate_eq (m:Med)(hb:BigM m):Y2j m=some (valM m):=by
 unfold Y2j valM;rw[token_eq _ hb.1,bsome,token_eq _ hb.2.1,bsome,tk2,bsome];by_cases h:tkT m.1=true/\tkT m.2.1=true
 . rw[if_pos h,h.1,h.2,if_neg Dc];by_cases u:60<m.2.2.length
   . rw[if_pos Om,fault_eq,bsome,if_pos u]
   have:=valid_L1 m Om hb.2.2 0 0 m.2.2.length 0 FU Om (by unfold FU;omega) Om;rw[l0H,l0t,l1Y] at this;rw[if_neg Om,this,bsome,if_neg u];by_cases hz:(pfz [] m.2.2).1=0
   . rw[if_pos hz];dsimp only;rw[pfz_zero hz,none_eq,bsome]
   rw[if_neg hz]
 have:(tkT m.1&&tkT m.2.1)=false:=by
  cases E:tkT m.1 <;> cases J:tkT m.2.1 <;> simp_all
 rw[this,if_pos Dc,if_neg h,fault_eq,bsome]
theorem valM_zero {m:Med}(h:(valM m).1=0):tkT m.1=true/\tkT m.2.1=true/\m.2.2.length<=60/\(pfz [] m.2.2).1=0/\valM m=(0,0):=by
 unfold valM at h ⊢;by_cases u:tkT m.1=true/\tkT m.2.1=true
 . rw[if_pos u] at h ⊢;by_cases E:60<m.2.2.length
   . rw[if_pos E] at h;exact absurd h Dc
   rw[if_neg E] at h ⊢;exact⟨u.1,u.2,by omega,h,pfz_zero h⟩
 rw[if_neg u] at h;exact absurd h Dc
def parR (m:Med)(n:Ls):Ls × Bool:=match m.2.2.find? (fun x=>decide (lower x.1=lower n)) with|some x=>(x.2,true)|none=>([],false)
theorem parL (l:List Par)(n:Ls){γ:Type}(L:Nat->Int->Option γ)(hit:Par->γ)(miss:γ)(hl:l.length<=1000)(hend :∀m,L (m+1) (l.length:Int)=some miss)
 (hstep :∀m i (h:i<l.length),L (m+1) (i:Int)=if lower l[i].1=lower n then some (hit l[i]) else L m ((i+1:Nat):Int)):L FU 0=some (match l.find? (fun x=>decide (lower x.1=lower n)) with|some x=>hit x|none=>miss):=by
 have key :∀(d i m:Nat),l.length-i<=d->d<m->i<=l.length->L m (i:Int)=some (match (l.drop i).find? (fun x=>decide (lower x.1=lower n)) with|some x=>hit x|none=>miss):=by
  intro d;induction d with
  | zero =>
    intro i m u E J;obtain⟨m,rfl⟩ :∃k,m=k+1:=⟨m-1,by omega⟩
    obtain rfl:i=l.length:=by omega
    rw[hend,l0B];rfl
  | succ d ih =>
    intro i m u E J;obtain⟨m,rfl⟩ :∃k,m=k+1:=⟨m-1,by omega⟩
    by_cases hi:i<l.length
    . rw[hstep m i hi,l0g hi,List.find?_cons];by_cases h:lower l[i].1=lower n
      . rw[if_pos h,decide_eq_true h]
      rw[if_neg h,decide_eq_false h];exact ih (i+1) m Om Om Om
    obtain rfl:i=l.length:=by omega
    rw[hend,l0B];rfl
 have:=key l.length 0 FU Om (FU_gt Om) Om;simpa using this
end Go.Ph.Md
end
section
namespace Go.Ph.Md
open Go.Ph.Pl Go.Ph.Pf
open Go.Ph.Chs (vld lower)
def hexd : Ls:=[48,49,50,51,52,53,54,55,56,57,65,66,67,68,69,70]
def hx (n:Nat):UInt8:=hexd.getD n 0
theorem digit_hi (c:UInt8):Y2W (UInt8.ofNat (c.toNat / 2 ^ 4))=some (hx (c.toNat / 16)):=by
 refine allB (p:=fun c=>Y2W (UInt8.ofNat (c.toNat / 2 ^ 4))=some (hx (c.toNat / 16))) ?_ c;decide +kernel
theorem digit_lo (c:UInt8):Y2W c=some (hx (c.toNat % 16)):=by
 refine allB (p:=fun c=>Y2W c=some (hx (c.toNat % 16))) ?_ c;decide +kernel
theorem dgF_len :∀(m n:Nat),(dgF m n).length<=m
 | 0,n=>l07 _
 | m+1,n=>by
   rw[dgF];have:=dgF_len m (n / 10);split
   . simp
   rw[l05,l0F];omega
theorem itoa_len (n:Int):(itoaP n).length<=21:=by
 unfold itoaP;have u:=dgF_len 20 n.natAbs;have E:=dgF_len 20 n.toNat;split
 . rw[l01];omega
 omega
theorem itoa_eq (n:Nat)(h:n<=9223372036854775807):strconv_Itoa (n:Int)=some (itoaP n):=by
 unfold strconv_Itoa;rw [if_pos ⟨by omega,by omega⟩]
def esc (c:UInt8):Option Ls:=if c=34 then some [92,34] else if c=92 then some [92,92] else none
def q1 (c:UInt8):Ls:=(esc c).getD [c]
def qt (p:Ls):Ls:=p.flatMap q1
def cnt (p:Ls):Nat:=p.countP fun c=>(esc c).isSome
theorem tab_at (c:UInt8):idxO (tabk 2) (c.toNat:Int)=some (esc c):=by
 refine allB (p:=fun c=>idxO (tabk 2) (c.toNat:Int)=some (esc c)) ?_ c;decide +kernel
theorem esc_two {c:UInt8}{s:Ls}(h:esc c=some s):s.length=2:=by
 unfold esc at h;split at h
 . cases h;rfl
 split at h
 . cases h;rfl
 cases h
theorem qt_cons (c:UInt8)(p:Ls):qt (c::p)=q1 c++qt p:=rfl
theorem qt_len :∀p:Ls,(qt p).length=p.length+cnt p
 | []=>rfl
 | c::p=>by
   rw[qt_cons,l05,qt_len p,l01];unfold cnt q1;rw[l1B];cases h:esc c with
   | none=>simp;omega
   | some s=>have:=esc_two h;simp;omega
theorem qt_id :∀p:Ls,cnt p=0->qt p=p
 | [],h=>rfl
 | c::p,h=>by
   unfold cnt at h;rw[l1B] at h;have u:=qt_id p (by unfold cnt;omega);rw[qt_cons,u];unfold q1;cases E:esc c with
   | none=>rfl
   | some s=>rw[E] at h;simp at h
theorem cnt_split :∀p:Ls,cnt p=(p.countP fun c=>decide (([34]:Ls)=[c]))+(p.countP fun c=>decide (([92]:Ls)=[c]))
 | []=>rfl
 | c::p=>by
   have:=cnt_split p;unfold cnt at this ⊢;rw[l1B,l1B,l1B,this];unfold esc;by_cases u:c=34
   . subst u;simp;omega
   have J :¬(34:UInt8)=c:=fun e=>u e.symm
   by_cases E:c=92
   . subst E;simp;omega
   have K :¬(92:UInt8)=c:=fun e=>E e.symm
   simp [u,E,J,K]
theorem rep_L1 (p:Ls)(hp:p.length<=1000):Y00 (tabk 2,trk 2) p FU (p.length:Int) false 0=some (((p.length+cnt p:Nat):Int),decide (cnt p≠0)):=by
 rw[cnt_split];have c1:(p.countP fun c=>decide (([34]:Ls)=[c]))<=p.length:=l1E;have c2:(p.countP fun c=>decide (([92]:Ls)=[c]))<=p.length:=l1E;have U:Y1N p [34]=some ((p.countP fun c=>decide (([34]:Ls)=[c]):Nat):Int):=by unfold Y1N;rw [if_pos ⟨rfl,by omega⟩]
 have V:Y1N p [92]=some ((p.countP fun c=>decide (([92]:Ls)=[c]):Nat):Int):=by unfold Y1N;rw [if_pos ⟨rfl,by omega⟩]
 generalize (p.countP fun c=>decide (([34]:Ls)=[c]))=a at *;generalize (p.countP fun c=>decide (([92]:Ls)=[c]))=b at *;have u:idxO (tabk 2) ((34:UInt8).toNat:Int)=some (some [92,34]):=tab_at 34;have E:idxO (tabk 2) ((92:UInt8).toNat:Int)=some (some [92,92]):=tab_at 92;have Y:idx (trk 2) 0=some [34]:=rfl;have Z:idx (trk 2) 1=some [92]:=rfl;have l2:((trk 2).length:Int)=2:=rfl;have J:idx ([34]:Ls) 0=some 34:=rfl;have N:idx ([92]:Ls) 0=some 92:=rfl;have g2:chk (((Option.getD (some ([92,34]:Ls)) []).length:Int)-1)=some 1:=rfl;have g3:chk (((Option.getD (some ([92,92]:Ls)) []).length:Int)-1)=some 1:=rfl;have hend :∀m x y,Y00 (tabk 2,trk 2) p (m+1) x y 2=some (x,y):=fun m x y=>by
  rw[Y00];dsimp only;rw[l2,if_neg Dc]
 have O :∀m (x:Nat) y,x<=3000->Y00 (tabk 2,trk 2) p (m+1+1) (x:Int) y 1=some (((x+b:Nat):Int),if b=0 then y else true):=fun m x y hx=>by
  rw[Y00];dsimp only;rw[l2,if_pos Dc,Z,bsome,V,bsome];by_cases hb:b=0
  . subst hb;rw[if_pos rfl,show chk ((1:Int)+1)=some 2 from rfl,bsome,hend];rfl
  rw[if_neg Om,N,bsome,E,bsome,g3,bsome,chk_ok Om Om,bsome,chk_ok Om Om,bsome,show chk ((1:Int)+1)=some 2 from rfl,bsome,hend,if_neg hb,show ((x:Int)+(b:Int)*1)=((x+b:Nat):Int) by omega]
 obtain⟨K,hK⟩ :∃K,FU=K+1+1+1:=⟨18446744073709551613,rfl⟩
 rw[hK,Y00];dsimp only;rw[l2,if_pos Dc,Y,bsome,U,bsome];by_cases ha:a=0
 . subst ha;rw[if_pos (show((0:Nat):Int)=0 from rfl),show chk ((0:Int)+1)=some 1 from rfl,bsome,O _ _ _ Om,l0r];by_cases hb:b=0
   . subst hb;rfl
   rw[if_neg hb,decide_eq_true hb]
 rw[if_neg Om,J,bsome,u,bsome,g2,bsome,chk_ok Om Om,bsome,chk_ok Om Om,bsome,show chk ((0:Int)+1)=some 1 from rfl,bsome,show ((p.length:Int)+(a:Int)*1)=((p.length+a:Nat):Int) by omega,O _ _ _ Om,decide_eq_true Om,ite_self,l0U]
theorem rep_L2 (p:Ls)(hp:p.length<=1000):Y04 (tabk 2,trk 2) p FU (p.length:Int) false 0=some (((p.length+cnt p:Nat):Int),decide (cnt p≠0)):=by
 have hf :∀(l:Ls) (a:Nat),l.foldl (fun(s:Nat) c=>if (esc c).isSome=true then s+1 else s) a=a+cnt l:=by
  intro l;induction l with
  | nil=>intro a;rfl
  | cons c l ih =>
    intro a;rw[l1m,ih];unfold cnt;rw[l1B];split <;> omega
 have:=foldI0 (L:=fun m (s:Nat) i=>Y04 (tabk 2,trk 2) p m ((p.length+s:Nat):Int) (decide (s≠0)) i) p (fun(s:Nat) c=>if (esc c).isSome=true then s+1 else s) (fun s=>(((p.length+s:Nat):Int),decide (s≠0))) (fun i s=>s<=i) Om ?_ ?_ 0 Om
 . rw[hf,l0r] at this;exact this
 . intro m s hs;rw[Y04,if_neg Om]
 intro m s i x hx hs;have hi:=(List.getElem?_eq_some_iff.1 hx).1;refine⟨by split <;> omega,?_⟩;rw[Y04,if_pos Om,idx_nat,hx,bsome,tab_at,bsome];by_cases h:(esc x).isSome=true
 . obtain⟨E,u⟩:=Option.isSome_iff_exists.1 h;have:=esc_two u;rw[if_pos h,if_pos h,bsome,u,l1s,this,show chk (((2:Nat):Int)-1)=some 1 from rfl,bsome,chk_ok Om Om,bsome,chk_succ Om,bsome,decide_eq_true (show s+1≠0 by omega)];rfl
 rw[if_neg h,if_neg h,chk_succ Om,bsome]
theorem rep_L3 (p:Ls)(hp:p.length<=1000):∀(d i m:Nat) (A:Ls),p.length-i<=d->d<m->i<=p.length->A.length<=2*i->
 Y05 (tabk 2,trk 2) p m (A++List.replicate (qt (p.drop i)).length 0) (A.length:Int) (i:Int)=some (A++qt (p.drop i)):=by
 intro d;induction d with
 | zero =>
   intro i m A u E J hA;obtain⟨m,rfl⟩ :∃k,m=k+1:=⟨m-1,by omega⟩
   rw[Y05,if_neg Om,l0e Om];rfl
 | succ d ih =>
   intro i m A u E J hA;obtain⟨m,rfl⟩ :∃k,m=k+1:=⟨m-1,by omega⟩
   by_cases hi:i<p.length
   . rw [Y05,if_pos Om,idx_nat,List.getElem?_eq_getElem hi,bsome,tab_at,bsome,l0g hi,qt_cons];unfold q1;cases h:esc p[i] with
     | some s =>
       have hs:=esc_two h;have ht:=tab_at p[i];rw[Option.isSome_some,if_pos rfl,frm_ok Sm,bsome,bsome,l1s,l1s];have hc:cpyO (A++List.replicate (s++qt (p.drop (i+1))).length 0) (A.length:Int) s=some ((A++s)++List.replicate (qt (p.drop (i+1))).length 0,2):=by
        unfold cpyO;rw[l0h,l1j];have K:s.take ((A++List.replicate (s++qt (p.drop (i+1))).length (0:UInt8)).length-A.length)=s:=l0x (by rw[l05,l2b,l05];omega);rw[K,hs,l1N,l0e Om,l03,List.drop_replicate,show (s++qt (p.drop (i+1))).length-(A.length+2-A.length)=(qt (p.drop (i+1))).length by rw[l05];omega];rfl
       rw[hc,bsome];dsimp only;rw[chk_ok Om Om,bsome,chk_succ Om,bsome];have:=ih (i+1) m (A++s) Om Om Om (by simp;omega);rw[show ((A++s).length:Int)=(A.length:Int)+2 by simp;omega] at this;rw[this,l0k]
     | none =>
       rw[l1S,if_neg Dc,Option.getD_none];have N:A++List.replicate ([p[i]]++qt (p.drop (i+1))).length (0:UInt8)=A++0::List.replicate (qt (p.drop (i+1))).length 0:=by
        rw[l05,l0F,l1W,List.replicate_succ]
       rw[N,idx_nat,List.getElem?_append_right (l07 _),l1d,List.getElem?_cons_zero,bsome,put_ok Om (by simp;omega),bsome,chk_succ Om,bsome,chk_succ Om,bsome,l0h,l1c (h:=l07 _),l1d,l1U];have:=ih (i+1) m (A++[p[i]]) Om Om Om (by simp;omega);rw[show ((A++[p[i]]).length:Int)=((A.length+1:Nat):Int) by simp,l0k] at this;rw[show (p[i]::List.replicate (qt (p.drop (i+1))).length (0:UInt8))=[p[i]]++List.replicate (qt (p.drop (i+1))).length 0 from rfl,this,l0k]
   rw[Y05,if_neg Om,l0e Om];rfl
theorem replace_eq (p:Ls)(hp:p.length<=1000):Y0P p=some (qt p):=by
 unfold Y0P Y0B;have hc:cnt p<=p.length:=l1E;dsimp only;rw[show chk (((trk 2).length:Int)*8)=some 16 from rfl,bsome,rep_L1 p hp,rep_L2 p hp,bsome];dsimp only;rw[ite_self,bsome];dsimp only;by_cases h:cnt p=0
 . rw[decide_eq_false Om,if_neg Dc,qt_id p h]
 rw[decide_eq_true h,if_pos rfl,mkS_ok Om Om Om Om,bsome,l0h,<-qt_len];have:=rep_L3 p hp p.length 0 FU [] Om (FU_gt Om) Om Sm;simp only[l0a,l0H,l0t,l03] at this;rw[this,bsome]
end Go.Ph.Md
end
section
namespace Go.Ph.Md
open Go.Ph.Pl Go.Ph.Pf
open Go.Ph.Chs (vld lower)
def pct1 (c:UInt8):Ls:=if tkB c=true then [c] else [37,hx (c.toNat / 16),hx (c.toNat % 16)]
theorem pct1_len (c:UInt8):1<=(pct1 c).length/\(pct1 c).length<=3:=by unfold pct1;split <;> simp
def pre8 : Ls:=[117,116,102,56,39,39]
abbrev PS : Type:=List Ls × Ls
def psS (st:PS)(c:UInt8):PS:=if st.2.length+(pct1 c).length<=60 then(st.1,st.2++pct1 c) else(st.1++[st.2],pct1 c)
def psF (v:Ls):PS:=v.foldl psS ([],pre8)
def pieces (v:Ls):List Ls:=(psF v).1++[(psF v).2]
def psI (i:Nat)(st:PS):Prop:=st.1.length<=i/\st.2.length<=60/\∀p∈st.1,p.length<=60
theorem psI_step {i:Nat}{st:PS}(c:UInt8)(h:psI i st):psI (i+1) (psS st c):=by
 obtain⟨J,E,u⟩:=h;have:=pct1_len c;unfold psS;split
 . refine⟨by dsimp only;omega,by dsimp only;rw [l05];omega,u⟩
 refine⟨by dsimp only;rw [l05,l0F];omega,by dsimp only;omega,fun p hp=>?_⟩;rcases List.mem_append.1 hp with hp|hp
 . exact u p hp
 rw[List.mem_singleton.1 hp];exact E
theorem psI_fold :∀(v:Ls) (i:Nat) (st:PS),psI i st->psI (i+v.length) (v.foldl psS st)
 | [],i,st,h=>h
 | c::v,i,st,h=>by
   have:=psI_fold v (i+1) _ (psI_step c h);rw[l1m,l01,show i+(v.length+1)=i+1+v.length by omega];exact this
theorem psI_of (v:Ls):psI v.length (psF v):=by
 have:=psI_fold v 0 ([],pre8) ⟨l07 _,by decide,fun p hp=>by cases hp⟩;rwa [l0r] at this
theorem last_idx {α:Type}(A:List α)(x:α):idx (A++[x]) (A.length:Int)=some x:=by
 rw[idx_nat,List.getElem?_append_right (l07 _),l1d];rfl
theorem last_put {α:Type}(A:List α)(x y:α):put (A++[x]) (A.length:Int) y=some (A++[y]):=by
 rw[put_ok Om (by simp;omega),l0h,l1c (h:=l07 _),l1d];rfl
theorem last_chk {α:Type}(A:List α)(x:α)(h:A.length<=1000000):chk (((A++[x]).length:Int)-1)=some (A.length:Int):=by
 rw[l05,l0F,chk_pred Om Om];rfl
theorem cut_one {v:Ls}{i:Nat}{x:UInt8}(hx:v[i]? = some x):cut v (i:Int) ((i+1:Nat):Int)=some [x]:=by
 have hi:=(List.getElem?_eq_some_iff.1 hx).1;rw[List.getElem?_eq_getElem hi] at hx;cases hx;rw[cut_of rfl rfl Om Om,l2l,show i+1-i=1 by omega,l0g hi];rfl
theorem pieces_eq (v:Ls)(hv:v.length<=500):Y3U v=some (pieces v):=by
 unfold Y3U;have:=foldI0 (L:=fun m (st:PS) i=>Y1q v m (st.1++[st.2]) i) v psS (fun st=>st.1++[st.2]) psI Om ?_ ?_ ([],pre8) ⟨l07 _,by decide,fun p hp=>by cases hp⟩
 . rw[show ([[117,116,102,56,39,39]]:List Ls)=[]++[pre8] from rfl,this,bsome];rfl
 . intro m st hs;rw[Y1q,if_neg Om]
 intro m st i x hx hs;have hi:=(List.getElem?_eq_some_iff.1 hx).1;refine⟨psI_step x hs,?_⟩;obtain⟨A,p⟩:=st;obtain⟨hA,hp,hB⟩:=hs;dsimp only at hA hp hB ⊢;have hl:=pct1_len x;rw[Y1q,if_pos Om,chk_succ Om,bsome,cut_one hx,bsome,idx_nat,hx,bsome,tokenByte_eq,bsome,bsome,digit_hi,bsome,bsome,digit_lo,bsome];have e:(if tkB x=true then some [x] else some [37,Md.hx (x.toNat / 16),Md.hx (x.toNat % 16)])=some (pct1 x):=by unfold pct1;split <;> rfl
 rw[e,bsome,last_chk _ _ Om,bsome,last_idx,bsome,chk_ok Om Om,bsome,bsome];unfold psS;dsimp only;by_cases u:p.length+(pct1 x).length<=60
 . rw[if_pos Om,if_pos u,cat_ok Om,bsome,bsome,last_put,bsome,bsome]
 rw[if_neg Om,if_neg u,app_ok (by simp;omega),bsome,bsome]
def exU (n:Ls)(i:Nat)(p:Ls):Ls:=[59,32]++n++[42]++itoaP i++[42,61]++p
def exT (n:Ls):Nat->List Ls->Ls
 | _,[]=>[]
 | i,p::r=>exU n i p++exT n (i+1) r
theorem exU_len (n:Ls)(i:Nat)(p:Ls):(exU n i p).length<=n.length+p.length+30:=by
 unfold exU;have:=itoa_len i;simp only[l05,l01,l0a];omega
theorem exT_len (n:Ls):∀(A:List Ls) (i:Nat),(∀p∈A,p.length<=60)->(exT n i A).length<=A.length*(n.length+90)
 | [],i,h=>by simp [exT]
 | p::A,i,h=>by
   have u:=exT_len n A (i+1) (fun q hq=>h q (by simp [hq]));have E:=exU_len n i p;have J:=h p Sm;rw[exT,l05,l01,Nat.succ_mul];omega
theorem pieces_len (v:Ls):(pieces v).length<=v.length+1/\∀p∈pieces v,p.length<=60:=by
 obtain⟨J,u,E⟩:=psI_of v;unfold pieces;refine⟨by rw[l05,l0F];omega,fun p hp=>?_⟩;rcases List.mem_append.1 hp with hp|hp
 . exact E p hp
 rw[List.mem_singleton.1 hp];exact u
theorem param_L1 (x:Par)(l:List Ls)(hx:x.1.length<=60)(hl:l.length<=1000)(u :∀p∈l,p.length<=60):∀(d i m:Nat) (s:Ls),l.length-i<=d->d<m->i<=l.length->s.length<=1000*i->
 Y1A x l m s (i:Int)=some (s++exT x.1 i (l.drop i)):=by
 intro d;induction d with
 | zero =>
   intro i m s E J K hs;obtain⟨m,rfl⟩ :∃k,m=k+1:=⟨m-1,by omega⟩
   rw[Y1A,if_neg Om,l0e Om,exT,l0f]
 | succ d ih =>
   intro i m s E J K hs;obtain⟨m,rfl⟩ :∃k,m=k+1:=⟨m-1,by omega⟩
   by_cases hi:i<l.length
   . have hp:=u _ (l0D hi);have hit:=itoa_len i;have hu:=exU_len x.1 i l[i];rw[Y1A,if_pos Om,idx_nat,List.getElem?_eq_getElem hi,bsome,cat_ok (by simp;omega),bsome,cat_ok (by simp;omega),bsome,itoa_eq i Om,bsome,cat_ok (by simp;omega),bsome,cat_ok (by simp;omega),bsome,cat_ok (by simp;omega),bsome,chk_succ Om];rw[show [59,32]++x.1++[42]++itoaP (i:Int)++[42,61]++l[i]=exU x.1 i l[i] from rfl,cat_ok Om,bsome,bsome,ih (i+1) m _ Om Om Om (by rw[l05];omega),l0g hi,exT,l0k]
   rw[Y1A,if_neg Om,l0e Om,exT,l0f]
def prB (c:UInt8):Bool:=decide (32<=c.toNat/\c.toNat<=126)
theorem pr_eq (c:UInt8):Y3x c=some (prB c):=by
 refine allB (p:=fun c=>Y3x c=some (prB c)) ?_ c;decide +kernel
def simp60 (v:Ls):Bool:=decide (v.length<=60)&&v.all prB
def paramT (x:Par):Ls :=
 if tkT x.2=true then [59,32]++x.1++[61]++x.2 else if simp60 x.2=true then [59,32]++x.1++[61,34]++qt x.2++[34] else exT x.1 0 (pieces x.2)
theorem exTp_len (x:Par)(u:x.1.length<=20)(E:x.2.length<=500):(exT x.1 0 (pieces x.2)).length<=60000:=by
 obtain⟨a,b⟩:=pieces_len x.2;have:=exT_len x.1 (pieces x.2) 0 b;have J:(pieces x.2).length*(x.1.length+90)<=501*110:=l2C Om Om;omega
theorem paramT_len (x:Par)(u:x.1.length<=20)(E:x.2.length<=500):(paramT x).length<=60000:=by
 unfold paramT;have hq:=qt_len x.2;have hc:cnt x.2<=x.2.length:=l1E;split
 . simp;omega
 split
 . simp;omega
 exact exTp_len x u E
theorem param_eq (x:Par)(J:x.1.length<=20)(E:x.2.length<=500):Y4a x=some (paramT x):=by
 unfold Y4a paramT;have hq:=qt_len x.2;have hc:cnt x.2<=x.2.length:=l1E;rw[token_eq _ (by unfold Big;omega),bsome];by_cases h:tkT x.2=true
 . rw[if_pos h,if_pos h,cat_ok (by simp;omega),bsome,cat_ok (by simp;omega),bsome,cat_ok (by simp;omega),bsome]
 rw[if_neg h,if_neg h,all_eq x.2 (by unfold Big;omega) _ prB pr_eq,bsome];have e:(if (x.2.length:Int)<=60 then some (x.2.all prB) else some false)=some (simp60 x.2):=by
  unfold simp60;by_cases u:x.2.length<=60
  . rw[if_pos Om,decide_eq_true u,l2f]
  rw[if_neg Om,decide_eq_false u,Bool.false_and]
 rw[e,bsome];by_cases hs:simp60 x.2=true
 . rw[if_pos hs,if_pos hs,cat_ok (by simp;omega),bsome,cat_ok (by simp;omega),bsome];unfold Y2c;rw[if_pos rfl,bsome,replace_eq _ Om,bsome,cat_ok (by simp;omega),bsome,cat_ok (by simp;omega),bsome]
 rw[if_neg hs,if_neg hs,pieces_eq _ E,bsome];obtain⟨a,b⟩:=pieces_len x.2;have:=param_L1 x (pieces x.2) Om Om b (pieces x.2).length 0 FU [] Om (FU_gt Om) Om Sm;rw[l0H,l0t,l03] at this;rw[this,bsome]
def mediaT (m:Med):Ls:=m.1++[47]++m.2.1++m.2.2.flatMap paramT
theorem flat_len {l:List Par}(h :∀x∈l,(paramT x).length<=60000):(l.flatMap paramT).length<=60000*l.length:=by
 induction l with
 | nil=>simp
 | cons x l ih =>
   have u:=ih (fun y hy=>h y (by simp [hy]));have E:=h x Sm;rw[l0n,l05,l01,Nat.mul_succ];omega
theorem pfz_all :∀(l pre:List Par),(pfz pre l).1=0->∀x∈l,tkT x.1=true/\x.1.length<=20/\x.2.length<=500/\vld x.2=true
 | [],pre,h,x,hx=>by cases hx
 | y :: l,pre,h,x,hx=>by
   rw[pfz] at h;by_cases hy:pf1 pre y=0
   . rw[if_pos hy] at h;rcases List.mem_cons.1 hx with rfl|hx
     . unfold pf1 at hy;by_cases u:tkT x.1=true/\x.1.length<=20
       . rw[if_pos u] at hy;by_cases E:pre.any (smP x)=true
         . rw[if_pos E] at hy;exact absurd hy Dc
         rw[if_neg E] at hy;by_cases J:500<x.2.length
         . rw[if_pos J] at hy;exact absurd hy Dc
         rw[if_neg J] at hy;by_cases K:vld x.2=true
         . exact⟨u.1,u.2,by omega,K⟩
         rw[if_neg K] at hy;exact absurd hy Dc
       rw[if_neg u] at hy;exact absurd hy Dc
     exact pfz_all l _ h x hx
   rw[if_neg hy] at h;exact absurd h hy
theorem valid_all {m:Med}(h:(valM m).1=0):∀x∈m.2.2,tkT x.1=true/\x.1.length<=20/\x.2.length<=500/\vld x.2=true:=pfz_all _ _ (valM_zero h).2.2.2.1
def printR (m:Med):Ls × (Int × Int):=if (valM m).1=0 then(if 4000<(mediaT m).length then([],(1,-4)) else(mediaT m,(0,0))) else([],valM m)
theorem textL (l:List Par)(hl:l.length<=60)(hv :∀x∈l,x.1.length<=20/\x.2.length<=500){L:Nat->Ls->Int->Option Ls}(hend :∀m s,L (m+1) s (l.length:Int)=some s)
 (hstep :∀m s i x,l[i]? = some x->s.length<=130+60000*i->i<l.length->L (m+1) s (i:Int)=L m (s++paramT x) ((i+1:Nat):Int)) (s:Ls) (hs:s.length<=130):L FU s 0=some (s++l.flatMap paramT):=by
 rw[foldI0 (L:=L) l (fun o x=>o++paramT x) id (fun i s=>s.length<=130+60000*i) Om ?_ ?_ s Om,foldl_app]
 . rfl
 . intro m s _;exact hend m s
 intro m s i x hx hI;have u:=hv x (l0M hx);have E:=paramT_len x u.1 u.2;exact⟨by rw[l05];omega,hstep m s i x hx hI (List.getElem?_eq_some_iff.1 hx).1⟩
theorem mediaT_len {m:Med}(h:(valM m).1=0):(mediaT m).length<=4000000:=by
 obtain⟨u,E,J,_⟩:=valM_zero h;have hv:=valid_all h;have a:=tkT_len u;have b:=tkT_len E;have c:=flat_len (l:=m.2.2) (fun x hx=>paramT_len x (hv x hx).2.1 (hv x hx).2.2.1);unfold mediaT;simp only[l05,l0F];omega
theorem print_eq (m:Med)(hb:BigM m):Y3m m=some (printR m):=by
 unfold Y3m printR;rw[show (m.1,m.2.1,m.2.2)=m from rfl,validate_eq m hb,bsome];have hz := @valM_zero m;have hv := @valid_all m;have hT := @mediaT_len m;obtain⟨⟨a,b⟩,he⟩ :∃p,valM m=p:=⟨_,rfl⟩
 rw[he] at hz hv hT ⊢;dsimp only at hz hv hT ⊢;rw[failed_eq,bsome];by_cases ha:a=0
 . obtain⟨E,J,K,_⟩:=hz ha;have N:=tkT_len E;have O:=tkT_len J;rw[decide_eq_true ha,if_neg Dc,if_pos ha,cat_ok (by simp;omega),bsome,cat_ok (by simp;omega),bsome,textL m.2.2 K (fun x hx=>⟨(hv ha x hx).2.1,(hv ha x hx).2.2.1⟩) (L:=fun k s i=>Y1V m k s i) ?_ ?_ _ (by simp;omega),bsome]
   . rw[show m.1++[47]++m.2.1++m.2.2.flatMap paramT=mediaT m from rfl];by_cases u:4000<(mediaT m).length
     . rw[if_pos Om,if_pos u,fault_eq,bsome]
     rw[if_neg Om,if_neg u,none_eq,bsome]
   . intro k s;rw[Y1V,if_neg Om]
   intro k s i x hx hs hi;have hxv:=hv ha x (l0M hx);have:=paramT_len x hxv.2.1 hxv.2.2.1;rw[Y1V,if_pos Om,idx_nat,hx,bsome,show (x.1,x.2)=x from rfl,param_eq x hxv.2.1 hxv.2.2.1,bsome,cat_ok Om,bsome,chk_succ Om,bsome]
 rw[decide_eq_false ha,if_pos Dc,if_neg ha]
end Go.Ph.Md
end
section
namespace Go.Ph.Md
open Go.Ph.Pl Go.Ph.Pf
open Go.Ph.Chs (vld lower)
theorem tw_take (p:UInt8->Bool):∀l:Ls,l.take (l.takeWhile p).length=l.takeWhile p
 | []=>rfl
 | c::l=>by
   cases h:p c with
   | true=>rw[l1r h,l01,l1P,tw_take p l]
   | false=>rw[l1G (by simp [h])];rfl
theorem tw_drop (p:UInt8->Bool):∀l:Ls,l.drop (l.takeWhile p).length=l.dropWhile p
 | []=>rfl
 | c::l=>by
   cases h:p c with
   | true=>rw[l1r h,l1F h,l01,l0Y,tw_drop p l]
   | false=>rw[l1G (by simp [h]),l1i (by simp [h])];rfl
theorem tw_len (p:UInt8->Bool)(l:Ls):(l.takeWhile p).length<=l.length:=(List.takeWhile_sublist p).length_le
theorem dw_len (p:UInt8->Bool)(l:Ls):(l.dropWhile p).length<=l.length:=(l2p p).length_le
theorem dw_head {p:UInt8->Bool}:∀{l:Ls} {c:UInt8} {r:Ls},l.dropWhile p=c::r->p c=false
 | [],c,r,h=>by cases h
 | d::l,c,r,h=>by
   cases hd:p d with
   | true=>rw[l1F hd] at h;exact dw_head h
   | false=>rw[l1i (by simp [hd])] at h;cases h;exact hd
theorem dw_id {p:UInt8->Bool}{l:Ls}(h :∀c r,l=c::r->p c=false):l.dropWhile p=l:=by
 cases l with
 | nil=>rfl
 | cons c r=>exact l1i (by simp [h c r rfl])
theorem scanW {L:Nat->Int->Option Int}(s:Ls)(p:UInt8->Bool)(hend :∀m,L (m+1) (s.length:Int)=some (s.length:Int))
 (hstep :∀m i (h:i<s.length),L (m+1) (i:Int)=if p s[i]=true then L m ((i+1:Nat):Int) else some (i:Int)) :
 ∀(d i m:Nat),s.length-i<=d->d<m->i<=s.length->L m (i:Int)=some ((i+((s.drop i).takeWhile p).length:Nat):Int):=by
 intro d;induction d with
 | zero =>
   intro i m u E J;obtain⟨m,rfl⟩ :∃k,m=k+1:=⟨m-1,by omega⟩
   obtain rfl:i=s.length:=by omega
   rw[hend,l0B];rfl
 | succ d ih =>
   intro i m u E J;obtain⟨m,rfl⟩ :∃k,m=k+1:=⟨m-1,by omega⟩
   by_cases hi:i<s.length
   . rw[hstep m i hi,l0g hi];cases h:p s[i] with
     | true=>rw[if_pos rfl,ih (i+1) m Om Om Om,l1r h,l01];congr 2;omega
     | false=>rw[if_neg Dc,l1G (by simp [h])];rfl
   obtain rfl:i=s.length:=by omega
   rw[hend,l0B];rfl
def blB (c:UInt8):Bool:=decide (c=32) || decide (c=9)
def tl (t:Ls):Ls:=t.dropWhile blB
theorem tl_tl (t:Ls):tl (tl t)=tl t:=dw_id fun c r h=>dw_head h
theorem tl_len (t:Ls):(tl t).length<=t.length:=dw_len _ _
theorem set_blank : Y0d [32,9]=some ((List.range 256).map (fun n=>decide (n=32) || decide (n=9)),true):=by decide +kernel
theorem contains_at (f:Nat->Bool)(c:UInt8):Y0b ((List.range 256).map f) c=some (f c.toNat):=by
 have hc:=c.toNat_lt;unfold Y0b idxA;rw[if_pos Sm,idx_nat,List.getElem?_map,List.getElem?_range Om];rfl
theorem blB_nat (c:UInt8):(decide (c.toNat=32) || decide (c.toNat=9))=blB c:=by
 unfold blB;rw[show decide (c.toNat=32)=decide (c=32) from decide_eq_decide.2 (u8_lit c 32).symm,show decide (c.toNat=9)=decide (c=9) from decide_eq_decide.2 (u8_lit c 9).symm]
theorem trimLA_eq :∀(k m:Nat) (l:Ls),l.length<=k->k<m->Big l->Y09 ((List.range 256).map (fun n=>decide (n=32) || decide (n=9))) m l=some (tl l)
 | k,m,l,u,J,E=>by
   obtain⟨m,rfl⟩ :∃k,m=k+1:=⟨m-1,by omega⟩
   unfold tl;cases l with
   | nil=>rw[Y09,if_neg Sm];rfl
   | cons c r =>
     rw[Y09,if_pos (by simp only[l01];omega),show (0:Int)=((0:Nat):Int) from rfl,idx_nat];simp only[bsome,List.getElem?_cons_zero,contains_at,blB_nat];cases hc:blB c with
     | true =>
       rw[if_pos rfl,cut_from (i:=1) (a:=1) rfl Sm];simp only[bsome,l0Y,l0t];cases k with
       | zero=>simp at u
       | succ k=>rw[trimLA_eq k m r (by simpa using u) Om (by simp only[Big,l01] at E ⊢;omega),l1F hc];rfl
     | false=>rw[if_neg Sm,l1i (by simp [hc])]
theorem blanks_eq (t:Ls)(ht:Big t):Y19 t=some (tl t):=by
 unfold Y19 Y3g;by_cases h:t=[]
 . subst h;rfl
 rw[if_neg h];simp only[bsome,show (decide (([32,9]:Ls)=[]))=false from rfl,l0m,if_false];rw[if_neg Dc,bsome,if_neg Dc,set_blank,bsome];dsimp only;rw[chkA_ok l2b,bsome,chkA_ok (by rw[l0l,l1H]),bsome,if_pos rfl];unfold Y1d;rw[trimLA_eq t.length FU t (l07 _) (FU_gt (by unfold Big at ht;omega)) ht,bsome,bsome];rfl
def pN (more:Ls)(c:UInt8):Bool:=tkB c || more.any (fun x=>decide (x=c))
theorem read_1_eq (c:UInt8):Y23 c=some (pN [42] c):=by
 refine allB (p:=fun c=>Y23 c=some (pN [42] c)) ?_ c;decide +kernel
theorem value_1_eq (c:UInt8):Y1L c=some (pN [37,39,42] c):=by
 refine allB (p:=fun c=>Y1L c=some (pN [37,39,42] c)) ?_ c;decide +kernel
theorem take_eq (t:Ls)(ht:Big t)(f:UInt8->Option Bool)(p:UInt8->Bool)(hf :∀c,f c=some (p c)):Y1e t f=some ((tl t).takeWhile p,(tl t).dropWhile p):=by
 unfold Y1e;have hl:=tl_len t;have hw:=tw_len p (tl t);unfold Big at ht;rw[blanks_eq t ht,bsome];have:=scanW (L:=fun m i=>Y0E f (tl t) m i) (tl t) p (fun m=>by rw[Y0E,if_neg Om,bsome,if_neg Dc]) (fun m i h=>by
  rw[Y0E,if_pos Om,idx_nat,List.getElem?_eq_getElem h,bsome,hf,bsome,bsome,chk_succ Om,bsome]) (tl t).length 0 FU Om (FU_gt Om) Om
 rw[l0H,l0t,l0r] at this;rw[this,bsome,cut_to rfl hw,bsome,cut_from rfl hw,bsome,tw_take,tw_drop]
def sgn (c:UInt8)(t:Ls):Option Ls:=match tl t with|x::r=>if x=c then some r else none|[]=>none
theorem sgn_len {c:UInt8}{t r:Ls}(h:sgn c t=some r):r.length<t.length:=by
 unfold sgn at h;have:=tl_len t;cases ht:tl t with
 | nil=>rw[ht] at h;cases h
 | cons x q =>
   rw[ht] at h this;dsimp only at h;split at h
   . cases h;rw [l01] at this;omega
   cases h
theorem sign_eq (t:Ls)(ht:Big t)(c:UInt8):Y1f t c=some (match sgn c t with|some r=>(true,r)|none=>(false,tl t)):=by
 unfold Y1f sgn;rw[blanks_eq t ht,bsome];cases h:tl t with
 | nil=>rfl
 | cons x r =>
   rw[if_neg Sm,show (0:Int)=((0:Nat):Int) from rfl,idx_nat,List.getElem?_cons_zero,bsome,bsome];dsimp only;by_cases hx:x=c
   . rw[decide_eq_true hx,if_neg Dc,if_pos hx,cut_from (i:=1) (a:=1) rfl Sm,bsome];rfl
   rw[decide_eq_false hx,if_pos Dc,if_neg hx]
def qv : Ls->Option (Ls × Ls)
 | []=>none
 | c::r=>if c=34 then some ([],r) else if c=92 then(match r with|[]=>none|d::u=>(qv u).map fun p=>(d::p.1,p.2)) else(qv r).map fun p=>(c::p.1,p.2)
theorem qv_cons (c:UInt8)(r:Ls):qv (c::r)=if c=34 then some ([],r) else if c=92 then(match r with|[]=>none|d::u=>(qv u).map fun p=>(d::p.1,p.2)) else(qv r).map fun p=>(c::p.1,p.2):=by
 cases r with
 | nil=>(conv=>lhs;rw [qv]) <;> rfl
 | cons d r=>rw[qv]
theorem qv_rest :∀(n:Nat) (t:Ls) (v r:Ls),t.length<=n->qv t=some (v,r)->r.length<t.length/\v.length<=t.length
 | n,[],v,r,hn,h=>by cases h
 | 0,c::t,v,r,hn,h=>by simp at hn
 | n + 1,c::t,v,r,hn,h=>by
   rw[qv_cons] at h;rw[l01] at hn ⊢;by_cases J:c=34
   . rw[if_pos J] at h;cases h;exact ⟨by omega,by simp⟩
   rw[if_neg J] at h;by_cases K:c=92
   . rw[if_pos K] at h;cases t with
     | nil=>cases h
     | cons d t =>
       obtain⟨⟨v',r'⟩,E,u⟩:=Option.map_eq_some_iff.1 h;dsimp only at u;cases u;have:=qv_rest n t v' _ (by rw[l01] at hn;omega) E;rw[l01,l01];omega
   rw[if_neg K] at h;obtain⟨⟨v',r'⟩,E,u⟩:=Option.map_eq_some_iff.1 h;dsimp only at u;cases u;have:=qv_rest n t v' _ Om E;rw[l01];omega
theorem value_L1 (s:Ls)(hs:s.length<=1000000):∀(d i m:Nat) (acc:Ls),s.length-i<=d->d<m->i<=s.length->acc.length<=i->
 ∃o,Y0x m s acc (i:Int)=some o/\(match qv (s.drop i) with|some (v,r)=>o = .inr (acc++v,true,r)|none=>o = .inl s∨o = .inr ([],false,s)):=by
 intro d;induction d using Nat.strongRecOn with
 | ind d ih =>
   intro i m acc K N O U;obtain⟨m,rfl⟩ :∃k,m=k+1:=⟨m-1,by omega⟩
   rw[Y0x];by_cases hi:i<s.length
   . rw[if_pos Om,idx_nat,List.getElem?_eq_getElem hi,bsome,l0g hi,qv_cons];by_cases u:s[i]=34
     . rw[if_pos u,if_pos u,chk_succ Om,bsome,cut_from rfl Om,bsome];exact⟨_,G,by simp⟩
     rw[if_neg u,if_neg u];by_cases E:s[i]=92
     . rw[if_pos E,if_pos E,chk_succ Om,bsome];by_cases he:i+1=s.length
       . rw[if_pos Om,l0e Om];exact⟨_,G, .inr G⟩
       have J:i+1<s.length:=by omega
       rw[if_neg Om,idx_nat,List.getElem?_eq_getElem J,bsome,app_ok (by simp;omega),bsome,chk_succ Om,bsome,l0g J];dsimp only;obtain⟨o,ho,hq⟩:=ih (d-2) Om (i+1+1) m (acc++[s[i+1]]) Om Om Om (by simp;omega);refine⟨o,ho,?_⟩;cases hz:qv (s.drop (i+1+1)) with
       | none=>rw[hz] at hq;exact hq
       | some p=>rw[hz] at hq;dsimp only[Option.map_some];dsimp only at hq;rw [hq,l0k];rfl
     rw[if_neg E,if_neg E,app_ok (by simp;omega),bsome,chk_succ Om,bsome];obtain⟨o,ho,hq⟩:=ih (d-1) Om (i+1) m (acc++[s[i]]) Om Om Om (by simp;omega);refine⟨o,ho,?_⟩;cases hz:qv (s.drop (i+1)) with
     | none=>rw[hz] at hq;exact hq
     | some p=>rw[hz] at hq;dsimp only[Option.map_some];dsimp only at hq;rw [hq,l0k];rfl
   rw[if_neg Om,l0e Om];exact⟨_,G, .inl G⟩
def vl (t:Ls):Option (Ls × Ls):=match sgn 34 t with|some r=>qv r|none=>some ((tl t).takeWhile (pN [37,39,42]),(tl t).dropWhile (pN [37,39,42]))
theorem vl_len {t v r:Ls}(h:vl t=some (v,r)):r.length<=t.length/\v.length<=t.length:=by
 unfold vl at h;cases hs:sgn 34 t with
 | some q =>
   rw[hs] at h;have u:=sgn_len hs;have E:=qv_rest _ _ _ _ (l07 _) h;omega
 | none =>
   rw[hs] at h;cases h;have u:=tl_len t;have E:=tw_len (pN [37,39,42]) (tl t);have J:=dw_len (pN [37,39,42]) (tl t);omega
theorem value_eq (t:Ls)(ht:t.length<=1000000):(∃v r,vl t=some (v,r)/\Y1E t=some (v,true,r))∨(vl t=none/\∃r,Y1E t=some ([],false,r)):=by
 unfold Y1E vl;rw[sign_eq t (by unfold Big;omega)];cases hs:sgn 34 t with
 | some q =>
   have u:=sgn_len hs;dsimp only;rw[bsome];dsimp only;rw[if_pos rfl];obtain⟨o,ho,hq⟩:=value_L1 q Om q.length 0 FU [] Om (FU_gt Om) Om Sm;rw[l0H] at ho;rw[l0t] at hq;rw[ho,bsome];cases hz:qv q with
   | some p =>
     obtain⟨v,r⟩:=p;rw[hz] at hq;dsimp only at hq;subst hq;exact .inl ⟨v,r,G,G⟩
   | none =>
     rw[hz] at hq;rcases hq with rfl|rfl
     . exact .inr ⟨G,_,G⟩
     exact .inr ⟨G,_,G⟩
 | none =>
   dsimp only;rw[bsome];dsimp only;have:=tl_len t;rw[if_neg Dc,take_eq (tl t) (by unfold Big;omega) _ _ value_1_eq,bsome,tl_tl];exact .inl ⟨_,_,G,G⟩
end Go.Ph.Md
end
section
namespace Go.Ph.Md
open Go.Ph.Pl Go.Ph.Pf
open Go.Ph.Chs (vld lower)
abbrev dg (c:UInt8):Bool:=decide (48<=c.toNat/\c.toNat<=57)
abbrev digs (s:Ls):Bool:=s.all dg
@[irreducible] def dgt (c : UInt8) : Nat := c.toNat - 48
@[irreducible] def mad (n d : Nat) : Nat := n * 10 + d
theorem atoiAll_range {s:Ls}{v:Int}(h:Lib.atoiAll s = .ok v): -9223372036854775808<=v/\v<=9223372036854775807:=by
 unfold Lib.atoiAll at h;split at h
 . cases h
 dsimp only at h;split at h
 . cases h
 . cases h
 split at h
 . cases h
 split at h
 . cases h
 rename_i u E;cases h;split <;> omega
theorem atoi_range {s:Ls}(h:(atoiP s).2=true): -9223372036854775808<=(atoiP s).1/\(atoiP s).1<=9223372036854775807:=by
 unfold atoiP at h ⊢;split at h
 . rename_i v hv;exact atoiAll_range hv
 . cases h
 cases h
def numP (s:Ls):Option Int:=if (atoiP s).2=true/\itoaP (atoiP s).1=s/\0<=(atoiP s).1/\(atoiP s).1<=1099511627776 then some (atoiP s).1 else none
theorem bnumber_eq (s:Ls)(hs:s.length<=1000000):Y3Q s 1099511627776=some (match numP s with|some n=>(n,true)|none=>(0,false)):=by
 unfold Y3Q strconv_Atoi numP;rw[if_pos Om,bsome];have hr := @atoi_range s;obtain⟨⟨n,b⟩,he⟩ :∃p,atoiP s=p:=⟨_,rfl⟩
 rw[he] at hr ⊢;dsimp only at hr ⊢;cases b with
 | false=>rw[if_neg Dc,bsome,if_pos rfl,if_neg (fun h=>by cases h.1)]
 | true =>
   have hr':=hr rfl;unfold strconv_Itoa;rw[if_pos rfl,if_pos hr',bsome];by_cases u:itoaP n=s
   . rw[if_pos u];by_cases E:n<0
     . rw[if_pos E,bsome,if_pos rfl,if_neg (fun h=>by omega)]
     rw[if_neg E,bsome];by_cases J:1099511627776<n
     . rw[decide_eq_true J,if_pos rfl,if_neg (fun h=>by omega)]
     rw[decide_eq_false J,if_neg Dc,if_pos ⟨rfl,u,by omega,by omega⟩]
   rw[if_neg u,bsome,if_pos rfl,if_neg (fun h=>u h.2.1)]
end Go.Ph.Md
end
section
namespace Go.Ph.Md
open Go.Ph.Pl Go.Ph.Pf
open Go.Ph.Chs (vld lower)
def ns (c:UInt8):Bool := !decide (c=42)
theorem ns_star : ns 42=false:=rfl
theorem star_len :∀(l:Ls),(42∈l↔(l.takeWhile ns).length<l.length)
 | []=>by simp
 | c :: l=>by
   by_cases h:c=42
   . subst h;simp [ns_star]
   have hn:ns c=true:=by unfold ns;rw [decide_eq_false h];rfl
   rw[l1r hn,l01,l01,l0S];have:=star_len l;constructor
   . rintro(e|e)
     . exact absurd e.symm h
     have:=this.1 e;omega
   intro e;exact .inr (this.2 Om)
theorem index_star :∀(l:Ls),Lib.index l [42]=if 42∈l then((l.takeWhile ns).length:Int) else -1
 | []=>rfl
 | c :: l=>by
   rw[Lib.index];by_cases h:c=42
   . subst h;rw[if_pos (by simp [List.isPrefixOf]),if_pos Sm,l1G (by simp [ns_star])];rfl
   have hn:ns c=true:=by unfold ns;rw [decide_eq_false h];rfl
   have h' :¬(42:UInt8)=c:=fun e=>h e.symm
   rw[if_neg (by simp [List.isPrefixOf,h']),index_star l,l1r hn];by_cases hm:42∈l
   . rw[if_pos hm,if_neg (by first|(simp;done)|(simp;omega)),if_pos (by simp [hm]),l01];omega
   rw[if_neg hm,if_pos Dc,if_neg (by simp [hm,h'])]
def cutB (name:Ls):Ls:=name.takeWhile ns
def cutR (name:Ls):Ls:=(name.dropWhile ns).drop 1
theorem cut_eq (name:Ls)(hs:name.length<=1000000):Y2h name [42]=some (if 42∈name then(cutB name,cutR name,true) else(name,[],false)):=by
 have hl:=tw_len ns name;unfold Y2h Y22 Y0M cutB cutR;rw[if_pos Om,bsome,index_star];by_cases h:42∈name
 . have u:=(star_len name).1 h;rw[if_pos h,if_pos h,if_pos Om,cut_to rfl hl,bsome,show (([42]:Ls).length:Int)=((1:Nat):Int) from rfl,chk_addN 1 Om,bsome,cut_from rfl Om,bsome,bsome,tw_take,<-l0G,tw_drop]
 rw[if_neg h,if_neg h,if_neg Dc,bsome]
theorem snoc_cases {α:Type}(l:List α):l=[]∨∃a c,l=a++[c]:=by
 rcases l2u l with h|⟨a,c,h⟩
 . exact .inl h
 exact .inr ⟨a,c,by rw[h];simp⟩
def cutS (r:Ls):Ls × Bool:=if r.getLast? = some 42 then(r.dropLast,true) else(r,false)
theorem cutS_len (r:Ls):(cutS r).1.length<=r.length:=by
 unfold cutS;split
 . rw[List.length_dropLast];omega
 exact l07 _
theorem suffix_eq (r:Ls)(hs:r.length<=1000000):Y1v r [42]=some (cutS r):=by
 unfold Y1v Y1g Y0h cutS;rcases snoc_cases r with rfl|⟨a,c,rfl⟩
 . rfl
 have u:((a++[c]).length:Int)-(([42]:Ls).length:Int)=(a.length:Int):=by simp
 rw[if_pos (by simp;omega),u,chk_ok Om (by simp at hs;omega),bsome,cut_from rfl Sm,bsome,bsome,bsome,l1L,List.getLast?_concat,l1J];by_cases h:c=42
 . subst h;rw[decide_eq_true rfl,if_pos rfl,bsome,cut_to rfl Sm,bsome,l1j,if_pos rfl];rfl
 rw[decide_eq_false (by simpa using h),if_neg Dc,if_neg (by simpa using h)];rfl
def mkP (num:Ls->Option Int)(name v:Ls):Option Pce :=
 if 42∈name then(if cutB name=[] then none else(num (cutS (cutR name)).1).map fun n=>(cutB name,n,(cutS (cutR name)).2,v))
 else(if name=[] then none else some (name,-1,false,v))
def rdP (num:Ls->Option Int)(t:Ls):Option (Pce × Ls) :=
 (sgn 61 ((tl t).dropWhile (pN [42]))).bind fun u=>(vl u).bind fun q=>(mkP num ((tl t).takeWhile (pN [42])) q.1).map fun p=>(p,q.2)
theorem cutR_len (name:Ls):(cutR name).length<=name.length:=by
 unfold cutR;have:=dw_len ns name;rw[l04];omega
theorem mkP_some {num:Ls->Option Int}{name v:Ls}{p:Pce}(h:mkP num name v=some p):p.1.length<=name.length/\p.2.2.2=v/\p.1≠ []/\(p.2.1 = -1∨∃s,num s=some p.2.1):=by
 unfold mkP at h;split at h
 . split at h
   . cases h
   rename_i hb;obtain⟨n,u,E⟩:=Option.map_eq_some_iff.1 h;cases E;exact⟨tw_len _ _,G,hb, .inr ⟨_,u⟩⟩
 split at h
 . cases h
 rename_i hb;cases h;exact⟨l07 _,G,hb, .inl G⟩
theorem rdP_some {num:Ls->Option Int}{t r:Ls}{p:Pce}(h:rdP num t=some (p,r)):r.length<t.length/\p.1.length<=t.length/\p.2.2.2.length<=t.length/\p.1≠ []/\(p.2.1 = -1∨∃s,num s=some p.2.1):=by
 unfold rdP at h;obtain⟨V,J,h⟩:=bnd h;obtain⟨⟨v,r'⟩,K,h⟩:=bnd h;obtain⟨p',N,u⟩:=Option.map_eq_some_iff.1 h;dsimp only at u;cases u;have Y:=sgn_len J;have Z:=dw_len (pN [42]) (tl t);have a3:=tl_len t;have a4:=vl_len K;have a5:=tw_len (pN [42]) (tl t);obtain⟨b1,E,O,U⟩:=mkP_some N;dsimp only at E;exact⟨by omega,by omega,by rw[E];omega,O,U⟩
theorem read_eq (t:Ls)(ht:t.length<=1000000):∃p b r,Y2t t=some (p,b,r)/\rdP numP t=if b=true then some (p,r) else none:=by
 have J:=tl_len t;have K:=dw_len (pN [42]) (tl t);have N:=tw_len (pN [42]) (tl t);unfold Y2t;rw[take_eq t (by unfold Big;omega) _ _ read_1_eq,bsome];dsimp only;rw[sign_eq _ (by unfold Big;omega),bsome];cases hs:sgn 61 ((tl t).dropWhile (pN [42])) with
 | none=>exact⟨_,_,_,rfl,by unfold rdP;rw [hs];rfl⟩
 | some E =>
   have O:=sgn_len hs;have hR:rdP numP t=(vl E).bind fun q=>(mkP numP ((tl t).takeWhile (pN [42])) q.1).map fun p=>(p,q.2):=by unfold rdP;rw [hs,bsome]
   rw[hR];dsimp only;rw[if_pos rfl];have hlen:((tl t).takeWhile (pN [42])).length<=1000000:=by omega
   clear hR;generalize (tl t).takeWhile (pN [42])=name at *;have hcr:=cutR_len name;have hcs:=cutS_len (cutR name);unfold mkP;rcases value_eq E Om with ⟨v,r,hv,hm⟩|⟨hv,r,hm⟩
   . rw[hm,hv,bsome,cut_eq name hlen];by_cases u:42∈name
     . rw[if_pos u,bsome];dsimp only;rw[if_pos rfl,suffix_eq _ Om,bsome,bnumber_eq _ Om,bsome];cases hn:numP (cutS (cutR name)).1 with
       | none =>
         dsimp only;refine⟨_,_,_,G,?_⟩;rw[bsome,if_pos u];split <;> rfl
       | some n =>
         dsimp only;refine⟨_,_,_,G,?_⟩;rw[bsome,if_pos u];dsimp only;by_cases hb:cutB name=[]
         . rw[if_pos hb,decide_eq_true hb];rfl
         rw[if_neg hb,decide_eq_false hb];rfl
     rw[if_neg u,bsome];dsimp only;refine⟨_,_,_,G,?_⟩;rw[bsome,if_neg u];dsimp only;by_cases hb:name=[]
     . rw[if_pos hb,decide_eq_true hb];rfl
     rw[if_neg hb,decide_eq_false hb];rfl
   rw[hm,hv,bsome,cut_eq name hlen];by_cases u:42∈name
   . rw[if_pos u,bsome];dsimp only;rw[if_pos rfl,suffix_eq _ Om,bsome,bnumber_eq _ Om,bsome];exact⟨_,_,_,G,G⟩
   rw[if_neg u,bsome];exact⟨_,_,_,G,G⟩
def pcs (num:Ls->Option Int):Nat->Ls->Option (List Pce × Ls)
 | 0,_=>none
 | m+1,t=>match sgn 59 t with|some r=>(rdP num r).bind fun p=>(pcs num m p.2).map fun q=>(p.1::q.1,q.2)|none=>some ([],tl t)
theorem parse_L1 (u E:Ls)(a b:Ls)(c:List Par):∀(d m:Nat) (t:Ls) (l:List Pce),t.length<=d->d<m->l.length+t.length<=100000->
 Y1T u E m a b c t l=some (match pcs numP m t with|some (q,r) => .inl (a,b,c,r,l++q)|none => .inr ((u,E,[]),false)):=by
 intro d;induction d with
 | zero =>
   intro m t l hd hm hl;obtain⟨m,rfl⟩ :∃k,m=k+1:=⟨m-1,by omega⟩
   have:t=[]:=l08 Om;subst this;rw[Y1T,sign_eq _ (by unfold Big;simp),bsome,pcs,show sgn 59 []=none from rfl];dsimp only;rw[if_neg Dc,l0f]
 | succ d ih =>
   intro m t l hd hm hl;obtain⟨m,rfl⟩ :∃k,m=k+1:=⟨m-1,by omega⟩
   rw[Y1T,sign_eq _ (by unfold Big;omega),bsome,pcs];cases hs:sgn 59 t with
   | none =>
     dsimp only;rw[if_neg Dc,l0f]
   | some r =>
     have K:=sgn_len hs;dsimp only;rw[if_pos rfl];obtain⟨p,bb,J,he,hr⟩:=read_eq r Om;rw[he,bsome,hr];dsimp only;cases bb with
     | false=>rfl
     | true =>
       rw[if_pos rfl] at hr;have N:=(rdP_some hr).1;rw[if_pos rfl,if_pos rfl,app_ok (by simp;omega),bsome,ih m J _ Om Om (by simp;omega),bsome];dsimp only;cases hq:pcs numP m J with
       | none=>rfl
       | some q=>obtain⟨q,x⟩:=q;simp
end Go.Ph.Md
end
section
namespace Go.Ph.Md
open Go.Ph.Pl Go.Ph.Pf
open Go.Ph.Chs (vld lower utf8)
open Go.Ph.Utf (rune dr)
def hexv (c:UInt8):Option Nat:=if 48<=c.toNat/\c.toNat<=57 then some (c.toNat-48) else if 65<=c.toNat/\c.toNat<=70 then some (c.toNat-55) else if 97<=c.toNat/\c.toNat<=102 then some (c.toNat-87) else none
theorem hexv_lt {c:UInt8}{x:Nat}(h:hexv c=some x):x<16:=by
 unfold hexv at h;split at h
 . cases h;omega
 split at h
 . cases h;omega
 split at h
 . cases h;omega
 cases h
theorem hex_eq (c:UInt8):Y3N c=some ((match hexv c with|some x=>UInt8.ofNat x|none=>0),(hexv c).isSome):=by
 refine allB (p:=fun c=>Y3N c=some ((match hexv c with|some x=>UInt8.ofNat x|none=>0),(hexv c).isSome)) ?_ c;decide +kernel
theorem two16 :∀x,x<16->∀y,y<16->(UInt8.ofNat ((UInt8.ofNat x).toNat*2 ^ 4)) ||| UInt8.ofNat y=UInt8.ofNat (16*x+y):=by decide +kernel
def hex2 (a b:UInt8):Option UInt8:=match hexv a,hexv b with|some x,some y=>some (UInt8.ofNat (16*x+y))|_,_=>none
theorem pair_short {s:Ls}(h:s.length<2):Y2q s=some (0,false):=by
 unfold Y2q;rw [if_pos Om]
theorem pair_eq (a b:UInt8)(t:Ls):∃c,Y2q (a::b::t)=some (c,(hex2 a b).isSome)/\∀z,hex2 a b=some z->c=z:=by
 unfold Y2q;rw[if_neg (by simp;omega),show (0:Int)=((0:Nat):Int) from rfl,idx_nat,show (1:Int)=((1:Nat):Int) from rfl,idx_nat];simp only[List.getElem?_cons_zero,List.getElem?_cons_succ,bsome,hex_eq];unfold hex2;cases ha:hexv a with
 | none=>exact⟨_,by rfl,fun z hz=>by cases hz⟩
 | some x =>
   cases hb:hexv b with
   | none=>exact⟨_,by rfl,fun z hz=>by cases hz⟩
   | some y=>exact⟨_,by rfl,fun z hz=>by cases hz;exact two16 x (hexv_lt ha) y (hexv_lt hb)⟩
def hexd2 : Ls->Option (UInt8 × Ls)
 | a::b::t=>(hex2 a b).map fun z=>(z,t)
 | _=>none
theorem hexd2_len {t:Ls}{p:UInt8 × Ls}(h:hexd2 t=some p):p.2=t.drop 2/\2<=t.length:=by
 rcases t with _|⟨a,_|⟨b,t⟩⟩
 . cases h
 . cases h
 obtain⟨z,_,rfl⟩:=Option.map_eq_some_iff.1 h;exact⟨G,by simp⟩
theorem pair_hexd2 (t:Ls):∃c b,Y2q t=some (c,b)/\match hexd2 t with|some p=>b=true/\c=p.1|none=>b=false:=by
 rcases t with _|⟨a,_|⟨b,t⟩⟩
 . exact⟨_,_,pair_short Sm,G⟩
 . exact⟨_,_,pair_short Sm,G⟩
 obtain⟨c,u,E⟩:=pair_eq a b t;refine⟨_,_,u,?_⟩;have e:hexd2 (a::b::t)=(hex2 a b).map fun z=>(z,t):=rfl
 rw[e];cases h:hex2 a b with
 | none=>rfl
 | some z=>exact⟨rfl,E z h⟩
def unpF : Nat->Ls->Ls
 | 0,_=>[]
 | n+1,[]=>[]
 | n+1,c::t=>if c=37 then(match hexd2 t with|some p=>p.1::unpF n p.2|none=>c::unpF n t) else c::unpF n t
theorem unpF_more :∀(n m:Nat) (l:Ls),l.length<n->l.length<m->unpF n l=unpF m l
 | n+1,m+1,[],_,_=>rfl
 | n + 1,m+1,c::t,E,J=>by
   simp only[l01] at E J;rw[unpF,unpF];have K:=unpF_more n m t Om Om;rw[K];cases hp:hexd2 t with
   | none=>rfl
   | some p =>
     obtain⟨u,N⟩:=hexd2_len hp;dsimp only;rw[unpF_more n m p.2 (by rw[u,l04];omega) (by rw[u,l04];omega)]
def unp (l:Ls):Ls:=unpF (l.length+1) l
theorem unp_nil : unp []=[]:=rfl
theorem unp_cons (c:UInt8)(t:Ls):unp (c::t)=if c=37 then(match hexd2 t with|some p=>p.1::unp p.2|none=>c::unp t) else c::unp t:=by
 unfold unp;rw[l01,unpF];cases hp:hexd2 t with
 | none=>rfl
 | some p =>
   obtain⟨u,E⟩:=hexd2_len hp;dsimp only;rw[unpF_more (t.length+1) (p.2.length+1) p.2 (by rw[u,l04];omega) Om]
theorem unp_len :∀(n:Nat) (l:Ls),l.length<=n->(unp l).length<=l.length
 | n,[],_=>l07 _
 | 0,c::t,h=>by simp at h
 | n + 1,c::t,h=>by
   simp only[l01] at h ⊢;rw[unp_cons];have J:=unp_len n t Om;split
   . cases hp:hexd2 t with
     | none=>dsimp only;rw [l01];omega
     | some p =>
       obtain⟨u,K⟩:=hexd2_len hp;have E:=unp_len n p.2 (by rw[u,l04];omega);rw[u,l04] at E;dsimp only;rw[l01,u];omega
   rw[l01];omega
theorem text_L1 (s:Ls)(hs:s.length<=1000000):∀(d i m:Nat) (acc:Ls),s.length-i<=d->d<m->i<=s.length->acc.length<=i->
 Y0p s m acc (i:Int)=some (acc++unp (s.drop i)):=by
 intro d;induction d using Nat.strongRecOn with
 | ind d ih =>
   intro i m acc h1 h2 h3 h4;obtain⟨m,rfl⟩ :∃k,m=k+1:=⟨m-1,by omega⟩
   rw[Y0p];by_cases hi:i<s.length
   . rw[if_pos Om,idx_nat,List.getElem?_eq_getElem hi,bsome,l0g hi,unp_cons];have hplain :∀(o:Option ((Ls × Int) ⊕ (Ls × Int))),o=some (.inl (acc,(i:Int)))->(o.bind fun J=>(match J with | .inl (K,E)=>(idx s E).bind fun N=>(app 1 K ([N]:Ls)).bind fun O=>(chk (E+1)).bind fun U=>Y0p s m O U | .inr (V,Y)=>(chk (Y+1)).bind fun Z=>Y0p s m V Z))=some (acc++(s[i]::unp (s.drop (i+1)))):=by
      rintro o rfl;rw[bsome];dsimp only;rw[idx_nat,List.getElem?_eq_getElem hi,bsome,app_ok (by simp;omega),bsome,chk_succ Om,bsome,ih (d-1) Om (i+1) m _ Om Om Om (by simp;omega),l0k];rfl
     by_cases u:s[i]=37
     . rw[if_pos u,if_pos u,chk_succ Om,bsome,cut_from rfl Om,bsome];obtain⟨c,b,hp,hq⟩:=pair_hexd2 (s.drop (i+1));rw[hp,bsome];dsimp only;cases hz:hexd2 (s.drop (i+1)) with
       | none =>
         rw[hz] at hq;dsimp only at hq;subst hq;exact hplain _ (by rw[if_neg Dc])
       | some p =>
         rw[hz] at hq;obtain⟨rfl,rfl⟩:=hq;obtain⟨e1,e2⟩:=hexd2_len hz;rw[l04] at e2;rw[if_pos rfl,app_ok (by simp;omega),bsome,show ((i:Int)+2)=((i+2:Nat):Int) by omega,chk_ok Om Om,bsome,bsome];dsimp only;rw[chk_succ Om,bsome,ih (d-3) Om (i+2+1) m _ Om Om Om (by simp;omega),e1,l0G,l0k,show i+1+2=i+2+1 by omega];rfl
     rw[if_neg u,if_neg u];exact hplain _ G
   rw[if_neg Om,l0e Om,unp_nil,l0f]
def bare (p:Pce):Ls:=if p.2.1=0/\6<=p.2.2.2.length/\lower (p.2.2.2.take 6)=pre8 then p.2.2.2.drop 6 else p.2.2.2
def txt (p:Pce):Ls:=if p.2.2.1=true then unp (bare p) else p.2.2.2
theorem bare_len (p:Pce):(bare p).length<=p.2.2.2.length:=by
 unfold bare;split
 . rw[l04];omega
 exact l07 _
theorem txt_len (p:Pce):(txt p).length<=p.2.2.2.length:=by
 unfold txt;have:=bare_len p;have:=unp_len _ (bare p) (l07 _);split <;> omega
theorem lower_pre : lower pre8=pre8:=by decide
theorem text_eq (p:Pce)(hp:p.2.2.2.length<=1000000):Y2E p=some (txt p):=by
 obtain⟨nm,n,st,v⟩:=p;unfold Y2E txt bare;dsimp only at hp ⊢;cases st with
 | false=>rw[if_neg Dc,if_neg Dc]
 | true =>
   rw[if_pos rfl,if_pos rfl];have e:(if n=(0:Int) then(if (6:Int)<=(v.length:Int) then(cut v 0 6).bind fun J=>(Y0N J [117,116,102,56,39,39]).bind fun K=>some K else some false) else some false)=some (decide (n=0/\6<=v.length/\lower (v.take 6)=pre8)):=by
    by_cases u:n=0
    . rw[if_pos u];by_cases E:6<=v.length
      . rw[if_pos Om,cut_to (j:=6) (b:=6) rfl E,bsome,same_eq (by unfold Big;rw [l0c];omega) (by unfold Big;simp),bsome,show lower [117,116,102,56,39,39]=pre8 from lower_pre];congr 1;simp [u,E]
      rw[if_neg Om,decide_eq_false (fun h=>E h.2.1)]
    rw[if_neg u,decide_eq_false (fun h=>u h.1)]
   rw[e,bsome];by_cases hc:n=0/\6<=v.length/\lower (v.take 6)=pre8
   . rw[decide_eq_true hc,if_pos rfl,if_pos hc,cut_from (i:=6) (a:=6) rfl hc.2.1,bsome,bsome];have:=text_L1 (v.drop 6) (by rw[l04];omega) (v.drop 6).length 0 FU [] Om (FU_gt (by rw[l04];omega)) Om Sm;rw[l0H,l0t,l03] at this;rw[this,bsome]
   rw[decide_eq_false hc,if_neg Dc,if_neg hc,bsome];have:=text_L1 v hp v.length 0 FU [] Om (FU_gt Om) Om Sm;rw[l0H,l0t,l03] at this;rw[this,bsome]
def fixF : Nat->Bool->Ls->Ls
 | 0,_,_=>[]
 | n+1,b,t=>if t=[] then [] else if 0<=(rune t).1 then t.take (rune t).2++fixF n false (t.drop (rune t).2) else(if b=true then [] else [239,191,189])++fixF n true (t.drop 1)
theorem fixF_more :∀(n m:Nat) (b:Bool) (l:Ls),l.length<n->l.length<m->fixF n b l=fixF m b l
 | n+1,m+1,b,l,u,E=>by
   rw[fixF,fixF];by_cases hl:l=[]
   . rw[if_pos hl,if_pos hl]
   obtain⟨J,_,K⟩:=Utf.rune_size l;have hp:=List.length_pos_iff.2 hl;rw[if_neg hl,if_neg hl,fixF_more n m false (l.drop (rune l).2) (by rw[l04];omega) (by rw[l04];omega),fixF_more n m true (l.drop 1) (by rw[l04];omega) (by rw[l04];omega)]
def fix (b:Bool)(t:Ls):Ls:=fixF (t.length+1) b t
theorem fix_nil (b:Bool):fix b []=[]:=rfl
theorem fix_ok {t:Ls}(b:Bool)(hl:t≠ [])(h:0<=(rune t).1):fix b t=t.take (rune t).2++fix false (t.drop (rune t).2):=by
 obtain⟨u,_,E⟩:=Utf.rune_size t;have hp:=List.length_pos_iff.2 hl;unfold fix;rw[fixF,if_neg hl,if_pos h,fixF_more t.length ((t.drop (rune t).2).length+1) false _ (by rw[l04];omega) Om]
theorem fix_bad {t:Ls}(b:Bool)(hl:t≠ [])(h:(rune t).1<0):fix b t=(if b=true then [] else [239,191,189])++fix true (t.drop 1):=by
 have hp:=List.length_pos_iff.2 hl;unfold fix;rw[fixF,if_neg hl,if_neg Om,fixF_more t.length ((t.drop 1).length+1) true _ (by rw[l04];omega) Om]
theorem tv_L1 (s:Ls):∀(d i m:Nat),s.length-i<=d->d<m->i<=s.length->
 ∃o,tvL1 s m i=some o/\match o with|none=>fix false (s.drop i)=s.drop i|some j=>i<=j/\j<s.length/\fix false (s.drop i)=(s.drop i).take (j-i)++fix false (s.drop j):=by
 intro d;induction d using Nat.strongRecOn with
 | ind d ih =>
   intro i m Y Z h3;obtain⟨m,rfl⟩ :∃k,m=k+1:=⟨m-1,by omega⟩
   rw[tvL1];by_cases hi:i<s.length
   . have hl:s.drop i≠ []:=by rw[Ne,l2d];omega
     obtain⟨r1,r3,N⟩:=Utf.rune_size (s.drop i);have J:=N hl;rw[l04] at J;rw[if_pos hi];have hgo :¬(((dr (s.drop i)).1:Int)=65533/\((dr (s.drop i)).2:Int)=1)->∃o,tvL1 s m (i+(dr (s.drop i)).2)=some o/\match o with|none=>fix false (s.drop i)=s.drop i|some j=>i<=j/\j<s.length/\fix false (s.drop i)=(s.drop i).take (j-i)++fix false (s.drop j):=by
      intro hok;obtain⟨K,_,O⟩:=Utf.first_ok _ hok;rw[O];obtain⟨o,ho,hm⟩:=ih (d-(rune (s.drop i)).2) Om (i+(rune (s.drop i)).2) m Om Om Om;refine⟨o,ho,?_⟩;cases o with
      | none =>
        dsimp only at hm ⊢;rw[fix_ok false hl K,l0G,hm,<-l0G,l0E]
      | some j =>
        dsimp only at hm ⊢;obtain⟨m1,U,V⟩:=hm;refine⟨by omega,U,?_⟩;rw[fix_ok false hl K,l0G,V,<-l0k];congr 1;rw[<-l0G,show j-i=(rune (s.drop i)).2+(j-(i+(rune (s.drop i)).2)) by omega,List.take_add]
     by_cases u:((dr (s.drop i)).1:Int)=(65533:Int)
     . rw[if_pos u];by_cases E:((dr (s.drop i)).2:Int)=(1:Int)
       . rw[if_pos E];exact⟨_,G,l07 _,hi,by rw[l1d];rfl⟩
       rw[if_neg E];exact hgo (fun h=>E h.2)
     rw[if_neg u];exact hgo (fun h=>u h.1)
   rw[if_neg hi];refine⟨_,G,?_⟩;dsimp only;rw[l0e Om,fix_nil]
theorem rune_big {t:Ls}(hl:t≠ [])(h:128<=Utf.nat t 0)(u:0<=(rune t).1):(rune t).2≠1:=by
 intro E;have hu:=Chs.Y6z t hl u;have hp:=List.length_pos_iff.2 hl;rw[E,Chs.take_utf8_1 hp] at hu;have hm:utf8 (rune t).1=Chs.utf8M (rune t).1:=by
  obtain⟨a,b⟩:=Chs.rune_valid t u;unfold Chs.utf8;rw[Chs.fixN_id u a b]
 rw[hm] at hu;unfold Chs.utf8M at hu;split at hu
 . rename_i hlt;have e:=(List.cons.inj hu).1;have J:=Chs.ub_nat u Om;have K:=Chs.ub_nat (a:=(Utf.nat t 0:Int)) Om (by have:=Utf.nat_lt t 0;omega);rw[e,K] at J;omega
 split at hu
 . simp at hu
 split at hu <;> simp at hu
theorem write_eq (l s:Ls)(h:l.length+s.length<=100000000):Y0l l s=some ((s.length:Int),true,l++s):=by
 unfold Y0l;rw[app_ok Om,bsome]
theorem writeB_eq (l:Ls)(c:UInt8)(h:l.length<=10000000):Y0U l c=some (true,l++[c]):=by
 unfold Y0U;rw[app_ok (by simp;omega),bsome]
theorem tv_L2 (s:Ls)(hs:s.length<=1000000):∀(d i m:Nat) (b:Bool) (acc:Ls),s.length-i<=d->d<m->i<=s.length->acc.length<=1000000+4*i->
 Y0m [239,191,189] s m acc b (i:Int)=some (acc++fix b (s.drop i)):=by
 intro d;induction d using Nat.strongRecOn with
 | ind d ih =>
   intro i m b acc Z h2 h3 h4;obtain⟨m,rfl⟩ :∃k,m=k+1:=⟨m-1,by omega⟩
   rw[Y0m];by_cases hi:i<s.length
   . have hl:s.drop i≠ []:=by rw[Ne,l2d];omega
     obtain⟨r1,r3,K⟩:=Utf.rune_size (s.drop i);have E:=K hl;rw[l04] at E;have hdi:=l0g hi;have hnat:Utf.nat (s.drop i) 0=s[i].toNat:=by rw[hdi];exact Chs.nat_head _ _
     rw[if_pos Om,idx_nat,List.getElem?_eq_getElem hi,bsome];by_cases u:s[i].toNat<128
     . have hr:=Utf.rune_ascii (l:=s.drop i) Om;rw[if_pos u,chk_succ Om,bsome,writeB_eq _ _ Om,bsome];dsimp only;rw[ih (d-1) Om (i+1) m false _ Om Om Om (by simp;omega),fix_ok b hl (by rw[hr];dsimp only;omega),hr];dsimp only;rw[l0G,l0k];congr 2;rw[hdi];rfl
     rw[if_neg u,cut_from rfl Om,bsome];unfold Y0f;rw[if_pos hl,bsome];dsimp only;by_cases h1s:((dr (s.drop i)).2:Int)=1
     . have hbad:(rune (s.drop i)).1<0:=by
        by_cases N:0<=(rune (s.drop i)).1
        . exfalso;have:=rune_big hl Om N;have hd:=Utf.rune_dr (s.drop i);rw[if_neg Om] at hd;rw[hd] at h1s;dsimp only at h1s;omega
        omega
       rw[if_pos h1s,chk_succ Om,bsome,fix_bad b hl hbad,l0G];have e:((if b=true then some (acc,true) else(Y0l acc [239,191,189]).bind fun(V,Y,J)=>some (J,true)):Option (Ls × Bool))=some (acc++(if b=true then [] else [239,191,189]),true):=by
        cases b with
        | true=>rw[if_pos rfl,if_pos rfl,l0f]
        | false=>rw[if_neg Dc,write_eq _ _ (by simp;omega),bsome];rfl
       rw[e,bsome];dsimp only;rw[ih (d-1) Om (i+1) m true _ Om Om Om (by cases b <;> simp <;> omega),l0k]
     obtain⟨O,_,U⟩:=Utf.first_ok (s.drop i) (fun h=>h1s h.2);rw[if_neg h1s,U,<-Int.natCast_add,chk_ok Om Om,bsome,cut_of rfl rfl Om Om,bsome,l2l,l1x,write_eq _ _ (by rw[l0c];omega),bsome];dsimp only;rw[bsome,ih (d-(rune (s.drop i)).2) Om (i+(rune (s.drop i)).2) m false _ Om Om Om (by rw[l05,l0c];omega),fix_ok b hl O,l0G,l0k]
   rw[if_neg Om,l0e Om,fix_nil,l0f]
theorem toValid_eq (s:Ls)(hs:s.length<=1000000):Y21 s [239,191,189]=some (fix false s):=by
 unfold Y21;rw[if_pos ⟨hs,by simp,by simp⟩];obtain⟨o,ho,hm⟩:=tv_L1 s s.length 0 FU Om (FU_gt Om) Om;rw[ho,bsome];cases o with
 | none =>
   dsimp only at hm ⊢;rw[l0t] at hm;rw[hm]
 | some j =>
   dsimp only at hm ⊢;obtain⟨E,J,u⟩:=hm;rw[l0t,l2i] at u;have:=tv_L2 (s.drop j) (by rw[l04];omega) (s.drop j).length 0 FU false (s.take j) Om (FU_gt (by rw[l04];omega)) Om (by rw[l0c];omega);rw[l0H,l0t] at this;unfold Y26;rw[this,bsome,bsome,u]
end Go.Ph.Md
end
section
namespace Go.Ph.Md
open Go.Ph.Pl Go.Ph.Pf
open Go.Ph.Chs (vld lower)
def tot (l:List Pce):Nat:=(l.map fun p=>p.2.2.2.length).sum
theorem tot_cons (p:Pce)(l:List Pce):tot (p::l)=p.2.2.2.length+tot l:=by unfold tot;rw [l0j,l2J]
theorem tot_filter (f:Pce->Bool):∀l:List Pce,tot (l.filter f)<=tot l
 | []=>l07 _
 | p::l=>by
   have:=tot_filter f l;rw[tot_cons,List.filter_cons];split
   . rw[tot_cons];omega
   omega
theorem tot_perm {a b:List Pce}(h:a.Perm b):tot a=tot b:=by
 induction h with
 | nil=>rfl
 | cons x _ ih=>rw[tot_cons,tot_cons,ih]
 | swap x y l=>rw[tot_cons,tot_cons,tot_cons,tot_cons];omega
 | trans _ _ u E=>rw[u,E]
theorem tot_txt :∀l:List Pce,(l.flatMap txt).length<=tot l
 | []=>l07 _
 | p::l=>by
   have:=tot_txt l;have:=txt_len p;rw[l0n,l05,tot_cons];omega
theorem tot_mem {l:List Pce}{p:Pce}(h:p∈l):p.2.2.2.length<=tot l:=by
 induction l with
 | nil=>cases h
 | cons q l ih =>
   rw[tot_cons];rcases List.mem_cons.1 h with rfl|h
   . omega
   have:=ih h;omega
structure Fit (l:List Pce):Prop where
 len:l.length<=4000
 tot:tot l<=4000
 ok :∀p∈l,pcOk p/\p.1.length<=4000
def smQ (p x:Pce):Bool:=decide (lower x.1=lower p.1)
def grp (l:List Pce)(p:Pce):List Pce:=l.filter (smQ p)
theorem params_1_eq {x p:Pce}(hx:x.1.length<=4000)(hp:p.1.length<=4000):Y2i x p=some (smQ p x):=by
 unfold Y2i;rw[same_eq (by unfold Big;omega) (by unfold Big;omega),bsome];rfl
theorem indexQ (l:List Pce)(hl:l.length<=4000)(f:Pce->Option Bool)(p:Pce->Bool)(hf :∀x∈l,f x=some (p x)):Y0Y l f=some (l.any p):=by
 unfold Y0Y Y27;rcases scanP (fun m i=>Y0i l f m i) l (fun i x=>if p x=true then some (.inr (i:Int)) else none) (.inl ()) (fun m=>by rw[Y0i,if_neg Om]) (fun m i h=>by
  rw[Y0i,if_pos Om,idx_nat,List.getElem?_eq_getElem h,bsome];have e:f (l[i].1,l[i].2.1,l[i].2.2.1,l[i].2.2.2)=some (p l[i]):=hf _ (l0D h);rw[e,bsome,chk_succ Om,bsome];cases p l[i] <;> rfl) l.length 0 FU Om (FU_gt Om) Om with ⟨j,hj,r,E,u,K,J⟩|⟨E,u⟩
 . rw[l0H] at J;have hp:p l[j]=true:=by
    cases h:p l[j] with
    | true=>rfl
    | false=>rw[h,if_neg Dc] at u;cases u
   rw[hp,if_pos rfl] at u;cases u;rw[J,bsome,bsome];rw[show l.any p=true from List.any_eq_true.2 ⟨_,l0D hj,hp⟩,decide_eq_true Om]
 rw[l0H] at u;rw[u,bsome,bsome];have:l.any p=false:=by
  rw[l1v];intro x hx hp;obtain⟨i,hi,rfl⟩:=l1l hx;have:=E i hi Om;rw[hp,if_pos rfl] at this;cases this
 rw[this];rfl
theorem foldl_filt {α:Type}(p:α->Bool):∀(l:List α) (o:List α),l.foldl (fun o x=>if p x=true then o++[x] else o) o=o++l.filter p
 | [],o=>by simp
 | x::l,o=>by
   rw[l1m,foldl_filt p l];by_cases h:p x=true
   . rw[if_pos h,l2n h];simp
   rw[if_neg h,l1Q h]
theorem group_eq (l:List Pce)(hl:Fit l)(p:Pce)(hp:p.1.length<=4000):Y0Z l p FU [] 0=some (grp l p):=by
 have hlen:=hl.len;rw[foldI0 (L:=fun m s i=>Y0Z l p m s i) l (fun o x=>if smQ p x=true then o++[x] else o) id (fun i s=>s.length<=i) Om ?_ ?_ [] Sm,foldl_filt]
 . rfl
 . intro m s hs;rw[Y0Z,if_neg Om];rfl
 intro m s i x hx hs;have hi:=(List.getElem?_eq_some_iff.1 hx).1;have hxo:=(hl.ok x (l0M hx)).2;refine⟨by split <;>(try rw[l05,l0F]) <;> omega,?_⟩;rw[Y0Z,if_pos Om,idx_nat,hx,bsome,show Y2i (x.1,x.2.1,x.2.2.1,x.2.2.2) (p.1,p.2.1,p.2.2.1,p.2.2.2)=some (smQ p x) from params_1_eq hxo hp,bsome];by_cases h:smQ p x=true
 . rw[if_pos h,if_pos h,app_ok (by simp;omega),bsome,chk_succ Om,bsome]
 rw[if_neg h,if_neg h,chk_succ Om,bsome]
def upF (lo:Int):Nat->List Int
 | 0=>[]
 | k+1=>lo::upF (lo+1) k
abbrev nums (l:List Pce):List Int:=l.map fun p=>p.2.1
def okG (g:List Pce):Prop:=nums (sortP g)=upF 0 g.length
instance (g : List Pce):Decidable (okG g):=by unfold okG;infer_instance
theorem sort_ex {g:List Pce}(h :∀p∈g,pcOk p)(hl:g.length<=1000000)(hne:g≠ []):Y0w g=some (sortP g):=by
 cases hs:Y0w g with
 | none =>
   unfold Y0w at hs;rw[if_pos ⟨h,hl,hne⟩] at hs;split at hs <;> cases hs
 | some r=>rw[(sort_some hs).2.2.2]
def jnV (g:List Pce):Option Ls :=
 match g with
 | []=>none
 | p::r=>if p.2.1<0 then(if r=[] then some p.2.2.2 else none) else if okG (p::r) then some (fix false ((sortP (p::r)).flatMap txt)) else none
theorem joined_L1 (l:List Pce)(hl:l.length<=4000)(ht:tot l<=4000)(u E J:Ls):∀(d i m:Nat) (acc:Ls),l.length-i<=d->d<m->i<=l.length->acc.length+tot (l.drop i)<=4000->
 ∃o,Y1p l m u E J acc (i:Int)=some o/\(nums (l.drop i)=upF (i:Int) (l.length-i)->o = .inl (u,E,J,acc++(l.drop i).flatMap txt))/\(¬nums (l.drop i)=upF (i:Int) (l.length-i)->∃x,o = .inr (x,false)):=by
 intro d;induction d with
 | zero =>
   intro i m acc N O U K;obtain⟨m,rfl⟩ :∃k,m=k+1:=⟨m-1,by omega⟩
   rw[Y1p,if_neg Om,l0e Om,show l.length-i=0 by omega];exact⟨_,G,fun _=>by rw[l1t,l0f],fun h=>absurd G h⟩
 | succ d ih =>
   intro i m acc N O U K;obtain⟨m,rfl⟩ :∃k,m=k+1:=⟨m-1,by omega⟩
   by_cases hi:i<l.length
   . have hd:=l0g hi;rw[hd,tot_cons] at K;have hx:=txt_len l[i];rw[Y1p,if_pos Om,idx_nat,List.getElem?_eq_getElem hi,bsome,hd,show l.length-i=(l.length-(i+1))+1 by omega,upF];by_cases hn:l[i].2.1=(i:Int)
     . rw[if_pos hn,show ((l[i].1,l[i].2.1,l[i].2.2.1,l[i].2.2.2):Pce)=l[i] from rfl,text_eq _ Om,bsome,cat_ok Om,bsome,chk_succ Om,bsome];obtain⟨o,ho,hq⟩:=ih (i+1) m (acc++txt l[i]) Om Om Om (by rw[l05];omega);have he:nums (l[i]::l.drop (i+1))=l[i].2.1::nums (l.drop (i+1)):=rfl;rw[he,hn,l0n,<-l0k];exact⟨o,ho,fun e=>hq.1 (List.cons.inj e).2,fun e=>hq.2 (fun e'=>e (by rw[e'];rfl))⟩
     rw[if_neg hn];exact⟨_,G,fun e=>absurd (List.cons.inj (show l[i].2.1::nums (l.drop (i+1))=_ from e)).1 hn,fun _=>⟨_,G⟩⟩
   rw[Y1p,if_neg Om,l0e Om,show l.length-i=0 by omega];exact⟨_,G,fun _=>by rw[l1t,l0f],fun h=>absurd G h⟩
theorem joined_eq (g:List Pce)(hne:g≠ [])(hg:Fit g):∃x v b,Y3R g=some ((x,v),b)/\jnV g=if b=true then some v else none:=by
 obtain⟨p,r,rfl⟩ :∃p r,g=p::r:=by cases g with|nil=>exact absurd rfl hne|cons p r=>exact⟨p,r,rfl⟩
 have hok :∀q∈p::r,pcOk q:=fun q hq=>(hg.ok q hq).1
 have hp:=sortP_perm hok;have hl:=hg.len;have ht:=hg.tot;unfold Y3R jnV;rw[show idx (p::r) 0=some p from rfl,bsome,bsome,bsome];dsimp only;by_cases u:p.2.1<0
 . rw[if_pos u,if_pos u];refine⟨_,_,_,G,?_⟩;by_cases hr:r=[]
   . subst hr;rfl
   rw[if_neg hr,decide_eq_false (by have:=List.length_pos_iff.2 hr;simp;omega),if_neg Dc]
 rw[if_neg u,if_neg u,sort_ex hok Om Sm,bsome];obtain⟨o,ho,hq⟩:=joined_L1 (sortP (p::r)) (by rw[hp.length_eq];exact hl) (by rw[tot_perm hp];exact ht) [] [] p.1 (sortP (p::r)).length 0 FU [] Om (FU_gt (by rw[hp.length_eq];omega)) Om (by rw[l0t,tot_perm hp,l0a];omega);rw[l0H,l0t,l2i,l03,hp.length_eq] at hq;rw[l0H] at ho;rw[ho,bsome];have hx:=tot_txt (sortP (p::r));rw[tot_perm hp] at hx;by_cases hk:okG (p::r)
 . rw[if_pos hk];have hq:=hq.1 hk;subst hq;dsimp only;rw[toValid_eq _ Om,bsome];exact⟨_,_,_,G,by rw[if_pos G]⟩
 rw[if_neg hk];obtain⟨⟨x,y⟩,rfl⟩:=hq.2 hk;exact⟨_,_,_,G,by rw[if_neg Dc]⟩
def parI (l:List Pce)(pre:List Pce):List Pce->Option (List Par)
 | []=>some []
 | p::r=>if pre.any (smQ p)=true then parI l (pre++[p]) r else(jnV (grp l p)).bind fun v=>(parI l (pre++[p]) r).map fun q=>(p.1,v)::q
theorem grp_fit {l:List Pce}(h:Fit l)(p:Pce):Fit (grp l p):=by
 refine⟨l0V (List.length_filter_le _ _) h.len,l0V (tot_filter _ _) h.tot,fun q hq=>h.ok q (List.mem_filter.1 hq).1⟩
theorem grp_mem {l:List Pce}{p:Pce}(h:p∈l):p∈grp l p:=List.mem_filter.2 ⟨h,by unfold smQ;exact decide_eq_true rfl⟩
theorem params_L1 (l:List Pce)(hl:Fit l):∀(d i m:Nat) (out:List Par),l.length-i<=d->d<m->i<=l.length->out.length<=i->
 Y10 l m out (i:Int)=some (match parI l (l.take i) (l.drop i) with|some q => .inl (out++q)|none => .inr ([],false)):=by
 have hlen:=hl.len;intro d;induction d with
 | zero =>
   intro i m out u E J K;obtain⟨m,rfl⟩ :∃k,m=k+1:=⟨m-1,by omega⟩
   rw[Y10,if_neg Om,l0e Om,parI];dsimp only;rw[l0f]
 | succ d ih =>
   intro i m out u E J K;obtain⟨m,rfl⟩ :∃k,m=k+1:=⟨m-1,by omega⟩
   by_cases hi:i<l.length
   . have hmem:=l0D hi;have hpo:=(hl.ok _ hmem).2;rw[Y10,if_pos Om,idx_nat,List.getElem?_eq_getElem hi,bsome,cut_to rfl Om,bsome,l0g hi,parI,<-take_drop_cons hi,
      indexQ (l.take i) (by rw[l0c];omega) _ (smQ l[i]) (fun x hx=>params_1_eq (hl.ok x (l2y hx)).2 hpo),bsome]
     by_cases ha:(l.take i).any (smQ l[i])=true
     . rw[if_pos ha,if_pos ha,chk_succ Om,bsome,ih (i+1) m out Om Om Om Om]
     rw[if_neg ha,if_neg ha,group_eq l hl _ hpo,bsome];obtain⟨x,v,b,hj,hv⟩:=joined_eq (grp l l[i]) (List.ne_nil_of_mem (grp_mem hmem)) (grp_fit hl _);rw[hj,bsome,hv];dsimp only;cases b with
     | false=>rfl
     | true =>
       rw[if_pos rfl,if_pos rfl,app_ok (by simp;omega),bsome,chk_succ Om,bsome,ih (i+1) m _ Om Om Om (by simp;omega),bsome];cases parI l (l.take (i+1)) (l.drop (i+1)) with
       | none=>rfl
       | some q=>simp
   rw[Y10,if_neg Om,l0e Om,parI];dsimp only;rw[l0f]
theorem params_eq (l:List Pce)(hl:Fit l):Y3S l=some (match parI l [] l with|some q=>(q,true)|none=>([],false)):=by
 have hlen:=hl.len;unfold Y3S;have:=params_L1 l hl l.length 0 FU [] Om (FU_gt Om) Om Sm;rw[l0H,l0t,l1Y] at this;rw[this,bsome];cases parI l [] l with
 | none=>rfl
 | some q=>rfl
end Go.Ph.Md
end
section
namespace Go.Ph.Md
open Go.Ph.Pl Go.Ph.Pf
open Go.Ph.Chs (vld lower)
theorem tw_dw (p:UInt8->Bool)(l:Ls):(l.takeWhile p).length+(l.dropWhile p).length=l.length:=by
 have:=tw_len p l;rw[<-tw_drop,l04];omega
theorem qv_sum :∀(n:Nat) (t:Ls) (v r:Ls),t.length<=n->qv t=some (v,r)->v.length+r.length<t.length
 | n,[],v,r,hn,h=>by cases h
 | 0,c::t,v,r,hn,h=>by simp at hn
 | n + 1,c::t,v,r,hn,h=>by
   rw[qv_cons] at h;rw[l01] at hn ⊢;by_cases J:c=34
   . rw[if_pos J] at h;cases h;simp
   rw[if_neg J] at h;by_cases K:c=92
   . rw[if_pos K] at h;cases t with
     | nil=>cases h
     | cons d t =>
       obtain⟨⟨v',r'⟩,E,u⟩:=Option.map_eq_some_iff.1 h;dsimp only at u;cases u;have:=qv_sum n t v' _ (by rw[l01] at hn;omega) E;rw[l01,l01];omega
   rw[if_neg K] at h;obtain⟨⟨v',r'⟩,E,u⟩:=Option.map_eq_some_iff.1 h;dsimp only at u;cases u;have:=qv_sum n t v' _ Om E;rw[l01];omega
theorem vl_sum {t v r:Ls}(h:vl t=some (v,r)):v.length+r.length<=t.length:=by
 unfold vl at h;cases hs:sgn 34 t with
 | some q =>
   rw[hs] at h;have u:=sgn_len hs;have E:=qv_sum _ _ _ _ (l07 _) h;omega
 | none =>
   rw[hs] at h;cases h;have u:=tl_len t;have E:=tw_dw (pN [37,39,42]) (tl t);omega
theorem rdP_sum {num:Ls->Option Int}{t r:Ls}{p:Pce}(h:rdP num t=some (p,r)):p.2.2.2.length+r.length<t.length:=by
 unfold rdP at h;obtain⟨O,J,h⟩:=bnd h;obtain⟨⟨v,r'⟩,K,h⟩:=bnd h;obtain⟨p',N,u⟩:=Option.map_eq_some_iff.1 h;dsimp only at u;cases u;have U:=sgn_len J;have V:=dw_len (pN [42]) (tl t);have Y:=tl_len t;have Z:=vl_sum K;obtain⟨b1,E,b3,b4⟩:=mkP_some N;dsimp only at E;rw[E];omega
def numOk (num:Ls->Option Int):Prop :=∀s n,num s=some n->0<=n/\n<=1099511627776
theorem numP_ok : numOk numP:=fun s n h=>by
 unfold numP at h;split at h
 . rename_i hc;cases h;exact⟨hc.2.2.1,hc.2.2.2⟩
 cases h
theorem pcs_fit {num:Ls->Option Int}(hn:numOk num):∀(m:Nat) (t:Ls) (q:List Pce) (r:Ls),pcs num m t=some (q,r)->tl r=r/\q.length+r.length<=t.length/\tot q+r.length<=t.length/\∀p∈q,pcOk p/\p.1.length<=t.length
 | 0,t,q,r,h=>by cases h
 | m + 1,t,q,r,h=>by
   rw[pcs] at h;cases hs:sgn 59 t with
   | none =>
     rw[hs] at h;cases h;have:=tl_len t;exact⟨tl_tl t,by simpa using this,by unfold tot;simpa using this,fun p hp=>by cases hp⟩
   | some V =>
     rw[hs] at h;dsimp only at h;have Y:=sgn_len hs;obtain⟨⟨p,N⟩,E,h⟩:=bnd h;obtain⟨⟨q',r'⟩,J,K⟩:=Option.map_eq_some_iff.1 h;dsimp only at J K;cases K;have Z:=rdP_sum E;obtain⟨k1,k2,k3,k4,u⟩:=rdP_some E;obtain⟨O,i2,i3,U⟩:=pcs_fit hn m N q' _ J;refine⟨O,by rw[l01];omega,by rw[tot_cons];omega,fun x hx=>?_⟩;rcases List.mem_cons.1 hx with rfl|hx
     . refine⟨?_,by omega⟩;unfold pcOk;rcases u with u|⟨s,u⟩
       . omega
       have:=hn s _ u;omega
     have:=U x hx;exact⟨this.1,by omega⟩
theorem fit_of {num:Ls->Option Int}(hn:numOk num){m:Nat}{t:Ls}{q:List Pce}{r:Ls}(h:pcs num m t=some (q,r))(ht:t.length<=4000):Fit q:=by
 obtain⟨a,b,c,d⟩:=pcs_fit hn m t q r h;exact⟨by omega,by omega,fun p hp=>⟨(d p hp).1,by have:=(d p hp).2;omega⟩⟩
def readM (num:Ls->Option Int)(t:Ls):Option Med :=
 (sgn 47 ((tl t).dropWhile tkB)).bind fun u=>if (tl t).takeWhile tkB=[]∨(tl u).takeWhile tkB=[] then none else
  (pcs num FU ((tl u).dropWhile tkB)).bind fun q=>if q.2=[] then(parI q.1 [] q.1).map fun ps=>((tl t).takeWhile tkB,(tl u).takeWhile tkB,ps) else none
theorem parse_eq (t:Ls)(ht:t.length<=4000):∃m b,Y47 t=some (m,b)/\readM numP t=if b=true then some m else none:=by
 unfold Y47 readM;have K:=tl_len t;have N:=dw_len tkB (tl t);rw[take_eq t (by unfold Big;omega) _ _ tokenByte_eq,bsome];dsimp only;rw[sign_eq _ (by unfold Big;omega)];cases hs:sgn 47 ((tl t).dropWhile tkB) with
 | none =>
   dsimp only;have J:=tl_len ((tl t).dropWhile tkB);rw[bsome];dsimp only;rw[take_eq _ (by unfold Big;omega) _ _ tokenByte_eq,bsome];dsimp only;have e :∀c:Bool,(if (tl t).takeWhile tkB=[] then some true else(if false=true then some c else some true))=some true:=fun c=>by split <;> rfl
   rw[e,bsome,if_pos rfl];exact⟨_,_,G,G⟩
 | some u =>
   have J:=sgn_len hs;have O:=tl_len u;have U:=dw_len tkB (tl u);dsimp only;rw[bsome];dsimp only;rw[take_eq u (by unfold Big;omega) _ _ tokenByte_eq,bsome,bsome];dsimp only;by_cases he:(tl t).takeWhile tkB=[]∨(tl u).takeWhile tkB=[]
   . have e:(if (tl t).takeWhile tkB=[] then some true else(if true=true then some (decide ((tl u).takeWhile tkB=[])) else some true))=some true:=by
      rcases he with h|h
      . rw[if_pos h]
      rw[decide_eq_true h];split <;> rfl
     rw[e,bsome,if_pos rfl,if_pos he];exact⟨_,_,G,G⟩
   have e:(if (tl t).takeWhile tkB=[] then some true else(if true=true then some (decide ((tl u).takeWhile tkB=[])) else some true))=some false:=by
    rw[if_neg (fun h=>he (.inl h)),if_pos rfl,decide_eq_false (fun h=>he (.inr h))]
   rw[e,bsome,if_neg l00,if_neg he,parse_L1 _ _ [] [] [] 4000 FU _ [] Om (FU_gt Om) (by simp;omega)];cases hp:pcs numP FU ((tl u).dropWhile tkB) with
   | none=>exact⟨_,_,rfl,rfl⟩
   | some q =>
     obtain⟨q,r⟩:=q;have hf:=fit_of numP_ok hp Om;obtain⟨hr,hrl,_⟩:=pcs_fit numP_ok _ _ _ _ hp;dsimp only;rw[bsome,bsome];dsimp only;rw[blanks_eq r (by unfold Big;omega),bsome,l03,params_eq q hf,hr,bsome];cases hj:parI q [] q with
     | none =>
       refine⟨_,_,G,?_⟩;split <;> rfl
     | some ps =>
       refine⟨_,_,G,?_⟩;dsimp only;by_cases E:r=[]
       . rw[if_pos E,decide_eq_true E];rfl
       rw[if_neg E,decide_eq_false E];rfl
theorem fix_len :∀(n:Nat) (t:Ls) (b:Bool),t.length<=n->(fix b t).length<=4*t.length
 | n,[],b,_=>l07 _
 | 0,c::t,b,h=>by simp at h
 | n + 1,c::t,b,h=>by
   have hl:(c::t)≠ []:=by simp
   obtain⟨K,_,u⟩:=Utf.rune_size (c::t);have J:=u hl;by_cases E:0<=(Utf.rune (c::t)).1
   . have:=fix_len n ((c::t).drop (Utf.rune (c::t)).2) false (by rw[l04];omega);rw[l04] at this;rw[fix_ok b hl E,l05,l0c];omega
   have:=fix_len n ((c::t).drop 1) true (by rw[l04];omega);rw[l04] at this;rw[fix_bad b hl Om,l05];have hh:(if b=true then [] else [239,191,189]:Ls).length<=3:=by split <;> simp
   rw[l01] at *;omega
theorem jnV_len {g:List Pce}(hg:Fit g){v:Ls}(h:jnV g=some v):v.length<=16000:=by
 cases g with
 | nil=>cases h
 | cons p r =>
   unfold jnV at h;dsimp only at h;split at h
   . split at h
     . cases h;have:=tot_mem (l:=p::r) l0q;have:=hg.tot;omega
     cases h
   split at h
   . cases h;have hok :∀q∈p::r,pcOk q:=fun q hq=>(hg.ok q hq).1
     have u:=tot_txt (sortP (p::r));rw[tot_perm (sortP_perm hok)] at u;have E:=hg.tot;have J:=fix_len _ ((sortP (p::r)).flatMap txt) false (l07 _);omega
   cases h
theorem parI_big {l:List Pce}(hl:Fit l):∀(r pre:List Pce) (q:List Par),(∀p∈r,p∈l)->parI l pre r=some q->q.length<=r.length/\BigP q
 | [],pre,q,_,h=>by cases h;exact ⟨l07 _,fun x hx=>by cases hx⟩
 | p :: r,pre,q,hm,h=>by
   have hm' :∀x∈r,x∈l:=fun x hx=>hm x (l0u _ hx)
   rw[parI] at h;split at h
   . have:=parI_big hl r _ q hm' h;exact⟨by rw[l01];omega,this.2⟩
   obtain⟨v,u,h⟩:=bnd h;obtain⟨q',E,J⟩:=Option.map_eq_some_iff.1 h;cases J;have:=parI_big hl r _ q' hm' E;refine⟨by rw[l01,l01];omega,fun x hx=>?_⟩;rcases List.mem_cons.1 hx with rfl|hx
   . have K:=jnV_len (grp_fit hl p) u;have N:=(hl.ok p (hm p l0q)).2;exact⟨by unfold Big;dsimp only;omega,by unfold Big;dsimp only;omega⟩
   exact this.2 x hx
theorem readM_big {t:Ls}(ht:t.length<=4000){m:Med}(h:readM numP t=some m):BigM m/\m.2.2.length<=4000:=by
 unfold readM at h;obtain⟨u,E,h⟩:=bnd h;split at h
 . cases h
 obtain⟨q,J,h⟩:=bnd h;split at h
 . obtain⟨ps,K,N⟩:=Option.map_eq_some_iff.1 h;cases N;have O:=tl_len t;have U:=dw_len tkB (tl t);have V:=sgn_len E;have Y:=tl_len u;have Z:=dw_len tkB (tl u);have a6:=tw_len tkB (tl t);have a7:=tw_len tkB (tl u);have hf:=fit_of numP_ok (q:=q.1) (r:=q.2) J Om;have hP:=parI_big hf q.1 [] ps (fun p hp=>hp) K;have:=hf.len;exact⟨⟨by unfold Big;dsimp only;omega,by unfold Big;dsimp only;omega,hP.2⟩,by dsimp only;omega⟩
 cases h
def prsR (t:Ls):Med × (Int × Int) :=
 if 4000<t.length then(([],[],[]),(1,-1)) else match readM numP t with
  | none=>(([],[],[]),(11,-5))
  | some m=>if (valM m).1=0 then(m,(0,0)) else(([],[],[]),((valM m).1,-6))
theorem Parse_eq (t:Ls):Y48 t=some (prsR t):=by
 unfold Y48 prsR;by_cases h:4000<t.length
 . rw[if_pos Om,if_pos h,fault_eq,bsome]
 rw[if_neg Om,if_neg h];obtain⟨m,b,hp,hr⟩:=parse_eq t Om;rw[hp,bsome,hr];dsimp only;cases b with
 | false=>rw[if_neg l00,fault_eq,bsome];rfl
 | true =>
   rw[if_pos rfl] at hr;have hb:=(readM_big Om hr).1;rw[if_pos rfl,show (m.1,m.2.1,m.2.2)=m from rfl,validate_eq m hb,bsome];rw[failed_eq,bsome];obtain⟨⟨x,y⟩,hv⟩ :∃p,valM m=p:=⟨_,rfl⟩
   rw[hv];dsimp only;rw[if_pos rfl];dsimp only;by_cases hx:x=0
   . rw[decide_eq_true hx,if_neg (show ¬(!true)=true by decide),none_eq,bsome,hv,if_pos hx]
   rw[decide_eq_false hx,if_pos (show(!false)=true by decide),fault_eq,bsome,hv,if_neg hx]
end Go.Ph.Md
end
section
namespace Go.Ph.Md
open Go.Ph.Pl Go.Ph.Pf
open Go.Ph.Chs (vld lower)
structure PV (x:Par):Prop where
 tok:tkT x.1=true
 len:x.2.length<=500
 val:vld x.2=true
theorem PV.all {x:Par}(h:PV x):x.1.all tkB=true:=List.all_eq_true.2 (tkT_all h.tok)
end Go.Ph.Md
end
end
section
namespace Go.Ph.Pt
open Go.Ph.Pl Go.Ph.Pf
open Go.Ph.Chs (lowB lower)
open Go.Ph.Hd (valR readR headB fieldB)
open Go.Ph.Md (prsR parR valM printR mediaT prB)
abbrev Bt : Type:=Ls
abbrev Fld : Type:=Ls × Ls
abbrev Med : Type:=Ls × Ls × List Fld
abbrev Big (l:Ls):Prop:=l.length<=140737488355328
abbrev BigF (l:List Fld):Prop :=∀x∈l,Big x.1/\Big x.2
abbrev BigM (m:Med):Prop:=Big m.1/\Big m.2.1/\BigF m.2.2
theorem same_eq {a b:Bt}(ha:Big a)(hb:Big b):Y0N a b=some (decide (lower a=lower b)):=Go.Ph.Sg.same_eq ha hb
theorem failed_eq (a b:Int):Y08 (a,b)=some (!decide (a=0)):=rfl
theorem fault_eq (a b:Int):Y03 a b=some (a,b):=by unfold Y03;rfl
theorem none_eq : Y0e=some (0,0):=rfl
abbrev nCT : Bt:=[67,111,110,116,101,110,116,45,84,121,112,101]
abbrev nMP : Bt:=[109,117,108,116,105,112,97,114,116]
abbrev nBD : Bt:=[98,111,117,110,100,97,114,121]
theorem bigL {l:Bt}(h:l.length<=1000000):Big l:=l0V h Dc
def tyI : List Fld->Nat->Option Nat->Option (Option Nat)
 | [],_,a=>some a
 | x::l,i,a=>if lower x.1=lower nCT then(if a.isSome=true then none else tyI l (i+1) (some i)) else tyI l (i+1) a
def enc : Option Nat->Int
 | none => -1
 | some k=>(k:Int)
theorem enc_pos (a:Option Nat):(0<=enc a)↔a.isSome=true:=by
 cases a with
 | none=>simp [enc]
 | some k=>simp [enc]
theorem ty_L1 (l:List Fld)(hl:l.length<=1000000)(hb:BigF l)(J u:Bt)(E:List Fld):∀(d i m:Nat) (a:Option Nat),l.length-i<=d->d<m->i<=l.length->
 Y1Q l m J u E (enc a) (i:Int)=some (match tyI (l.drop i) i a with|none => .inr (([],[],[]),0,false)|some b => .inl (J,u,E,enc b))
 | d,i,0,a,K,N,O=>by omega
 | d,i,m+1,a,K,N,O=>by
   by_cases hi:i<l.length
   . obtain⟨d,rfl⟩ :∃k,d=k+1:=⟨d-1,by omega⟩
     have hx:=hb l[i] (l0D hi);rw[drop_cons hi,Y1Q,if_pos Om,idx_nat,List.getElem?_eq_getElem hi,bsome,same_eq hx.1 Dc,bsome,tyI,chk_succ Om];by_cases hs:lower l[i].1=lower nCT
     . rw[decide_eq_true hs,if_pos rfl,if_pos hs];by_cases ha:a.isSome=true
       . rw[if_pos ((enc_pos a).2 ha),if_pos ha]
       rw[if_neg (fun h=>ha ((enc_pos a).1 h)),if_neg ha,bsome];exact ty_L1 l hl hb J u E d (i+1) m (some i) Om Om Om
     rw[decide_eq_false hs,if_neg l00,if_neg hs,bsome];exact ty_L1 l hl hb J u E d (i+1) m a Om Om Om
   obtain rfl:i=l.length:=by omega
   rw[Y1Q,if_neg Om,l0B,tyI]
theorem tyI_at :∀{l:List Fld} {i:Nat} {a:Option Nat} {k:Nat},tyI l i a=some (some k)->a=some k∨(i<=k/\∃x,l[k-i]? = some x/\lower x.1=lower nCT)
 | [],i,a,k,h=>by rw[tyI] at h;exact .inl (oI h)
 | x :: l,i,a,k,h=>by
   rw[tyI] at h;split at h
   . rename_i hx;split at h
     . cases h
     rcases tyI_at h with u|⟨u,y,E,J⟩
     . cases u;exact .inr ⟨l07 _,x,by rw[l1d];rfl,hx⟩
     exact .inr ⟨by omega,y,by rw[show k-i=(k-(i+1))+1 by omega,List.getElem?_cons_succ];exact E,J⟩
   rcases tyI_at h with u|⟨u,y,E,J⟩
   . exact .inl u
   exact .inr ⟨by omega,y,by rw[show k-i=(k-(i+1))+1 by omega,List.getElem?_cons_succ];exact E,J⟩
def typ0 : Med × Int × Bool:=(([],[],[]),0,false)
def typR (l:List Fld):Med × Int × Bool:=match tyI l 0 none with
 | some (some k)=>(match l[k]? with|some x=>((prsR x.2).1,(k:Int),decide ((prsR x.2).2.1=0))|none=>typ0)
 | _=>typ0
theorem type_eq (l:List Fld)(hl:l.length<=1000000)(hb:BigF l):Y3q l=some (typR l):=by
 unfold Y3q typR;have h:=ty_L1 l hl hb [] [] [] l.length 0 FU none Om (FU_gt Om) Om;rw[l0t] at h;rw[show ((0:Nat):Int)=0 from rfl,show enc none = -1 from rfl] at h;rw[h,bsome];cases hc:tyI l 0 none with
 | none=>rfl
 | some b =>
   cases b with
   | none=>dsimp only[enc];rw [if_pos Dc];rfl
   | some k =>
     dsimp only[enc];rcases tyI_at hc with u|⟨_,x,hx,hn⟩
     . cases u
     rw[l2i] at hx;rw[if_neg Om,idx_nat,hx,bsome,Go.Ph.Md.Parse_eq,bsome,failed_eq,bsome];simp
theorem prs_ok {t:Bt}(h:(prsR t).2.1=0):(valM (prsR t).1).1=0/\t.length<=4000:=by
 unfold prsR at h ⊢;split at h
 . cases h
 rename_i hl;rw[if_neg hl];cases hr:Go.Ph.Md.readM Go.Ph.Md.numP t with
 | none=>rw[hr] at h;cases h
 | some m =>
   rw[hr] at h;dsimp only at h ⊢;by_cases hv:(valM m).1=0
   . rw[if_pos hv];exact ⟨hv,by omega⟩
   rw[if_neg hv] at h;exact absurd h hv
theorem prs_no {t:Bt}(h:(prsR t).2.1≠0):(prsR t).1=([],[],[]):=by
 unfold prsR at h ⊢;split
 . rfl
 rename_i hl;rw[if_neg hl] at h;cases hr:Go.Ph.Md.readM Go.Ph.Md.numP t with
 | none=>rfl
 | some m =>
   rw[hr] at h;dsimp only at h ⊢;by_cases hv:(valM m).1=0
   . rw[if_pos hv] at h;exact absurd rfl h
   rw[if_neg hv]
theorem val_big {m:Med}(h:(valM m).1=0):BigM m/\m.2.2.length<=60:=by
 obtain⟨E,J,K,_,_⟩:=Go.Ph.Md.valM_zero h;have u:=Go.Ph.Md.valid_all h;have N:=Go.Ph.Md.tkT_len E;have O:=Go.Ph.Md.tkT_len J;exact⟨⟨bigL Om,bigL Om,fun x hx=>⟨bigL (by have:=(u x hx).2.1;omega),bigL (by have:=(u x hx).2.2.1;omega)⟩⟩,K⟩
theorem prs_big (t:Bt):BigM (prsR t).1/\(prsR t).1.2.2.length<=60:=by
 by_cases h:(prsR t).2.1=0
 . exact val_big (prs_ok h).1
 rw[prs_no h];exact ⟨⟨by decide,by decide,fun x hx=>by cases hx⟩,by decide⟩
theorem typ_big (l:List Fld):BigM (typR l).1/\(typR l).1.2.2.length<=60:=by
 have u:BigM typ0.1/\typ0.1.2.2.length<=60:=⟨⟨by decide,by decide,fun x hx=>by cases hx⟩,by decide⟩
 unfold typR;split
 . split
   . exact prs_big _
   exact u
 exact u
theorem typ_ok {l:List Fld}(h:(typR l).2.2=true):∃(k:Nat) (x:Fld),tyI l 0 none=some (some k)/\l[k]? = some x/\(prsR x.2).2.1=0/\typR l=((prsR x.2).1,(k:Int),true):=by
 have hu:typR l=match tyI l 0 none with
  | some (some k)=>(match l[k]? with|some x=>((prsR x.2).1,(k:Int),decide ((prsR x.2).2.1=0))|none=>typ0)
  | _=>typ0:=rfl
 cases hc:tyI l 0 none with
 | none=>rw[hc] at hu;rw [hu] at h;cases h
 | some b =>
   cases b with
   | none=>rw[hc] at hu;rw [hu] at h;cases h
   | some k =>
     rw[hc] at hu;dsimp only at hu;cases hx:l[k]? with
     | none=>rw[hx] at hu;dsimp only at hu;rw [hu] at h;cases h
     | some x =>
       rw[hx] at hu;dsimp only at hu;rw[hu] at h;have u:(prsR x.2).2.1=0:=of_decide_eq_true h;exact⟨k,x,G,hx,u,by rw[hu,decide_eq_true u]⟩
def prmR (m:Med)(n:Bt):Bt × Bool × (Int × Int):=if (valM m).1=0 then((parR m n).1,(parR m n).2,(0,0)) else([],false,valM m)
theorem prm_eq (m:Med)(n:Bt)(hb:BigM m)(hn:Big n):Y3F m n=some (prmR m n):=by
 unfold Y3F prmR;rw[show (m.1,m.2.1,m.2.2)=m from rfl,Go.Ph.Md.validate_eq m hb,bsome];by_cases h:(valM m).1=0
 . obtain⟨_,_,E,_,u⟩:=Go.Ph.Md.valM_zero h;rw[if_pos h,u];dsimp only;rw[failed_eq,bsome,if_neg Dc];have hL:=Go.Ph.Md.parL m.2.2 n (fun i=>Y1U m n i 0 0) (fun x=>(.inr (x.2,true,(0,0)):(Int × Int) ⊕ (Bt × Bool × (Int × Int)))) (.inl (0,0)) Om (fun k=>by rw[Y1U,if_neg Om]) (fun k i hi=>by
    have hx:=hb.2.2 m.2.2[i] (l0D hi);rw[Y1U,if_pos Om,idx_nat,List.getElem?_eq_getElem hi,bsome,same_eq hx.1 hn,bsome,chk_succ Om];by_cases hs:lower m.2.2[i].1=lower n
    . rw[decide_eq_true hs,if_pos rfl,if_pos hs,none_eq,bsome]
    rw[decide_eq_false hs,if_neg l00,if_neg hs,bsome])
   rw[hL,bsome];unfold parR;cases hf:m.2.2.find? (fun x=>decide (lower x.1=lower n)) with
   | none=>rfl
   | some x=>rfl
 rw[if_neg h];generalize valM m=q at h ⊢;obtain⟨a,b⟩:=q;dsimp only at h ⊢;rw[failed_eq,bsome,decide_eq_false h,if_pos Dc]
theorem par_len {m:Med}(h:(valM m).1=0)(n:Bt):(parR m n).1.length<=500:=by
 unfold parR;cases hf:m.2.2.find? (fun x=>decide (lower x.1=lower n)) with
 | none=>exact l0o _
 | some x=>exact(Go.Ph.Md.valid_all h x (List.mem_of_find?_eq_some hf)).2.2.1
theorem prm_len (m:Med)(n:Bt):(prmR m n).1.length<=500:=by
 unfold prmR;split
 . exact par_len (by assumption) n
 exact l0o _
def sfx32 (b:Bt):Bool:=decide (b.getLast? = some 32)
theorem sfx_eq (b:Bt)(hb:Big b):Y1h b [32]=some (sfx32 b):=by
 unfold Y1h Y0h sfx32;rcases l2u b with rfl|⟨a,c,rfl⟩
 . rfl
 rw[List.concat_eq_append] at hb ⊢;have u:((([32]:Bt).length:Int)<=((a++[c]).length:Int)):=by simp only[l05,l01,l0a];omega
 have E:chk (((a++[c]).length:Int)-(([32]:Bt).length:Int))=some (a.length:Int):=by
  unfold Big at hb;simp only[l05,l01,l0a,l0r] at hb ⊢;rw[show ((a.length+1:Nat):Int)-((1:Nat):Int)=(a.length:Int) by omega];exact chk_ok Om Om
 have J:cut (a++[c]) (a.length:Int) ((a++[c]).length:Int)=some [c]:=by
  rw[cut_from (a:=a.length) rfl Sm];simp
 rw[if_pos u,E,bsome,J,bsome,bsome,bsome,List.getLast?_append,List.getLast?_singleton,Option.some_or];simp
def good (b:Bt):Bool:=decide (b≠ [])&&(decide (b.length<=60)&&(b.all prB && !sfx32 b))
theorem pr_eq (c:UInt8):Y2F c=some (prB c):=Go.Ph.Md.pr_eq c
def bdR (l:List Fld):Bt × Bool:=if (typR l).2.2=true/\lower (typR l).1.1=lower nMP then((prmR (typR l).1 nBD).1,(prmR (typR l).1 nBD).2.1&&good (prmR (typR l).1 nBD).1) else([],false)
theorem good_eq (b:Bt)(hb:Big b):(if b=[] then some false else(if (b.length:Int)<=(60:Int) then(Y2S b Y2F).bind fun u=>(if u=true then(Y1h b [32]).bind fun E=>some (!E) else some false) else some false))=some (good b):=by
 unfold good;by_cases h:b=[]
 . rw[if_pos h,decide_eq_false (by simp [h])];rfl
 rw[if_neg h,decide_eq_true (p:=b≠ []) h,l2f];by_cases J:b.length<=60
 . rw[if_pos Om,decide_eq_true J,l2f,Go.Ph.Md.all_eq b hb _ _ pr_eq,bsome];cases K:b.all prB with
   | true=>rw[if_pos rfl,sfx_eq b hb,bsome,l2f]
   | false=>rw[if_neg l00];rfl
 rw[if_neg Om,decide_eq_false J];rfl
theorem bd_eq (l:List Fld)(hl:l.length<=1000000)(hb:BigF l):Y39 l=some (bdR l):=by
 have hm:=(typ_big l).1;unfold Y39 bdR;rw[type_eq l hl hb,bsome];generalize typR l=t at hm ⊢;obtain⟨⟨u,E,l3⟩,V,N⟩:=t;dsimp only at hm ⊢;cases N with
 | false=>rw[if_neg l00,bsome,if_pos rfl,if_neg (fun h=>l00 h.1)]
 | true =>
   rw[if_pos rfl,same_eq hm.1 Dc,bsome,bsome];by_cases h:lower u=lower nMP
   . rw[decide_eq_true h,if_neg Dc,if_pos ⟨rfl,h⟩,prm_eq _ _ hm Dc,bsome];have hl:=prm_len (u,E,l3) nBD;generalize prmR (u,E,l3) nBD=q at hl ⊢;obtain⟨J,K,O,U⟩:=q;dsimp only at hl ⊢;rw[good_eq J (bigL Om),bsome];cases K <;> rfl
   rw[decide_eq_false h,if_pos Dc,if_neg (fun h'=>h h'.2)]
theorem bd_len (l:List Fld):(bdR l).1.length<=500:=by
 unfold bdR;split
 . exact prm_len _ _
 exact l0o _
end Go.Ph.Pt
end
section
namespace Go.Ph.Pt
open Go.Ph.Pl Go.Ph.Pf
open Go.Ph.Chs (lowB lower)
open Go.Ph.Qp (trimR)
def crP : Bt->Nat
 | []=>0
 | a::t=>match t with
   | []=>1
   | b::_=>if a=13/\b=10 then 0 else crP t+1
theorem crP_nil : crP []=0:=rfl
theorem crP_one (a:UInt8):crP [a]=1:=rfl
theorem crP_two (a b:UInt8)(t:Bt):crP (a::b::t)=if a=13/\b=10 then 0 else crP (b::t)+1:=rfl
theorem crP_le :∀t:Bt,crP t<=t.length/\(crP t<t.length->crP t+2<=t.length/\t.drop (crP t)=13::10::t.drop (crP t+2))
 | []=>⟨l07 _,fun h=>absurd h (Nat.lt_irrefl _)⟩
 | [a]=>⟨by rw[crP_one];simp,fun h=>by rw[crP_one] at h;simp at h⟩
 | a :: b::t=>by
   rw[crP_two];split
   . rename_i h;obtain⟨rfl,rfl⟩:=h;exact⟨l0o _,fun _=>⟨by simp,by simp⟩⟩
   have:=crP_le (b::t);rw[l01];refine⟨by omega,fun h=>⟨by have:=this.2 Om;omega,?_⟩⟩;rw[l0Y,(this.2 Om).2];rfl
theorem crP_no :∀t:Bt,∀j<crP t,¬(t.drop j).take 2=[13,10]
 | [],j,h=>by rw[crP_nil] at h;omega
 | [a],j,h=>by
   rw[crP_one] at h;obtain rfl:j=0:=by omega
   simp
 | a::b::t,j,h=>by
   rw[crP_two] at h;split at h
   . omega
   rename_i hn;cases j with
   | zero=>simp;exact fun u E=>hn ⟨u,E⟩
   | succ j=>rw[l0Y];exact crP_no (b::t) j Om
theorem pre_no {a b:UInt8}{t:Bt}(h :¬t.take 2=[a,b]):([a,b]:Bt).isPrefixOf t=false:=by
 rw[Bool.eq_false_iff];intro u;rw[List.isPrefixOf_iff_prefix,List.prefix_iff_eq_take] at u;exact h u.symm
theorem index_cr (t:Bt):Lib.index t [13,10]=if crP t<t.length then(crP t:Int) else -1:=by
 have J:=crP_le t;have u:=crP_no t;split
 . rename_i h;obtain⟨N,K⟩:=J.2 h;refine Lib.index_first Om ?_ (fun j hj=>?_)
   . unfold Lib.occAt;rw[K];rfl
   unfold Lib.occAt;exact pre_no (u j hj)
 rename_i h;refine Lib.index_none (fun j hj=>?_);unfold Lib.occAt;by_cases E:j<crP t
 . exact pre_no (u j E)
 rw[l0e Om];rfl
theorem bindex_eq (t:Bt)(ht:t.length<=1000000):Y3j t [13,10]=some (if crP t<t.length then(crP t:Int) else -1):=by
 unfold Y3j;rw[if_pos ⟨by decide,by omega,by decide⟩,index_cr]
def lnF : Nat->Nat->Bt->List (Int × Bt)
 | 0,_,_=>[]
 | m+1,at_,t=>if t=[] then [] else((at_:Int),t.take (crP t))::lnF m (at_+crP t+2) (t.drop (crP t+2))
theorem lines_L1 {σ:Type}(Y:σ->(Int × Bt)->Option (σ × Bool))(p:Bt)(hp:p.length<=1000000):∀(k i m:Nat) (s:σ),p.length-i<=k->k<m->i<=p.length->
 (Y17 Y p m (i:Int) s).map (fun o=>match o with | .inl s=>s | .inr s=>s)=runL Y (lnF k i (p.drop i)) s
 | k,i,0,s,J,K,E=>by omega
 | k, i, m+1,s,J,K,E=>by
   by_cases hi:i<p.length
   . obtain⟨k,rfl⟩ :∃q,k=q+1:=⟨k-1,by omega⟩
     have hne:p.drop i≠ []:=by rw[Ne,l2d];omega
     have hc:=crP_le (p.drop i);have hlen:(p.drop i).length=p.length-i:=l04 ..;have hpos:0<(p.drop i).length:=List.length_pos_iff.2 hne;rw[Y17,if_pos Om,cut_from rfl E,bsome,bindex_eq _ Om,bsome,lnF,if_neg hne,runL];generalize hcp:crP (p.drop i)=c at hc ⊢;by_cases hcl:c<(p.drop i).length
     . obtain⟨N,_⟩:=hc.2 hcl;rw[if_pos hcl,if_pos Om,show chk ((i:Int)+(c:Int))=some ((i+c:Nat):Int) from chk_addN c Om,bsome,bsome,show ((i+c:Nat):Int)+2=((i+c+2:Nat):Int) by omega,chk_ok Om Om,bsome,bsome];dsimp only;rw[cut_of rfl rfl Om Om,bsome,show (p.take (i+c)).drop i=(p.drop i).take c by rw[l2l];congr 1;omega];cases hy:Y s ((i:Int),(p.drop i).take c) with
       | none=>rfl
       | some r =>
         rw[bsome,bsome];obtain⟨u,b⟩:=r;dsimp only;cases b with
         | true=>rw[if_pos rfl,if_pos rfl,lines_L1 Y p hp k (i+c+2) m u Om Om Om,l0G,l0U i c 2]
         | false=>rw[if_neg l00,if_neg l00];rfl
     have hce:c=(p.drop i).length:=by omega
     rw[if_neg hcl,if_neg Dc,bsome];dsimp only;rw[cut_of rfl rfl Om (l07 _),bsome,l0y,hce,l0y];cases hy:Y s ((i:Int),p.drop i) with
     | none=>rfl
     | some r =>
       rw[bsome,bsome];obtain⟨u,b⟩:=r;dsimp only;cases b with
       | true =>
         rw[if_pos rfl,if_pos rfl,lines_L1 Y p hp k p.length m u Om Om (l07 _),l0B,show (p.drop i).drop ((p.drop i).length+2)=[] from l0e Om];cases k with
         | zero=>rfl
         | succ k=>rw[lnF,lnF,if_pos rfl,if_pos rfl]
       | false=>rw[if_neg l00,if_neg l00];rfl
   obtain rfl:i=p.length:=by omega
   rw[Y17,if_neg Om,l0B];cases k with
   | zero=>rfl
   | succ k=>rw[lnF,if_pos rfl];rfl
def lnL (p:Bt):List (Int × Bt):=lnF p.length 0 p
theorem lines_eq {σ:Type}(Y:σ->(Int × Bt)->Option (σ × Bool))(p:Bt)(hp:p.length<=1000000)(s:σ):Y33 p σ Y s=runL Y (lnL p) s:=by
 have h:=lines_L1 Y p hp p.length 0 FU s Om (FU_gt Om) Om;rw[show ((0:Nat):Int)=0 from rfl,l0t] at h;unfold Y33 lnL;rw[<-h];cases Y17 Y p FU 0 s with
 | none=>rfl
 | some o=>cases o <;> rfl
theorem lnF_at :∀(k i:Nat) (t:Bt),∀x∈lnF k i t,(i:Int)<=x.1/\x.1+x.2.length<=(i+t.length:Nat)
 | 0,i,t,x,h=>by rw[lnF] at h;cases h
 | k + 1,i,t,x,h=>by
   rw[lnF] at h;split at h
   . cases h
   have hc:=crP_le t;rcases List.mem_cons.1 h with rfl|h
   . refine⟨l2E _,?_⟩;rw[l0c];dsimp only;omega
   have:=lnF_at k (i+crP t+2) (t.drop (crP t+2)) x h;rw[l04] at this;by_cases u:crP t<t.length
   . have:=hc.2 u;omega
   rw[l0e Om] at h;cases k with
   | zero=>rw[lnF] at h;cases h
   | succ k=>rw[lnF,if_pos rfl] at h;cases h
def sepB (b:Bt):Bt:=[45,45]++b
def endB (b:Bt):Bt:=[45,45]++b++[45,45]
def knd (line b:Bt):Int:=if trimR line=sepB b then 1 else if trimR line=endB b then 2 else 0
theorem kind_eq (line b:Bt)(hl:Big line)(hb:b.length<=1000):Y4D line b=some (knd line b):=by
 unfold Y4D knd sepB endB;rw[Go.Ph.Hd.trimRight_eq line hl,bsome,cat_ok (by simp only[l01,l0a];omega),bsome];split
 . rfl
 rw[bsome,cat_ok (by simp only[l05,l01,l0a];omega),bsome];split <;> rfl
def cnS (body b:Bt)(st:List Bt × Int)(x:Int × Bt):(List Bt × Int) × Nat :=
 if knd x.2 b=0 then(st,0) else
  let out:=if 0<=st.2 then st.1++[(body.take (max st.2 (x.1-2)).toNat).drop st.2.toNat] else st.1
  if knd x.2 b=2 then((out,st.2),1) else((out,min (x.1+x.2.length+2) body.length),0)
def cnG (body b:Bt):List (Int × Bt)->List Bt × Int->(List Bt × Int) × Nat
 | [],st=>(st,0)
 | x::r,st=>if (cnS body b st x).2=0 then cnG body b r (cnS body b st x).1 else cnS body b st x
def conR (body b:Bt):List Bt :=
 let r:=cnG body b (lnL body) ([],-1)
 if r.2=0 then(if 0<=r.1.2 then r.1.1++[body.drop r.1.2.toNat] else r.1.1) else r.1.1
def cnI (body:Bt)(i:Nat)(st:List Bt × Int):Prop:=st.1.length<=i/\-1<=st.2/\st.2<=body.length/\∀q∈st.1,q.length<=body.length
theorem cnS_ok (body b:Bt)(hp:body.length<=1000000)(hb:b.length<=1000){i:Nat}(hi:i<=1000000){st:List Bt × Int}(hst:cnI body i st){x:Int × Bt}(hx:0<=x.1/\x.1+x.2.length<=body.length):
 Y1w body b (st,0) x=some (cnS body b st x)/\cnI body (i+1) (cnS body b st x).1:=by
 obtain⟨out,fr⟩:=st;obtain⟨at_,line⟩:=x;obtain⟨V,J,K,u⟩:=hst;dsimp only at V J K u hx;unfold Y1w cnS;dsimp only;rw[kind_eq line b (bigL Om) hb,bsome];by_cases hk:knd line b=0
 . rw[if_pos hk,if_pos hk];exact⟨G,by dsimp only;omega,J,K,u⟩
 rw[if_neg hk,if_neg hk];have hout:((if (0:Int)<=fr then(chk (at_-2)).bind fun N=>(cut body fr (max fr N)).bind fun O=>(app 24 out ([O]:List Bt)).bind fun U=>some U else some out):Option (List Bt))=some (if 0<=fr then out++[(body.take (max fr (at_-2)).toNat).drop fr.toNat] else out):=by
  by_cases hf:0<=fr
  . rw[if_pos hf,if_pos hf,chk_ok Om Om,bsome,cut_of (a:=fr.toNat) (b:=(max fr (at_-2)).toNat) Om Om Om Om,bsome,app_ok (by simp only[l01,l0a];omega),bsome]
  rw[if_neg hf,if_neg hf]
 rw[hout,bsome];have hI :∀q∈(if 0<=fr then out++[(body.take (max fr (at_-2)).toNat).drop fr.toNat] else out),q.length<=body.length:=by
  intro q hq;split at hq
  . rcases List.mem_append.1 hq with hq|hq
    . exact u q hq
    rw[List.mem_singleton.1 hq,l04,l0c];omega
  exact u q hq
 have hL:(if 0<=fr then out++[(body.take (max fr (at_-2)).toNat).drop fr.toNat] else out).length<=i+1:=by
  split
  . rw[l05,l0F];omega
  omega
 by_cases E:knd line b=2
 . rw[if_pos E,if_pos E];exact⟨G,hL,J,K,hI⟩
 rw[if_neg E,if_neg E,chk_ok Om Om,bsome,chk_ok Om Om,bsome];exact⟨G,hL,by dsimp only;omega,by dsimp only;omega,hI⟩
theorem cnS_tag (body b:Bt)(st:List Bt × Int)(x:Int × Bt):(cnS body b st x).2=0∨(cnS body b st x).2=1:=by
 unfold cnS;split
 . exact .inl G
 dsimp only;split
 . exact .inr G
 exact .inl G
theorem cn_run (body b:Bt)(hp:body.length<=1000000)(hb:b.length<=1000):∀(ls:List (Int × Bt)) (i:Nat) (st:List Bt × Int),i+ls.length<=1000000->cnI body i st->(∀x∈ls,0<=x.1/\x.1+x.2.length<=body.length)->
 runL (stepY exStop (Y1w body b)) ls (st,0)=some (cnG body b ls st)/\cnI body (i+ls.length) (cnG body b ls st).1/\((cnG body b ls st).2=0∨(cnG body b ls st).2=1)
 | [],i,st,E,hst,hx=>⟨rfl,hst, .inl rfl⟩
 | x :: r,i,st,E,hst,hx=>by
   rw[l01] at E;obtain⟨K,u⟩:=cnS_ok body b hp hb (i:=i) Om hst (hx x (l0q ..));rw[runL,cnG,stepY,if_neg (by simp [exStop]),K,l0J,bsome];rcases cnS_tag body b st x with ht|ht
   . have J:=cn_run body b hp hb r (i+1) (cnS body b st x).1 Om u (fun y hy=>hx y (l0u _ hy));have he:cnS body b st x=((cnS body b st x).1,0):=by rw[<-ht]
     rw[if_pos ht];dsimp only;rw[if_pos (by simp [exStop,ht]),l01,show i+(r.length+1)=i+1+r.length by omega];rw[<-he] at J;exact J
   rw[if_neg (show ¬(cnS body b st x).2=0 by rw[ht];decide)];dsimp only;rw[if_neg (by simp [exStop,ht])];refine⟨G,⟨?_,u.2⟩, .inr ht⟩;have:=u.1;rw[l01];omega
theorem lnF_len :∀(k i:Nat) (t:Bt),(lnF k i t).length<=k
 | 0,i,t=>by rw[lnF];exact l07 _
 | k+1,i,t=>by
   rw[lnF];split
   . exact l0o _
   rw[l01];have:=lnF_len k (i+crP t+2) (t.drop (crP t+2));omega
theorem con_eq (body b:Bt)(hp:body.length<=100000)(hb:b.length<=1000):Y2V body b=some (conR body b)/\(conR body b).length<=body.length+1/\∀q∈conR body b,q.length<=body.length:=by
 have hlen:(lnL body).length<=body.length:=lnF_len _ _ _;obtain⟨O,⟨J,K,N,u⟩,E⟩:=cn_run body b Om hb (lnL body) 0 ([],-1) Om ⟨l07 _,by decide,by dsimp only;omega,fun q hq=>by cases hq⟩ (fun x hx=>by
  have:=lnF_at body.length 0 body x hx;rw[l0r] at this;exact⟨by omega,this.2⟩)
 unfold Y2V conR;rw[show Y49 body=some body from rfl,bsome,lines_eq _ body Om,O,bsome];generalize cnG body b (lnL body) ([],-1)=r at J K N u E ⊢;obtain⟨⟨out,fr⟩,tg⟩:=r;dsimp only at J K N u E ⊢;rcases E with rfl|rfl
 . rw[if_pos rfl,if_pos rfl];by_cases hf:0<=fr
   . rw[if_pos hf,if_pos hf,cut_from (a:=fr.toNat) Om Om,bsome,app_ok (by simp only[l01,l0a];omega),bsome];refine⟨G,by rw[l05,l0F];omega,fun q hq=>?_⟩;rcases List.mem_append.1 hq with hq|hq
     . exact u q hq
     rw[List.mem_singleton.1 hq,l04];omega
   rw[if_neg hf,if_neg hf];exact⟨G,by omega,u⟩
 rw[if_neg Dc,if_pos rfl,if_neg Dc];exact⟨G,by omega,u⟩
def innR (l:List Fld)(body:Bt)(d:Int):List Bt:=if (bdR l).2=true/\d<8 then conR body (bdR l).1 else []
theorem inn_eq (l:List Fld)(body:Bt)(d:Int)(hl:l.length<=1000000)(hb:BigF l)(hp:body.length<=100000):Y3G l body d=some (innR l body d)/\(innR l body d).length<=body.length+1/\∀q∈innR l body d,q.length<=body.length:=by
 have u:=con_eq body (bdR l).1 hp (by have:=bd_len l;omega);unfold Y3G innR;rw[bd_eq l hl hb,bsome];generalize bdR l=r at u ⊢;obtain⟨J,E⟩:=r;dsimp only at u ⊢;cases E with
 | false=>rw[if_neg l00,bsome,if_pos rfl,if_neg (fun h=>l00 h.1)];exact ⟨rfl,l0o _,fun q hq=>by cases hq⟩
 | true =>
   rw[if_pos rfl,bsome];by_cases hd:(8:Int)<=d
   . rw[decide_eq_true hd,if_pos rfl,if_neg (fun h=>by omega)];exact ⟨rfl,l0o _,fun q hq=>by cases hq⟩
   rw[decide_eq_false hd,if_neg l00,if_pos ⟨rfl,by omega⟩,u.1,bsome];exact ⟨rfl,u.2⟩
theorem innR_ok {l:List Fld}{body:Bt}{d:Int}(h:innR l body d≠ []):(typR l).2.2=true/\lower (typR l).1.1=lower nMP/\d<8/\(bdR l).2=true:=by
 unfold innR at h;by_cases u:(bdR l).2=true/\d<8
 . have E:=u.1;unfold bdR at E;by_cases J:(typR l).2.2=true/\lower (typR l).1.1=lower nMP
   . exact⟨J.1,J.2,u.2,u.1⟩
   rw[if_neg J] at E;cases E
 rw[if_neg u] at h;exact absurd rfl h
end Go.Ph.Pt
end
section
namespace Go.Ph.Pt
open Go.Ph.Pl Go.Ph.Pf
open Go.Ph.Chs (lowB lower)
open Go.Ph.Hd (valR readR headB fieldB rdF firstL cl)
open Go.Ph.Md (prsR parR valM printR mediaT prB)
def noBd (l:List Fld):List Fld:=l.filter fun x => !decide (lower x.1=lower nBD)
def barR (l:List Fld):List Fld × Bool :=
 let pr:=printR ((typR l).1.1,(typR l).1.2.1,noBd (typR l).1.2.2)
 if pr.2.1=0 then(l.set (typR l).2.1.toNat ((l[(typR l).2.1.toNat]?.getD ([],[])).1,pr.1),true) else([],false)
theorem noBd_big {l:List Fld}(h:BigF l):BigF (noBd l):=fun x hx=>h x (List.mem_filter.1 hx).1
theorem bar_eq (l:List Fld)(hl:l.length<=1000000)(hb:BigF l)(ht:(typR l).2.2=true):Y4E l=some (barR l):=by
 obtain⟨k,x,_,hx,_,he⟩:=typ_ok ht;have hm:=typ_big l;have hk:=(List.getElem?_eq_some_iff.1 hx).1;unfold Y4E barR Y2C;rw[type_eq l hl hb,bsome];rw[he] at hm ⊢;generalize (prsR x.2).1=m at hm ⊢;obtain⟨K,N,l3⟩:=m;obtain⟨⟨E,J,u⟩,O⟩:=hm;dsimp only at E J u O ⊢;rw[Go.Ph.Hd.delFunc_eq l3 Y3T (fun x=>decide (lower x.1=lower nBD)) Om (fun y hy=>by unfold Y3T;rw [same_eq (u y hy).1 Dc,bsome]),bsome,Go.Ph.Md.print_eq _ ⟨E,J,noBd_big u⟩,bsome,show l3.filter (fun x => !decide (lower x.1=lower nBD))=noBd l3 from rfl,l0h,hx];generalize printR (K,N,noBd l3)=q;obtain⟨q1,U,V⟩:=q;dsimp only;rw[failed_eq,bsome];by_cases h:U=0
 . rw[decide_eq_true h,if_neg Dc,if_pos h];unfold Y0Q;rw[app_ok (by simp only[l0a];omega),bsome,l03,idx_nat,hx,bsome,put_ok Om Om,bsome,l0h];rfl
 rw[decide_eq_false h,if_pos Dc,if_neg h]
abbrev P3 : Type:=List Fld × Bt × List BT38
def BF (l:List Fld):Prop:=l.length<=60/\∀x∈l,x.1.length<=12000/\x.2.length<=12000
theorem BF.big {l:List Fld}(h:BF l):BigF l:=fun x hx=>⟨bigL (by have:=(h.2 x hx).1;omega),bigL (by have:=(h.2 x hx).2;omega)⟩
theorem BF.len {l:List Fld}(h:BF l):l.length<=1000000:=by have:=h.1;omega
theorem BF.of {l:List Fld}(h:(valR l).1=0):BF l:=by
 obtain⟨u,E,_⟩:=Go.Ph.Sg.okL_of h;exact⟨E,fun x hx=>by have:=u x hx;omega⟩
theorem print_len {m:Med}(h:(printR m).2.1=0):(printR m).1.length<=4000/\(valM m).1=0/\(printR m).1=mediaT m:=by
 unfold printR at h ⊢;by_cases u:(valM m).1=0
 . rw[if_pos u] at h ⊢;by_cases E:4000<(mediaT m).length
   . rw[if_pos E] at h;cases h
   rw[if_neg E];exact ⟨by dsimp only;omega,u,rfl⟩
 rw[if_neg u] at h;exact absurd h u
theorem BF.bar {l:List Fld}(h:BF l)(hb:(barR l).2=true):BF (barR l).1:=by
 unfold barR at hb ⊢;generalize hq:printR ((typR l).1.1,(typR l).1.2.1,noBd (typR l).1.2.2)=q at hb ⊢;dsimp only at hb ⊢;by_cases u:q.2.1=0
 . rw[if_pos u];have E:=print_len (m:=((typR l).1.1,(typR l).1.2.1,noBd (typR l).1.2.2)) (by rw[hq];exact u);rw[hq] at E;refine⟨by rw[l0X];exact h.1,fun x hx=>?_⟩;rcases l2h hx with hx|rfl
   . exact h.2 x hx
   dsimp only;refine⟨?_,by omega⟩;cases hg:l[(typR l).2.1.toNat]? with
   | none=>exact l0o _
   | some y=>exact(h.2 y (l0M hg)).1
 rw[if_neg u] at hb;cases hb
theorem read_ok {p:Bt}(h:(readR p).2.2.1=0):BF (readR p).1/\p.length<=12000/\∃n:Nat,(readR p).2.1=(n:Int)/\n<=p.length:=by
 unfold readR at h ⊢;by_cases u:12000<p.length
 . rw[if_pos u] at h;cases h
 rw[if_neg u] at h ⊢;by_cases E:60<(rdF p.length [] p).1.length
 . rw[if_pos E] at h;cases h
 rw[if_neg E] at h ⊢;cases hf:firstL 0 (rdF p.length [] p).1 with
 | some j=>rw[hf] at h;cases h
 | none =>
   dsimp only;have J:=Go.Ph.Hd.firstL_none hf;have K:=Go.Ph.Hd.rdF_okN p.length [] p (fun x hx=>by cases hx);have N:=(Go.Ph.Hd.rdF_ok p.length 0 [] p Go.Ph.Hd.ok0).2;refine⟨⟨by rw[l0l];omega,fun x hx=>?_⟩,by omega,_,G,N⟩;obtain⟨y,hy,rfl⟩:=List.mem_map.1 hx;exact⟨by have:=Pf.nmL_len (K y hy).1;show y.1.length<=12000;omega,by have:=J y hy;omega⟩
def Tr : Nat->P3->Prop
 | 0,p=>BF p.1/\p.2.1.length<=12000/\p.2.2=[]
 | k+1,p=>BF p.1/\p.2.1.length<=12000/\p.2.2.length<=40/\∀q∈p.2.2,Tr k q.out
def sz : Nat->P3->Nat
 | 0,_=>1
 | k+1,p=>1+(p.2.2.map fun q=>sz k q.out).sum
theorem Tr.bf {k:Nat}{p:P3}(h:Tr k p):BF p.1/\p.2.1.length<=12000/\p.2.2.length<=40:=by
 cases k with
 | zero=>exact⟨h.1,h.2.1,by rw[h.2.2];exact l0o _⟩
 | succ k=>exact⟨h.1,h.2.1,h.2.2.1⟩
theorem Tr.leaf {l:List Fld}{b:Bt}(h:BF l)(hb:b.length<=12000)(k:Nat):Tr k (l,b,[])/\sz k (l,b,[])=1:=by
 cases k with
 | zero=>exact⟨⟨h,hb,rfl⟩,rfl⟩
 | succ k=>exact⟨⟨h,hb,l0o _,fun q hq=>by cases hq⟩,rfl⟩
theorem sz_pos :∀(k:Nat) (p:P3),1<=sz k p
 | 0,p=>l07 _
 | k+1,p=>by rw[sz];omega
theorem sum_len (k:Nat):∀l:List BT38,l.length<=(l.map fun q=>sz k q.out).sum
 | []=>l07 _
 | q::l=>by rw[l01,l0j,l2J];have:=sum_len k l;have:=sz_pos k q.out;omega
abbrev Sp3 : Type:=Int × Int × Int
abbrev SpF : Type:=Sp3->List Fld->Bt->Int->Option (P3 × Bool × Sp3)
def SpOk (self:SpF)(k:Nat):Prop :=∀(mn:Nat) (E J:Int) (l:List Fld) (body:Bt),BF l->body.length<=12000->mn<=39->
 ∃(p:P3) (ok:Bool) (mn':Nat) (u K:Int),self ((mn:Int),E,J) l body (8-(k:Int))=some (p,ok,((mn':Int),u,K))/\mn<mn'/\mn'<=40/\(ok=true->Tr k p/\sz k p+mn=mn')/\(ok=false->p=([],[],[])/\u≠0)
theorem readS_tot {self:SpF}{k:Nat}(hs:SpOk self k)(mn:Nat)(J K:Int)(a:Bt)(ha:a.length<=12000)(hm:mn<=40):
 ∃(p:P3) (ok:Bool) (mn':Nat) (u E:Int),Y24 self ((mn:Int),J,K) a (8-(k:Int))=some (p,ok,((mn':Int),u,E))/\mn<=mn'/\mn'<=40/\(ok=true->Tr k p/\sz k p+mn=mn')/\(ok=false->p=([],[],[])/\u≠0):=by
 unfold Y24;rw[Go.Ph.Hd.readH_eq,bsome];have hr := @read_ok a;generalize readR a=q at hr ⊢;obtain⟨N,n2,O,n4⟩:=q;dsimp only at hr ⊢;rw[failed_eq,bsome];by_cases h:O=0
 . obtain⟨U,_,n,rfl,V⟩:=hr h;rw[decide_eq_true h,if_neg Dc];by_cases Y:mn=40
   . subst Y;rw[if_pos (show((40:Nat):Int)=40 from rfl),fault_eq,bsome];exact⟨_,_,40,_,_,G,l07 _,l07 _,fun h=>(by cases h),fun _=>⟨G,by decide⟩⟩
   rw[if_neg Om,cut_from rfl V,bsome];obtain⟨p,ok,mn',u,E,Z,h6,h7,h8,h9⟩:=hs mn J K N (a.drop n) U (by rw[l04];omega) Om;rw[Z,bsome];exact⟨p,ok,mn',u,E,G,by omega,h7,h8,h9⟩
 rw[decide_eq_false h,if_pos Dc,fault_eq,bsome];exact⟨_,_,mn,_,_,G,l07 _,hm,fun h=>(by cases h),fun _=>⟨G,h⟩⟩
abbrev LpR : Type:=(List Fld × Bt × List BT38 × List Fld × Bt × List BT38 × Int × Int × Int) ⊕ (P3 × Bool × Sp3)
theorem loop_tot {self:SpF}{k:Nat}(hk:k<=8)(hs:SpOk self k)(u:List Bt)(hl:u.length<=1000000)(ha :∀a∈u,a.length<=12000)(c0:Nat)(K:List Fld)(N:Bt)(O:List BT38)(U:List Fld)(V:Bt):
 ∀(d i m mn:Nat) (Y Z:Int) (acc:List BT38),u.length-i<=d->d<m->i<=u.length->mn<=40->(∀q∈acc,Tr k q.out)->(acc.map fun q=>sz k q.out).sum+c0=mn->
 ∃ o:LpR,Y0q self (8-(k:Int)-1) u m (mn:Int) Y Z K N O U V acc (i:Int)=some o/\
  ((∃(acc':List BT38) (mn':Nat) (E J:Int),o = .inl (K,N,O,U,V,acc',(mn':Int),E,J)/\mn<=mn'/\mn'<=40/\(∀q∈acc',Tr k q.out)/\(acc'.map fun q=>sz k q.out).sum+c0=mn')∨
   (∃(mn':Nat) (E J:Int),o = .inr (([],[],[]),false,((mn':Int),E,J))/\mn<=mn'/\mn'<=40/\E≠0))
 | d,i,0,mn,Y,Z,acc,h1,h2,h3,h4,h5,h6=>by omega
 | d,i,m+1,mn,Y,Z,acc,h1,h2,h3,h4,h5,h6=>by
   by_cases hi:i<u.length
   . obtain⟨d,rfl⟩ :∃q,d=q+1:=⟨d-1,by omega⟩
     obtain⟨p,ok,mn',E,J,e1,e2,e3,e4,e5⟩:=readS_tot hs mn Y Z u[i] (ha _ (l0D hi)) h4;rw[Y0q,if_pos Om,idx_nat,List.getElem?_eq_getElem hi,bsome,show (8:Int)-(k:Int)-1+1=8-(k:Int) by omega,chk_ok Om Om,bsome,e1,bsome];obtain⟨p1,p2,p3⟩:=p;dsimp only;cases ok with
     | true =>
       obtain⟨e6,e7⟩:=e4 rfl;have hlen:=sum_len k acc;rw[if_pos rfl,app_ok (by simp only[l01,l0a];omega),bsome,chk_succ Om,bsome];obtain⟨o,i1,i2⟩:=loop_tot hk hs u hl ha c0 K N O U V d (i+1) m mn' E J (acc++[BT38.of (p1,p2,p3)]) Om Om Om e3 (fun q hq=>by
        rcases List.mem_append.1 hq with hq|hq
        . exact h5 q hq
        . rw[List.mem_singleton.1 hq];exact e6) (by
        rw[l0R,List.sum_append,l0j,l0I,l2J,List.sum_nil,l1a];show _+sz k (p1,p2,p3)+c0=mn'
        omega)
       refine⟨o,i1,?_⟩;rcases i2 with ⟨acc',a0,a1,a2,j1,j2,j3,j4,j5⟩|⟨a0,a1,a2,j1,j2,j3,j4⟩
       . exact .inl ⟨acc',a0,a1,a2,j1,by omega,j3,j4,j5⟩
       exact .inr ⟨a0,a1,a2,j1,by omega,j3,j4⟩
     | false =>
       rw[if_neg l00];exact⟨_,G, .inr ⟨mn',E,J,G,e2,e3,(e5 G).2⟩⟩
   obtain rfl:i=u.length:=by omega
   rw[Y0q,if_neg Om];exact⟨_,G, .inl ⟨acc,mn,Y,Z,G,l07 _,h4,h5,h6⟩⟩
theorem part_tot :∀(k m:Nat),k<=8->k<m->SpOk (Y0y m) k
 | k,0,hk,hm=>by omega
 | k,m+1,hk,hm=>by
   intro mn V Y l body hl hb hmn;obtain⟨Z,i2,i3⟩:=inn_eq l body (8-(k:Int)) hl.len hl.big Om;rw[Y0y,Y2d];dsimp only;unfold Y0Q Y2p;have a6:=hl.1;rw[show (mn:Int)+1=((mn+1:Nat):Int) by omega,chk_ok Om Om,bsome,app_ok (by simp only[l0a];omega),bsome,app_ok (by simp only[l0a];omega),bsome,Z,bsome,l03,l03];obtain⟨K,t2⟩:=Tr.leaf hl hb k;by_cases u:innR l body (8-(k:Int))=[]
   . rw[if_pos (by rw[u];rfl)];exact⟨_,_,mn+1,_,_,G,by omega,by omega,fun _=>⟨K,by omega⟩,fun h=>by cases h⟩
   have hpos:=List.length_pos_iff.2 u;obtain⟨o1,_,o3,_⟩:=innR_ok u;obtain⟨k,rfl⟩ :∃q,k=q+1:=⟨k-1,by omega⟩
   rw[if_neg Om,bar_eq l hl.len hl.big o1,bsome];have hbf:=hl.bar;generalize barR l=q at hbf ⊢;obtain⟨N,O⟩:=q;dsimp only at hbf ⊢;cases O with
   | false =>
     rw[if_neg l00];exact⟨_,_,mn+1,_,_,G,by omega,by omega,fun _=>⟨K,by omega⟩,fun h=>by cases h⟩
   | true =>
     obtain⟨o,U,e2⟩:=loop_tot (k:=k) Om (part_tot k m Om Om) (innR l body (8-((k+1:Nat):Int))) Om (fun a hq=>by have:=i3 a hq;omega) (mn+1) [] [] [] N [] (innR l body (8-((k+1:Nat):Int))).length 0 FU (mn+1) V Y [] Om (FU_gt Om) Om Om (fun q hq=>by cases hq) Sm;rw[show (8:Int)-(k:Int)-1=8-((k+1:Nat):Int) by omega,show ((0:Nat):Int)=0 from rfl] at U;rw[if_pos rfl,U,bsome];rcases e2 with ⟨acc',mn',g1,g2,rfl,j2,E,J,j5⟩|⟨mn',g1,g2,rfl,j2,E,J⟩
     . have hlen:=sum_len k acc';exact⟨_,_,mn',_,_,G,by omega,E,fun _=>⟨⟨hbf G,l0o _,show acc'.length<=40 by omega,J⟩,by rw[sz];dsimp only;omega⟩,fun h=>by cases h⟩
     exact⟨_,_,mn',_,_,G,by omega,E,fun h=>(by cases h),fun _=>⟨G,J⟩⟩
end Go.Ph.Pt
end
section
namespace Go.Ph.Pt
open Go.Ph.Pl Go.Ph.Pf
open Go.Ph.Chs (lowB lower)
open Go.Ph.Hd (valR readR)
open Go.Ph.Md (prsR parR valM printR mediaT)
abbrev V4 : Type:=List Fld × Bt × List BT38 × Int
theorem pre_mono :∀(m:Nat) {d:Int} {p:P3} {l:List V4},Y0n m d p=some l->Y0n (m+1) d p=some l
 | 0,d,p,l,h=>by rw[Y0n] at h;cases h
 | m+1,d,p,l,h=>by
   have hL :∀(q:List BT38) (y:List V4),Y1X (Y0n m) (d+1) q=some y->Y1X (Y0n (m+1)) (d+1) q=some y:=by
    intro q;induction q with
    | nil=>intro y hy;exact hy
    | cons a q ih =>
      intro y hy;rw[Y1X] at hy ⊢;obtain⟨x,u,hy⟩:=bnd hy;obtain⟨z,E,hy⟩:=bnd hy;rw[pre_mono m u,bsome,ih z E,bsome,hy]
   rw[Y0n] at h ⊢;obtain⟨y,u,E⟩:=bnd h;rw[hL _ _ u,bsome,E]
theorem pre_le {m n:Nat}(hmn:m<=n){d:Int}{p:P3}{l:List V4}(h:Y0n m d p=some l):Y0n n d p=some l:=by
 induction hmn with
 | refl=>exact h
 | step _ ih=>exact pre_mono _ ih
def VOk (k:Nat)(d:Int)(v:V4):Prop:=BF v.1/\v.2.1.length<=12000/\v.2.2.1.length<=40/\d<=v.2.2.2/\v.2.2.2<=d+k
theorem pre_tot :∀(k:Nat) (d:Int) (p:P3),Tr k p->∃l,Y0n (k+1) d p=some l/\l.length=sz k p/\∀v∈l,VOk k d v
 | 0,d,p,h=>by
   obtain⟨E,J,u⟩:=h;refine⟨[(p.1,p.2.1,p.2.2,d)],by rw[Y0n,u,Y1X,bsome],G,fun v hv=>?_⟩;rw[List.mem_singleton.1 hv];exact⟨E,J,by dsimp only;rw [u];exact l0o _,l2E _,by dsimp only;omega⟩
 | k+1,d,p,h=>by
   obtain⟨E,J,u,U⟩:=h;have hL :∀q:List BT38,(∀a∈q,Tr k a.out)->∃y,Y1X (Y0n (k+1)) (d+1) q=some y/\y.length=(q.map fun a=>sz k a.out).sum/\∀v∈y,VOk k (d+1) v:=by
    intro q;induction q with
    | nil=>intro _;exact ⟨[],rfl,rfl,fun v hv=>by cases hv⟩
    | cons a q ih =>
      intro hq;obtain⟨x,K,N,O⟩:=pre_tot k (d+1) a.out (hq a (l0q ..));obtain⟨y,V,Y,Z⟩:=ih (fun b hb=>hq b (l0u _ hb));refine⟨x++y,by rw[Y1X,K,bsome,V,bsome],by rw[l05,l0j,l2J,N,Y],fun v hv=>?_⟩;rcases List.mem_append.1 hv with hv|hv
      . exact O v hv
      exact Z v hv
   obtain⟨y,K,N,O⟩:=hL p.2.2 U;refine⟨(p.1,p.2.1,p.2.2,d)::y,by rw[Y0n,K,bsome],by rw[l01,N,sz];omega,fun v hv=>?_⟩;rcases List.mem_cons.1 hv with rfl|hv
   . exact⟨E,J,u,l2E _,by dsimp only;omega⟩
   obtain⟨a1,a2,a3,a4,a5⟩:=O v hv;exact⟨a1,a2,a3,by omega,by omega⟩
theorem pre_all {k:Nat}(hk:k<=100){p:P3}(h:Tr k p):∃l,Y0n FU 0 p=some l/\Y0n (k+1) 0 p=some l/\l.length=sz k p/\∀v∈l,VOk k 0 v:=by
 obtain⟨l,u,E,J⟩:=pre_tot k 0 p h;exact⟨l,pre_le (by unfold FU;omega) u,u,E,J⟩
theorem each_eq {p:P3}{l:List V4}(h:Y0n FU 0 p=some l)(hl:l.length<=1000){σ:Type}(Y:σ->(Int × V4)->Option (σ × Bool))(s:σ):Y2P p σ Y s=runL Y (Y0t 0 l) s:=by
 unfold Y2P;rw[h,bsome,if_pos Om]
theorem whole_tot (p:P3)(h:BF p.1):∃c,Y3H p=some c:=by
 have hm:=typ_big p.1;have ho := @typ_ok p.1;unfold Y3H;rw[type_eq _ h.len h.big,bsome];generalize typR p.1=t at hm ho ⊢;obtain⟨⟨u,E,l3⟩,N,O⟩:=t;dsimp only at hm ho ⊢;by_cases J:(0:Int)<(p.2.1.length:Int)
 . rw[if_pos J,bsome,if_pos rfl];exact ⟨_,rfl⟩
 rw[if_neg J];cases O with
 | false=>rw[if_neg l00,bsome,if_pos rfl];exact ⟨_,rfl⟩
 | true =>
   obtain⟨k,x,_,hx,_,he⟩:=ho rfl;have hn:N=(k:Int):=congrArg (fun z=>z.2.1) he;subst hn;rw[if_pos rfl,same_eq hm.1.1 Dc,bsome,bsome];by_cases K:lower u=lower nMP
   . rw[decide_eq_true K,if_neg Dc,prm_eq _ _ hm.1 Dc,bsome];generalize prmR (u,E,l3) nBD=q;obtain⟨q1,U,V,Y⟩:=q;dsimp only;rw[Go.Ph.Md.print_eq _ hm.1,bsome];generalize printR (u,E,l3)=r;obtain⟨Z,r2,r3⟩:=r;dsimp only;rw[failed_eq,idx_nat,hx];cases U with
     | true=>rw[if_pos rfl,bsome,if_pos rfl];exact ⟨_,rfl⟩
     | false =>
       rw[if_neg l00];split
       . exact⟨5,by rw[bsome,if_pos G]⟩
       rw[bsome];split
       . exact⟨5,by rw[bsome,if_pos G]⟩
       rw[bsome];split
       . rw[bsome];split <;> exact⟨_,rfl⟩
       exact⟨5,by rw[bsome,if_pos G]⟩
   rw[decide_eq_false K,if_pos Dc];exact ⟨_,rfl⟩
theorem bodyc_tot (b:Bt)(hb:b.length<=12000):∃c,Y2s b=some c:=by
 obtain⟨a,c,h⟩:=Go.Ph.Sg.body_tot b Om;unfold Y2T at h;obtain⟨n,u,_⟩:=bnd h;exact⟨n,u⟩
theorem check_tot (v:V4)(h:BF v.1)(hb:v.2.1.length<=12000):∃c,Y25 v=some c:=by
 unfold Y25;rw[Go.Ph.Hd.validate_eq v.1 h.big,bsome];generalize valR v.1=q;obtain⟨q1,K⟩:=q;dsimp only;rw[failed_eq,bsome];by_cases u:q1=0
 . rw[decide_eq_true u,if_neg Dc];by_cases E:(0:Int)<(v.2.2.1.length:Int)
   . obtain⟨c,hc⟩:=whole_tot (v.1,v.2.1,v.2.2.1) h;rw[if_pos E,hc];exact ⟨_,rfl⟩
   obtain⟨c,hc⟩:=bodyc_tot v.2.1 hb;rw[if_neg E,if_neg Om,hc,bsome];by_cases J:c=0
   . rw[if_pos J,(inn_eq v.1 v.2.1 v.2.2.2 h.len h.big Om).1,bsome];split <;> exact⟨_,rfl⟩
   rw[if_neg J];exact ⟨_,rfl⟩
 rw[decide_eq_false u,if_pos Dc];exact ⟨_,rfl⟩
theorem check_zero {v:V4}(h:BF v.1)(hb:v.2.1.length<=12000)(hc:Y25 v=some 0):(valR v.1).1=0/\(v.2.2.1=[]->innR v.1 v.2.1 v.2.2.2=[])/\(v.2.2.1≠ []->Y3H (v.1,v.2.1,v.2.2.1)=some 0):=by
 unfold Y25 at hc;rw[Go.Ph.Hd.validate_eq v.1 h.big,bsome] at hc;generalize valR v.1=q at hc ⊢;obtain⟨q1,N⟩:=q;dsimp only at hc ⊢;rw[failed_eq,bsome] at hc;by_cases u:q1=0
 . rw[decide_eq_true u,if_neg Dc] at hc;refine⟨u,fun he=>?_,fun he=>?_⟩
   . rw[he,if_neg Dc,if_neg Om] at hc;obtain⟨c,J,hc⟩:=bnd hc;by_cases E:c=0
     . rw[if_pos E,(inn_eq v.1 v.2.1 v.2.2.2 h.len h.big Om).1,bsome] at hc;by_cases K:(0:Int)<((innR v.1 v.2.1 v.2.2.2).length:Int)
       . rw[if_pos K] at hc;cases hc
       exact List.length_eq_zero_iff.1 Om
     rw[if_neg E] at hc;exact absurd (oI hc) E
   have:=List.length_pos_iff.2 he;rw[if_pos Om] at hc;obtain⟨c,J,hc⟩:=bnd hc;rw[J];exact hc
 rw[decide_eq_false u,if_pos Dc] at hc;exact absurd (oI hc) u
theorem y9_run (a b:Int):∀(l:List V4) (n:Int) (deep:Bool),0<=n->n+l.length<=40->runL (stepY exStop Y20) (Y0t n l) ((a,b,deep),0)=some ((a,b,deep || l.any fun v=>decide (8<v.2.2.2)),0)
 | [],n,deep,E,h=>by rw[Y0t,runL];simp
 | v::l,n,deep,E,h=>by
   rw[l01] at h;obtain⟨J,K,N,u⟩:=v;rw[Y0t,runL,stepY,if_neg (by simp [exStop])];unfold Y20;dsimp only;rw[if_neg Om];have hd:((if deep=true then some true else some (decide ((8:Int)<u))):Option Bool)=some (deep || decide (8<u)):=by cases deep <;> rfl
   rw[hd,bsome,l0J,bsome];dsimp only;rw[if_pos (by simp [exStop])];have:=y9_run a b l (n+1) (deep || decide (8<u)) Om Om;unfold Y20 at this;rw[this,l2q,Bool.or_assoc]
theorem y38_run :∀(l:List V4) (n:Int),(∀v∈l,∃c,Y25 v=some c)->
 (runL (stepY exStop Y0R) (Y0t n l) (((0,0):Int × Int),0)=some ((0,0),0)/\∀v∈l,Y25 v=some 0)∨
 (∃c i,c≠0/\runL (stepY exStop Y0R) (Y0t n l) (((0,0):Int × Int),0)=some ((c,i),1))
 | [],n,h => .inl ⟨rfl,fun v hv=>by cases hv⟩
 | v :: l,n,h=>by
   obtain⟨c,hc⟩:=h v (l0q ..);have ih:=y38_run l (n+1) (fun w hw=>h w (l0u _ hw));obtain⟨K,N,O,U⟩:=v;have hr:runL (stepY exStop Y0R) (Y0t n ((K,N,O,U)::l)) (((0,0):Int × Int),0)=if c=0 then runL (stepY exStop Y0R) (Y0t (n+1) l) (((0,0):Int × Int),0) else some ((c,n),1):=by
    rw[Y0t,runL,stepY,if_neg (by simp [exStop]),Y0R];rw[hc,bsome];by_cases u:c=0
    . rw[if_pos u,if_pos u,l0J,bsome];dsimp only;rw[if_pos (by simp [exStop])]
    rw[if_neg u,if_neg u,fault_eq,bsome,l0J,bsome];dsimp only;rw[if_neg (by simp [exStop])]
   rw[hr];by_cases u:c=0
   . rw[if_pos u];rcases ih with ⟨E,J⟩|⟨c',i,E,J⟩
     . refine .inl ⟨E,fun w hw=>?_⟩;rcases List.mem_cons.1 hw with rfl|hw
       . rw[hc,u]
       exact J w hw
     exact .inr ⟨c',i,E,J⟩
   rw[if_neg u];exact .inr ⟨c,n,u,G⟩
theorem val_tot {p:P3}{l:List V4}(h:Y0n FU 0 p=some l)(hl:l.length<=40)(hv :∀v∈l,BF v.1/\v.2.1.length<=12000):
 ∃c i,Y1W p=some (c,i)/\(c=0->i=0/\(∀v∈l,v.2.2.2<=8)/\∀v∈l,Y25 v=some 0):=by
 have N:=y9_run 0 0 l 0 false Dc Om;have J:=y38_run l 0 (fun v hw=>check_tot v (hv v hw).1 (hv v hw).2);unfold Y1W;rw[show Y4A (p.1,p.2.1,p.2.2)=some (p.1,p.2.1,p.2.2) from rfl,bsome];dsimp only;rw[show (p.1,p.2.1,p.2.2)=p from rfl,each_eq h Om,N,bsome];dsimp only;rw[if_pos rfl,l1h];cases hd:l.any fun v=>decide (8<v.2.2.2) with
 | true=>rw[if_pos rfl,fault_eq,bsome];exact ⟨_,_,rfl,fun h=>by cases h⟩
 | false =>
   have K :∀v∈l,v.2.2.2<=8:=fun v hw=>by
    have:=List.any_eq_false.1 hd v hw;simpa using this
   rw[if_neg l00,bsome,each_eq h Om];rcases J with ⟨u,E⟩|⟨c,i,u,E⟩
   . rw[u,bsome];dsimp only;rw[if_pos rfl,none_eq,bsome];exact⟨_,_,G,fun _=>⟨G,K,E⟩⟩
   rw[E,bsome];dsimp only;rw[if_neg Dc,if_pos rfl];exact⟨_,_,G,fun h=>absurd h u⟩
theorem split_tot (m:List Fld × Bt)(hb:BigF m.1)(hm:m.2.length<=140737488355328):
 ∃(p:P3) (c i:Int),Y2X m=some (p,(c,i))/\(c≠0->p=([],[],[]))/\
  (c=0->i=0/\(valR m.1).1=0/\m.2.length<=12000/\Tr 8 p/\(∃u E:Int,Y0y FU (0,0,0) m.1 m.2 0=some (p,true,((sz 8 p:Nat):Int),u,E))/\sz 8 p<=40/\Y1W p=some (0,0)):=by
 obtain⟨a,b,Z,h2⟩:=Go.Ph.Sg.mvalid m hb hm;unfold Y2X;rw[show (m.1,m.2)=m from rfl,Z,bsome];dsimp only;rw[failed_eq,bsome];by_cases J:a=0
 . obtain⟨N,O⟩:=h2 J;rw[decide_eq_true J,if_neg Dc];obtain⟨p,ok,mn',u,E,K,e2,e3,e4,e5⟩:=part_tot 8 FU (l07 _) (by unfold FU;omega) 0 0 0 m.1 m.2 (BF.of N) O Om;rw[show ((0:Nat):Int)=0 from rfl,show (8:Int)-((8:Nat):Int)=0 by decide] at K;have U:Y3n (0,0,0) m.1 m.2 0=some (p,ok,((mn':Int),u,E)):=K;rw[U,bsome];obtain⟨p1,p2,p3⟩:=p;dsimp only;cases ok with
   | true =>
     obtain⟨V,t2⟩:=e4 rfl;obtain⟨l,l1,_,l2,l3⟩:=pre_all Dc V;obtain⟨c,i,Y,v2⟩:=val_tot l1 Om (fun v hv=>⟨(l3 v hv).1,(l3 v hv).2.1⟩);rw[if_pos rfl,Y,bsome];dsimp only;rw[failed_eq,bsome];by_cases hc:c=0
     . obtain⟨rfl,_⟩:=v2 hc;subst hc;rw[if_neg Dc,none_eq,bsome];refine⟨_,0,0,G,fun h=>absurd G h,fun _=>⟨G,N,O,V,⟨u,E,?_⟩,by omega,Y⟩⟩;rw[K,show sz 8 (p1,p2,p3)=mn' by omega]
     rw[decide_eq_false hc,if_pos Dc,fault_eq,bsome];exact⟨_,c,-9,G,fun _=>G,fun h=>absurd h hc⟩
   | false =>
     rw[if_neg l00];exact⟨_,u,E,G,fun _=>G,fun h=>absurd h (e5 G).2⟩
 rw[decide_eq_false J,if_pos Dc];exact⟨_,a,b,G,fun _=>G,fun h=>absurd h J⟩
end Go.Ph.Pt
end
section
namespace Go.Ph.Pt
open Go.Ph.Pl Go.Ph.Pf
open Go.Ph.Chs (lowB lower)
theorem ixB_lt (s:Bt)(c:UInt8): -1<=ixB s c/\ixB s c<s.length∨ixB s c = -1:=by
 unfold ixB;split
 . left;omega
 right;rfl
theorem b64_L1 (p:Bt)(hp:p.length<=24000):∀(d i m:Nat) (out:Bt) (a c:Nat),p.length-i<=d->d<m->i<=p.length->out.length<=i->c<8->a<2 ^ c->
 ∃o,Y0u p m out (a:Int) (c:Int) (i:Int)=some o/\o.length<=p.length
 | d,i,0,out,a,c,V,Y,Z,E,J,K=>by omega
 | d, i,m+1,out,a,c,V,Y,Z,E,J,K=>by
   by_cases hi:i<p.length
   . obtain⟨d,rfl⟩ :∃q,d=q+1:=⟨d-1,by omega⟩
     rw[Y0u,if_pos Om,idx_nat,List.getElem?_eq_getElem hi,bsome];by_cases u:p[i]=61
     . rw[if_pos u];exact ⟨out,rfl,by omega⟩
     rw[if_neg u];unfold Y1k;rw[bsome];generalize hz:ixB ([65,66,67,68,69,70,71,72,73,74,75,76,77,78,79,80,81,82,83,84,85,86,87,88,89,90,97,98,99,100,101,102,103,104,105,106,107,108,109,110,111,112,113,114,115,116,117,118,119,120,121,122,48,49,50,51,52,53,54,55,56,57,43,47]:Bt) p[i]=z;have hzl:=ixB_lt ([65,66,67,68,69,70,71,72,73,74,75,76,77,78,79,80,81,82,83,84,85,86,87,88,89,90,97,98,99,100,101,102,103,104,105,106,107,108,109,110,111,112,113,114,115,116,117,118,119,120,121,122,48,49,50,51,52,53,54,55,56,57,43,47]:Bt) p[i];rw[hz] at hzl;have a0:z<64:=by
      rcases hzl with h|h
      . have:=h.2;simp only[l01,l0a] at this;omega
      omega
     clear hzl hz;rw[chk_succ Om];by_cases hn:z<0
     . rw[if_pos hn,bsome];exact b64_L1 p hp d (i+1) m out a c Om Om Om Om J K
     obtain⟨y,rfl⟩ :∃y:Nat,z=(y:Int):=⟨z.toNat,by omega⟩
     have hy:y<64:=by omega
     have U:2 ^ c<=2 ^ 7:=l1e Dc Om;have ha:a<128:=by omega
     have N:a*64<2 ^ (c+6):=by rw[Nat.pow_add];omega
     have O:y<2 ^ (c+6):=l0Q hy (by rw[show 64=2 ^ 6 from rfl];exact l1e Dc Om);have hor:=l0p N O;have a1:2 ^ (c+6)<=2 ^ 13:=l1e Dc Om;have hsh:shlI (a:Int) 6=some ((a*64:Nat):Int):=by
      unfold shlI;rw[show (2:Int) ^ (Int.toNat 6)=64 from rfl,if_pos ⟨by omega,by decide,by decide,by omega⟩];congr 1
     have horI:orI ((a*64:Nat):Int) (y:Int)=some ((a*64 ||| y:Nat):Int):=by
      unfold orI;rw[if_pos ⟨by omega,by omega,by omega,by omega⟩,l0h,l0h]
     rw[if_neg hn,hsh,bsome,horI,bsome,show (c:Int)+6=((c+6:Nat):Int) by omega,chk_ok Om Om,bsome];generalize hw:(a*64 ||| y)=w at hor ⊢;by_cases h8:8<=c+6
     . rw[if_pos Om,show ((c+6:Nat):Int)-8=((c-2:Nat):Int) by omega,chk_ok Om Om,bsome];have a2:2 ^ (c-2)<=2 ^ 5:=l1e Dc Om;have a3:1<=2 ^ (c-2):=Nat.one_le_two_pow;have hshr :∃r,shrI (w:Int) ((c-2:Nat):Int)=some r:=by
        unfold shrI;rw[if_pos ⟨by omega,by omega,by omega⟩];exact⟨_,G⟩
       obtain⟨r,hr⟩:=hshr;have hsl:shlI 1 ((c-2:Nat):Int)=some ((2 ^ (c-2):Nat):Int):=by
        unfold shlI;have hpw:(1:Int)*2 ^ (((c-2:Nat):Int).toNat)=((2 ^ (c-2):Nat):Int):=by rw[l0h,Int.one_mul,Int.natCast_pow];rfl
        rw[hpw,if_pos ⟨by decide,by omega,by omega,by omega⟩]
       have hand:andI (w:Int) ((2 ^ (c-2)-1:Nat):Int)=some ((w &&& (2 ^ (c-2)-1):Nat):Int):=by
        unfold andI;rw[if_pos ⟨by omega,by omega,by omega,by omega⟩,l0h,l0h]
       rw[hr,bsome,app_ok (by simp only[l01,l0a];omega),bsome,hsl,bsome,show ((2 ^ (c-2):Nat):Int)-1=((2 ^ (c-2)-1:Nat):Int) by omega,chk_ok Om Om,bsome,hand,bsome,bsome];refine b64_L1 p hp d (i+1) m _ _ (c-2) Om Om Om (by rw[l05,l0F];omega) Om ?_;have:=Nat.and_le_right (n:=w) (m:=2 ^ (c-2)-1);omega
     rw[if_neg Om,bsome];exact b64_L1 p hp d (i+1) m out w (c+6) Om Om Om Om Om hor
   obtain rfl:i=p.length:=by omega
   rw[Y0u,if_neg Om];exact⟨out,G,E⟩
theorem b64_tot (p:Bt)(hp:p.length<=12000):∃l,Y38 p=some (l,(0,0))/\l.length<=12000:=by
 obtain⟨o,E,J⟩:=b64_L1 p Om p.length 0 FU [] 0 0 Om (FU_gt Om) Om Sm Dc Dc;have u:Y0u p FU [] 0 0 0=some o:=E;unfold Y38;rw[if_neg Om,u,bsome,none_eq,bsome];exact⟨o,G,by omega⟩
theorem bhas_eq (p s:Bt)(hp:p.length<=1000000)(hs:s.length<=1000000):∃b,Y1l p s=some b/\(b=true->s.length<=p.length):=by
 unfold Y1l;by_cases h:(s.length:Int)<=(p.length:Int)
 . rw[if_pos h,show (p.length:Int)-(s.length:Int)=((p.length-s.length:Nat):Int) by omega,chk_ok Om Om,bsome,cut_from rfl Om,bsome];unfold Y2Q;rw[bsome,bsome];exact⟨_,G,fun _=>by omega⟩
 rw[if_neg h,bsome];exact⟨false,G,fun h=>by cases h⟩
theorem btrim_tot (p s:Bt)(hp:p.length<=1000000)(hs:s.length<=1000000):∃r,Y0r p s=some r/\r.length<=p.length:=by
 obtain⟨b,u,E⟩:=bhas_eq p s hp hs;unfold Y0r;rw[u,bsome];cases b with
 | true =>
   have:=E rfl;rw[if_pos rfl,show (p.length:Int)-(s.length:Int)=((p.length-s.length:Nat):Int) by omega,chk_ok Om Om,bsome,cut_to rfl Om,bsome];exact⟨_,G,by rw[l0c];omega⟩
 | false=>rw[if_neg l00];exact ⟨p,rfl,l07 _⟩
theorem bset_eq : Y2N [32,9]=some ((List.range 256).map (fun n=>decide (n=32∨n=9)),true):=by decide +kernel
theorem bcont_at (f:Nat->Bool)(c:UInt8):Y1m ((List.range 256).map f) c=some (f c.toNat):=by
 have hc:c.toNat<256:=c.toNat_lt;unfold Y1m idxA;rw[if_pos (by rw[l0l,l1H])];rw[idx_nat,List.getElem?_map,List.getElem?_range hc];rfl
theorem btr_L1 (f:Nat->Bool):∀(m:Nat) (l:Bt),l.length<m->l.length<=1000000->∃r,Y0z ((List.range 256).map f) m l=some r/\r.length<=l.length
 | 0,l,h,_=>by omega
 | m + 1,l,h,hl=>by
   rw[Y0z];by_cases J:l.length=0
   . rw[if_neg Om];exact ⟨l,rfl,l07 _⟩
   rw[if_pos Om,show (l.length:Int)-1=((l.length-1:Nat):Int) by omega,chk_ok Om Om,bsome,idx_nat,List.getElem?_eq_getElem Om,bsome,bcont_at,bsome,bsome,cut_to rfl Om,bsome];split
   . obtain⟨r,u,E⟩:=btr_L1 f m (l.take (l.length-1)) (by rw[l0c];omega) (by rw[l0c];omega);exact⟨r,u,by rw[l0c] at E;omega⟩
   exact⟨l,G,l07 _⟩
theorem btrimR_tot (l:Bt)(hl:l.length<=1000000):∃r,Y2R l [32,9]=some r/\r.length<=l.length:=by
 unfold Y2R;by_cases h:l.length=0
 . rw[if_pos Om,bsome,if_pos rfl];exact ⟨l,rfl,l07 _⟩
 obtain⟨r,u,E⟩:=btr_L1 (fun n=>decide (n=32∨n=9)) FU l (FU_gt Om) hl;rw[if_neg Om,bsome,if_neg Dc,if_neg Dc,bsome,if_neg l00,bset_eq,bsome];dsimp only;rw[Go.Ph.Pf.rep_len,bsome,chkA_ok (by rw[l0l,l1H]),bsome,if_pos rfl];unfold Y2l;rw[u,bsome,bsome];exact⟨r,G,E⟩
theorem hex_tot (c:UInt8):∃a b,Y3N c=some (a,b):=by
 unfold Y3N;have key :∀(p q:Prop) [Decidable p] [Decidable q],∃b,(if p then some (decide q) else some false:Option Bool)=some b:=fun p q _ _=>by split <;> exact⟨_,rfl⟩
 obtain⟨u,E⟩:=key (48<=c.toNat) (c.toNat<=57);obtain⟨J,K⟩:=key (65<=c.toNat) (c.toNat<=70);obtain⟨N,O⟩:=key (97<=c.toNat) (c.toNat<=102);rw[E,K,O,bsome];cases u
 . rw[if_neg l00,bsome];cases J
   . rw[if_neg l00,bsome];cases N
     . rw[if_neg l00];exact ⟨_,_,rfl⟩
     rw[if_pos rfl];exact ⟨_,_,rfl⟩
   rw[if_pos rfl];exact ⟨_,_,rfl⟩
 rw[if_pos rfl];exact ⟨_,_,rfl⟩
theorem pair_tot (l:Bt):∃a b,Y2q l=some (a,b)/\(b=true->2<=l.length):=by
 unfold Y2q;by_cases h:(l.length:Int)<(2:Int)
 . rw[if_pos h];exact ⟨_,_,rfl,fun h=>by cases h⟩
 rw[if_neg h];have hx:idx l 0=some l[0]:=by rw[show (0:Int)=((0:Nat):Int) from rfl,idx_nat];exact List.getElem?_eq_getElem Om
 have hy:idx l 1=some l[1]:=by rw[show (1:Int)=((1:Nat):Int) from rfl,idx_nat];exact List.getElem?_eq_getElem Om
 obtain⟨a,b,u⟩:=hex_tot l[0];obtain⟨c,d,E⟩:=hex_tot l[1];rw[hx,bsome,u,bsome];dsimp only;rw[hy,bsome,E,bsome];dsimp only;cases b
 . rw[if_neg l00,bsome];exact ⟨_,_,rfl,fun _=>by omega⟩
 rw[if_pos rfl,bsome];exact ⟨_,_,rfl,fun _=>by omega⟩
theorem qpl_L1 (p:Bt)(hp:p.length<=1000000):∀(d i m:Nat) (out:Bt),p.length-i<=d->d<m->i<=p.length->out.length<=i->∃o,quoted_plain_L1 p m out (i:Int)=some o/\o.length<=p.length
 | d,i,0,out,O,U,V,E=>by omega
 | d, i, m+1,out,O,U,V,E=>by
   by_cases hi:i<p.length
   . obtain⟨d,rfl⟩ :∃q,d=q+1:=⟨d-1,by omega⟩
     have hx:=List.getElem?_eq_getElem hi;have plain :∃o,((idx p (i:Int)).bind fun J=>(app 1 out ([J]:Bt)).bind fun K=>(chk ((i:Int)+1)).bind fun N=>quoted_plain_L1 p m K N)=some o/\o.length<=p.length:=by
      rw[idx_nat,hx,bsome,app_ok (by simp only[l01,l0a];omega),bsome,chk_succ Om,bsome];exact qpl_L1 p hp d (i+1) m _ Om Om Om (by rw[l05,l0F];omega)
     rw[quoted_plain_L1,if_pos Om,idx_nat,hx,bsome];rw[idx_nat,hx] at plain;by_cases u:p[i]=61
     . rw[if_pos u,chk_succ Om,bsome,show (i:Int)+3=((i+3:Nat):Int) by omega,chk_ok Om Om,bsome,cut_of (a:=i+1) (b:=min (i+3) p.length) rfl Om Om Om,bsome];obtain⟨a,b,hq,hb⟩:=pair_tot ((p.take (min (i+3) p.length)).drop (i+1));rw[hq,bsome];dsimp only;cases b with
       | true =>
         have h2l:=hb rfl;rw[l04,l0c] at h2l;rw[if_pos rfl,app_ok (by simp only[l01,l0a];omega),bsome,show (i:Int)+2=((i+2:Nat):Int) by omega,chk_ok Om Om,bsome,bsome];dsimp only;rw[chk_succ Om,bsome];exact qpl_L1 p hp d (i+2+1) m _ Om Om Om (by rw[l05,l0F];omega)
       | false =>
         rw[if_neg l00,bsome];dsimp only;rw[idx_nat,hx];exact plain
     rw[if_neg u,bsome];dsimp only;rw[idx_nat,hx];exact plain
   obtain rfl:i=p.length:=by omega
   rw[quoted_plain_L1,if_neg Om];exact⟨out,G,E⟩
theorem qpl_tot (p:Bt)(hp:p.length<=1000000):∃o,quoted_plain p=some o/\o.length<=p.length:=by
 obtain⟨o,E,J⟩:=qpl_L1 p hp p.length 0 FU [] Om (FU_gt Om) Om Sm;have u:quoted_plain_L1 p FU [] 0=some o:=E;unfold quoted_plain;rw[u,bsome];exact⟨o,G,J⟩
theorem ql_L1 :∀(m:Nat) (l out:Bt),l.length<m->out.length+l.length<=48000->∃o,quoted_Lenient_L1 m l out=some o/\o.length<=out.length+l.length
 | 0,l,out,h,_=>by omega
 | m+1,l,out,h,hl=>by
   rw[quoted_Lenient_L1];by_cases h0:l.length=0
   . rw[if_neg Om];exact ⟨out,rfl,by omega⟩
   rw[if_pos Om];unfold Y1k;rw[bsome];have hix:=ixB_lt l 10;generalize ixB l 10=z at hix ⊢;have hix : -1<=z/\z<l.length:=by omega
   rw[chk_ok Om Om,bsome];obtain⟨n,hn,a9,K⟩ :∃n:Nat,((if z+1=(0:Int) then some (l.length:Int) else some (z+1)):Option Int)=some (n:Int)/\1<=n/\n<=l.length:=by
    split
    . exact⟨l.length,G,by omega,l07 _⟩
    exact⟨(z+1).toNat,by congr 1;omega,by omega,by omega⟩
   rw[hn,bsome,cut_to rfl K,bsome];have hlt:(l.take n).length=n:=by rw[l0c];omega
   obtain⟨r,Y,t2⟩:=btrim_tot (l.take n) [10] Om Dc;rw[Y,bsome];obtain⟨E,Z,t4⟩ :∃E,((if (r.length:Int)<(n:Int) then(Y0r r ([13]:Bt)).bind fun N=>some N else some r):Option Bt)=some E/\E.length<=n:=by
    split
    . obtain⟨E,a1,a2⟩:=btrim_tot r [13] Om Dc;exact⟨E,by rw[a1,bsome],by omega⟩
    exact⟨r,G,by omega⟩
   obtain⟨J,t5,t6⟩:=btrimR_tot E Om;obtain⟨b,t7,t8⟩:=bhas_eq J [61] Om Dc;rw[Z,bsome,cut_of rfl rfl Om Om,bsome,t5,bsome,t7,bsome];have hcl:((l.take n).drop E.length).length=n-E.length:=by rw[l04,hlt]
   obtain⟨u,v,t9,aa⟩ :∃u v:Bt,((if b=true then(chk ((J.length:Int)-1)).bind fun O=>(cut J 0 O).bind fun U=>some (U,[]) else some (J,(l.take n).drop E.length)):Option (Bt × Bt))=some (u,v)/\u.length+v.length<=n:=by
    cases b with
    | true =>
      have:=t8 rfl;simp only[l01,l0a] at this;rw[if_pos rfl,show (J.length:Int)-1=((J.length-1:Nat):Int) by omega,chk_ok Om Om,bsome,cut_to rfl Om,bsome];exact⟨_,_,G,by rw[l0c,l0a];omega⟩
    | false =>
      rw[if_neg l00];exact⟨_,_,G,by omega⟩
   rw[t9,bsome];dsimp only;obtain⟨w,V,ab⟩:=qpl_tot u Om;rw[V,bsome,app_ok Om,bsome,app_ok (by rw[l05];omega),bsome,cut_from rfl K,bsome];obtain⟨o,o1,o2⟩:=ql_L1 m (l.drop n) (out++w++v) (by rw[l04];omega) (by simp only[l05,l04];omega);exact⟨o,o1,by simp only[l05,l04] at o2;omega⟩
theorem ql_tot (p:Bt)(hp:p.length<=12000):∃l,quoted_Lenient p=some (l,(0,0))/\l.length<=12000:=by
 obtain⟨o,u,E⟩:=ql_L1 FU p [] (FU_gt Om) (by simp;omega);unfold quoted_Lenient;rw[if_neg Om,u,bsome,none_eq,bsome];exact⟨o,G,by simp at E;omega⟩
theorem find_tot (n:Bt)(hn:Big n):∃s k ok,transfer_find n=some (s,k,ok)/\(ok=true->k=1∨k=2∨k=3):=by
 have hL :∀l:List (Bt × Nat),(∀c∈l,Big c.1/\(c.2=1∨c.2=2∨c.2=3))->∃s k ok,transfer_findL n l=some (s,k,ok)/\(ok=true->k=1∨k=2∨k=3):=by
  intro l;induction l with
  | nil=>intro _;exact ⟨_,_,_,rfl,fun h=>by cases h⟩
  | cons c l ih =>
    intro h;obtain⟨u,E⟩:=h c (l0q ..);rw[transfer_findL,same_eq u hn,bsome];split
    . exact⟨_,_,_,G,fun _=>E⟩
    exact ih (fun d hd=>h d (l0u _ hd))
 exact hL _ (by
  intro c hc;simp only[l0S,l0T,or_false] at hc;rcases hc with rfl|rfl|rfl|rfl
  . exact⟨by decide, .inl G⟩
  . exact⟨by decide, .inl G⟩
  . exact⟨by decide, .inr (.inl G)⟩
  exact⟨by decide, .inr (.inr G)⟩)
theorem dec_tot (p n:Bt)(hp:p.length<=12000)(hn:Big n):∃l c i,transfer_Decode p n=some (l,(c,i))/\l.length<=12000:=by
 obtain⟨s,k,ok,J,K⟩:=find_tot n hn;unfold transfer_Decode transfer_valid;rw[J,bsome];dsimp only;cases ok with
 | false =>
   rw[if_neg l00,fault_eq,bsome,bsome];dsimp only;rw[failed_eq,bsome,if_pos Dc];exact⟨_,_,_,G,l0o _⟩
 | true =>
   rw[if_pos rfl,if_neg Om,none_eq,bsome,bsome];dsimp only;rw[failed_eq,bsome,if_neg Dc];unfold transfer_dec;rcases K rfl with rfl|rfl|rfl
   . rw[if_pos rfl];unfold transfer_copied;rw[app_ok (by simp only[l0a];omega),bsome,none_eq,bsome];exact⟨_,_,_,G,by rw[l03];exact hp⟩
   . rw[if_neg Dc,if_pos rfl];obtain⟨l,u,E⟩:=b64_tot p hp;exact⟨l,_,_,u,E⟩
   rw[if_neg Dc,if_neg Dc,if_pos rfl];obtain⟨l,u,E⟩:=ql_tot p hp;exact⟨l,_,_,u,E⟩
theorem content_tot (p:P3)(h:BF p.1)(hb:p.2.1.length<=12000):∃l,view_Content p=some l/\l.length<=12000:=by
 have hL :∀(d i m:Nat),p.1.length-i<=d->d<m->i<=p.1.length->∃o,view_Content_L1 p m (i:Int)=some o/\∀l,o = .inr l->l.length<=12000:=by
  intro d;induction d with
  | zero =>
    intro i m E J V;obtain⟨m,rfl⟩ :∃k,m=k+1:=⟨m-1,by omega⟩
    obtain rfl:i=p.1.length:=by omega
    rw[view_Content_L1,if_neg Om];exact⟨_,G,fun l hl=>by cases hl⟩
  | succ d ih =>
    intro i m E J V;obtain⟨m,rfl⟩ :∃k,m=k+1:=⟨m-1,by omega⟩
    by_cases hi:i<p.1.length
    . have hx:=h.big _ (l0D hi);have O:=h.1;rw[view_Content_L1,if_pos Om,idx_nat,List.getElem?_eq_getElem hi,bsome,same_eq hx.1 Dc,bsome,chk_succ Om];split
      . obtain⟨l,c,j,K,N⟩:=dec_tot p.2.1 p.1[i].2 hb hx.2;rw[K,bsome];dsimp only;split
        . rw[bsome];exact ih (i+1) m Om Om Om
        exact⟨_,G,fun l' hl'=>by cases hl';exact N⟩
      rw[bsome];exact ih (i+1) m Om Om Om
    obtain rfl:i=p.1.length:=by omega
    rw[view_Content_L1,if_neg Om];exact⟨_,G,fun l hl=>by cases hl⟩
 have O:=h.1;obtain⟨o,E,J⟩:=hL p.1.length 0 FU Om (FU_gt Om) Om;have U:view_Content_L1 p FU 0=some o:=E;unfold view_Content;rw[U,bsome];cases o with
 | inl u =>
   obtain⟨l,c,j,K,N⟩:=dec_tot p.2.1 [55,98,105,116] hb Dc;dsimp only;rw[K,bsome];exact⟨l,G,N⟩
 | inr l=>exact⟨l,rfl,J l rfl⟩
theorem sp_L2 :∀(k m:Nat) (l o:Bt) (n:Nat),l.length<=k->k<m->o.length+2*n+l.length<=12000->
 ∃(l' o':Bt) (n':Nat),Y0J (stepY goOn Y1x) ([13,10]:Bt) 0 m l (o,(n:Int))=some (.inl (l',(o',(n':Int))))/\o'.length+2*n'+l'.length<=12000:=by
 intro k;induction k using Nat.strongRecOn with
 | _ k ih =>
   intro m l o n E J u;obtain⟨m,rfl⟩ :∃k,m=k+1:=⟨m-1,by omega⟩
   rw[Y0J];unfold Y3j;rw[if_pos ⟨by decide,by omega,by decide⟩,bsome];have hge:=Lib.index_ge l [13,10];by_cases hi:Lib.index l [13,10]<0
   . rw[if_pos hi];exact⟨l,o,n,G,u⟩
   rw[if_neg hi];obtain⟨j,hj⟩ :∃j:Nat,Lib.index l [13,10]=(j:Int):=⟨(Lib.index l [13,10]).toNat,by omega⟩
   have hb:=Go.Ph.Sg.index_bound l [13,10] hj;simp only[l01,l0a] at hb;rw[hj,chk_ok Om Om,bsome,Int.add_zero,cut_to rfl Om,bsome,Go.Ph.Sg.cut_all,bsome];obtain⟨o',n',hs,hl⟩:=Go.Ph.Sg.step_tot (l.take j) o n (by rw[l0c];omega) Om Om;rw[l0c] at hl;unfold stepY goOn;rw[if_neg l00,hs];rw[l0J,bsome];dsimp only;rw[if_pos Kf,show ((j:Int)+(([13,10]:Bt).length:Int))=((j+2:Nat):Int) by simp,chk_ok Om Om,bsome,cut_from rfl Om,bsome];have:=ih (l.length-(j+2)) Om m (l.drop (j+2)) o' n' (by rw[l04];omega) Om (by rw[l04];omega);unfold stepY goOn at this;exact this
theorem cbody_tot (b:Bt)(hb:b.length<=12000):∃r,Y2G b=some r/\r.length<=12002:=by
 unfold Y2G Y3i;rw[if_neg Dc];obtain⟨l',o',n',E,K⟩:=sp_L2 b.length FU b [] 0 (l07 _) (FU_gt Om) (by simp;omega);have u:Y0J (stepY goOn Y1x) ([13,10]:Bt) 0 FU b ([],0)=some (.inl (l',(o',(n':Int)))):=E;rw[u,bsome];dsimp only;rw[Go.Ph.Sg.cut_all,bsome];obtain⟨J,N,hs,hl⟩:=Go.Ph.Sg.step_tot l' o' n' Om Om Om;unfold stepY goOn;rw[if_neg l00,hs,l0J,bsome];dsimp only;rw[bsome];exact⟨J,G,by omega⟩
end Go.Ph.Pt
end
section
namespace Go.Ph.Pt
open Go.Ph.Pl Go.Ph.Pf
open Go.Ph.Chs (lowB lower)
open Go.Ph.Hd (valR readR headB fieldB)
theorem fL1_tot (l:List Fld)(h:(valR l).1=0):∃r,Y0v l FU [] 0=some r/\r.length<=250000:=by
 obtain⟨J,Y,K⟩:=Go.Ph.Sg.okL_of h;have hL :∀(d i m:Nat) (o:Bt),l.length-i<=d->d<m->i<=l.length->o.length<=4100*i->∃r,Y0v l m o (i:Int)=some r/\r.length<=4100*l.length:=by
  intro d;induction d with
  | zero =>
    intro i m o N O U u;obtain⟨m,rfl⟩ :∃k,m=k+1:=⟨m-1,by omega⟩
    obtain rfl:i=l.length:=by omega
    rw[Y0v,if_neg Om];exact⟨o,G,u⟩
  | succ d ih =>
    intro i m o N O U u;obtain⟨m,rfl⟩ :∃k,m=k+1:=⟨m-1,by omega⟩
    by_cases hi:i<l.length
    . have hx:=K _ (l0D hi);have hk:=J _ (l0D hi);rw[Y0v,if_pos Om,idx_nat,List.getElem?_eq_getElem hi,bsome,same_eq hx.1 Dc,same_eq hx.1 Dc,bsome,bsome,chk_succ Om];obtain⟨b,hb⟩ :∃b,((if decide (lower l[i].1=lower [82,101,99,101,105,118,101,100])=true then some false else some (!decide (lower l[i].1=lower [67,111,110,116,101,110,116,45,84,114,97,110,115,102,101,114,45,69,110,99,111,100,105,110,103])):Option Bool))=some b:=by split <;> exact⟨_,rfl⟩
      rw[hb,bsome];cases b with
      | true =>
        obtain⟨s,E,V⟩:=Go.Ph.Sg.cfield_tot l[i] hk.1 hk.2;rw[if_pos rfl,E,bsome,app_ok Om,bsome,bsome];exact ih (i+1) m _ Om Om Om (by rw[l05];omega)
      | false =>
        rw[if_neg l00,bsome];exact ih (i+1) m o Om Om Om Om
    obtain rfl:i=l.length:=by omega
    rw[Y0v,if_neg Om];exact⟨o,G,u⟩
 obtain⟨r,E,V⟩:=hL l.length 0 FU [] Om (FU_gt Om) Om Sm;exact⟨r,E,by omega⟩
theorem itoa_len (n:Int):(itoaP n).length<=21:=Go.Ph.Md.itoa_len n
theorem itoa_eq (n:Nat)(h:n<=9223372036854775807):strconv_Itoa (n:Int)=some (itoaP n):=Go.Ph.Md.itoa_eq n h
def fY (s:Bt)(v:V4):Option Bt:=Y0o s (0,(v.1,v.2.1,v.2.2.1))
theorem fY_tot (s:Bt)(v:V4)(hs:s.length<=100000000)(u:BF v.1)(E:v.2.1.length<=12000)(O:v.2.2.1.length<=40)(J:(valR v.1).1=0):∃r,fY s v=some r/\r.length<=s.length+300000:=by
 obtain⟨l,b,c,d⟩:=v;dsimp only at u E O J;unfold fY Y0o;dsimp only;obtain⟨f,U,f2⟩:=fL1_tot l J;rw[U,bsome];obtain⟨t,V,t2⟩ :∃t,((if (c.length:Int)=(0:Int) then(view_Content (l,b,c)).bind fun K=>(Y2G K).bind fun N=>some N else some []):Option Bt)=some t/\t.length<=12002:=by
  split
  . obtain⟨x,Y,Z⟩:=content_tot (l,b,c) u E;obtain⟨y,y1,y2⟩:=cbody_tot x Z;exact⟨y,by rw[Y,bsome,y1,bsome],y2⟩
  exact⟨[],G,l0o _⟩
 have i1:=itoa_len c.length;have i2:=itoa_len f.length;have i3:=itoa_len t.length;rw[V,bsome,itoa_eq _ Om,bsome,cat_ok (by simp only[l01,l0a];omega),bsome,itoa_eq _ Om,bsome,cat_ok (by simp only[l05,l01,l0a];omega),bsome,cat_ok (by simp only[l05,l01,l0a];omega),bsome,itoa_eq _ Om,bsome,
  cat_ok (by simp only[l05,l01,l0a];omega),bsome,cat_ok (by simp only[l05,l01,l0a];omega),bsome,app_ok (by simp only[l05,l01,l0a];omega),bsome,app_ok (by simp only[l05,l01,l0a];omega),bsome,app_ok (by simp only[l05,l01,l0a];omega),bsome]
 exact⟨_,G,by simp only[l05,l01,l0a];omega⟩
def frm : List V4->Bt->Option Bt
 | [],s=>some s
 | v::l,s=>(fY s v).bind fun s'=>frm l s'
theorem frm_run :∀(l:List V4) (n:Int) (s:Bt),runL (stepY exStop fun(s:Bt × Nat) (x:Int × V4)=>(stepY goOn Y0o s.1 (x.1,(x.2.1,x.2.2.1,x.2.2.2.1))).bind fun r=>some (r.1,if r.2=true then 0 else 1)) (Y0t n l) (s,0)=(frm l s).map fun s'=>(s',0)
 | [],n,s=>rfl
 | v :: l,n,s=>by
   obtain⟨a,b,c,d⟩:=v;rw[Y0t,runL,frm];have hf:Y0o s (n,(a,b,c))=fY s (a,b,c,d):=rfl;have hs:stepY exStop (fun(s:Bt × Nat) (x:Int × V4)=>(stepY goOn Y0o s.1 (x.1,(x.2.1,x.2.2.1,x.2.2.2.1))).bind fun r=>some (r.1,if r.2=true then 0 else 1)) (s,0) (n,a,b,c,d)=(fY s (a,b,c,d)).map fun s'=>((s',0),true):=by
    rw[stepY,if_neg (by simp [exStop]),stepY,if_neg (by simp [goOn]),hf];cases fY s (a,b,c,d) with
    | none=>rfl
    | some s'=>simp [exStop,goOn]
   rw[hs];cases u:fY s (a,b,c,d) with
   | none=>rfl
   | some s' =>
     rw[l0J,bsome,bsome];dsimp only;rw[if_pos rfl,frm_run l (n+1) s']
theorem form_all {p:P3}{l:List V4}(h:Y0n FU 0 p=some l)(hl:l.length<=1000):Y3M p Bt (stepY goOn Y0o) []=frm l []:=by
 unfold Y3M;rw[each_eq h hl,frm_run];cases frm l [] with
 | none=>rfl
 | some s=>rfl
theorem frm_tot :∀(l:List V4) (s:Bt),(∀v∈l,BF v.1/\v.2.1.length<=12000/\v.2.2.1.length<=40/\(valR v.1).1=0)->s.length+300000*l.length<=100000000->∃r,frm l s=some r/\r.length<=100000000
 | [],s,h,hs=>⟨s,rfl,by simpa using hs⟩
 | v::l,s,h,hs=>by
   rw[l01] at hs;obtain⟨a,b,c,d⟩:=h v (l0q ..);obtain⟨r,u,E⟩:=fY_tot s v Om a b c d;rw[frm,u,bsome];exact frm_tot l r (fun w hw=>h w (l0u _ hw)) Om
theorem form_of {m:List Fld × Bt}{p:P3}{l:List V4}(hs:Y2X m=some (p,(0,0)))(h:Y0n FU 0 p=some l)(hl:l.length<=1000):Y12 m=(frm l []).map fun s=>(s,(0,0)):=by
 unfold Y12;obtain⟨u,E,J⟩:=p;rw[show (m.1,m.2)=m from rfl,hs,bsome];dsimp only;rw[failed_eq,bsome,if_neg Dc,show Y5b (u,E,J)=some (u,E,J) from rfl,bsome];dsimp only;rw[form_all h hl,none_eq];cases frm l [] with
 | none=>rfl
 | some s=>rfl
theorem split_parts {p:P3}(ht:Tr 8 p)(hz:sz 8 p<=40)(hv:Y1W p=some (0,0)):∃l,Y0n FU 0 p=some l/\Y0n 9 0 p=some l/\l.length<=40/\∀v∈l,BF v.1/\v.2.1.length<=12000/\v.2.2.1.length<=40/\(valR v.1).1=0/\Y25 v=some 0/\v.2.2.2<=8/\0<=v.2.2.2:=by
 obtain⟨l,E,l2,l3,u⟩:=pre_all Dc ht;obtain⟨c,i,J,N⟩:=val_tot E Om (fun v hw=>⟨(u v hw).1,(u v hw).2.1⟩);rw[hv] at J;cases J;obtain⟨_,O,K⟩:=N rfl;refine⟨l,E,l2,by omega,fun v hw=>?_⟩;obtain⟨a,b,c,d,e⟩:=u v hw;exact⟨a,b,c,(check_zero a b (K v hw)).1,K v hw,O v hw,d⟩
theorem form_tot (m:List Fld × Bt)(hb:BigF m.1)(hm:m.2.length<=140737488355328):∃f c i,Y12 m=some (f,(c,i))/\f.length<=100000000:=by
 obtain⟨p,c,i,u,E,J⟩:=split_tot m hb hm;by_cases hc:c=0
 . obtain⟨rfl,_,_,K,_,N,O⟩:=J hc;subst hc;obtain⟨l,U,_,l2,l3⟩:=split_parts K N O;obtain⟨r,V,Y⟩:=frm_tot l [] (fun v hv=>by obtain⟨a,b,c,d,_⟩:=l3 v hv;exact ⟨a,b,c,d⟩) (by simp;omega);rw[form_of u U Om,V];exact⟨r,0,0,G,Y⟩
 unfold Y12;obtain rfl:=E hc;rw[show (m.1,m.2)=m from rfl,u,bsome];dsimp only;rw[failed_eq,bsome,decide_eq_false hc,if_pos Dc];exact⟨_,_,_,G,l0o _⟩
theorem sum_tot (b:Bt)(hb:b.length<=100000000):∃x,Y3z b=some x:=by
 have hL :∀(d i m:Nat) (n:Int),b.length-i<=d->d<m->i<=b.length->∃x,Y0L b m n (i:Int)=some x:=by
  intro d;induction d with
  | zero =>
    intro i m n u E J;obtain⟨m,rfl⟩ :∃k,m=k+1:=⟨m-1,by omega⟩
    obtain rfl:i=b.length:=by omega
    rw[Y0L,if_neg Om];exact⟨n,G⟩
  | succ d ih =>
    intro i m n u E J;obtain⟨m,rfl⟩ :∃k,m=k+1:=⟨m-1,by omega⟩
    by_cases hi:i<b.length
    . rw[Y0L,if_pos Om,idx_nat,List.getElem?_eq_getElem hi,bsome,chk_succ Om,bsome];exact ih (i+1) m _ Om Om Om
    obtain rfl:i=b.length:=by omega
    rw[Y0L,if_neg Om];exact⟨n,G⟩
 obtain⟨x,hx⟩:=hL b.length 0 FU 14695981039346656037 Om (FU_gt Om) Om;have hx':Y0L b FU 14695981039346656037 0=some x:=hx;unfold Y3z;rw[hx',bsome];exact⟨x,G⟩
theorem digest_tot (m:List Fld × Bt)(hb:BigF m.1)(hm:m.2.length<=140737488355328):∃x c i,Y2a m=some (x,(c,i)):=by
 obtain⟨f,c,i,u,E⟩:=form_tot m hb hm;unfold Y2a;rw[show (m.1,m.2)=m from rfl,u,bsome];dsimp only;rw[failed_eq,bsome];split
 . exact⟨_,_,_,G⟩
 obtain⟨x,hx⟩:=sum_tot f E;rw[hx,bsome,none_eq,bsome];exact⟨_,_,_,G⟩
theorem crAt (p:Bt)(hp:p.length<=1000000)(i:Nat)(hi:i<p.length):((if p[i]=13 then(chk ((i:Int)+1)).bind fun u=>(if u<(p.length:Int) then(chk ((i:Int)+1)).bind fun E=>(idx p E).bind fun J=>some (decide (J=10)) else some false) else some false):Option Bool)=some (decide (p[i]=13/\p[i+1]? = some 10)):=by
 by_cases h:p[i]=13
 . rw[if_pos h,chk_succ Om,bsome];by_cases K:i+1<p.length
   . rw[if_pos Om,bsome,idx_nat,List.getElem?_eq_getElem K,bsome];simp [h]
   rw[if_neg Om,List.getElem?_eq_none Om];simp
 rw[if_neg h];simp [h]
theorem lines_ok (p:Bt)(hp:p.length<=1000000):∀(d i m u:Nat) (col:Int) (out:Bt),p.length-i<=d->d<u->i<=p.length->out.length<=i->Y0c p m col (i:Int)=some (.inl ())->Y0K p u out (i:Int)=some (out++p.drop i)
 | d,i,0,u,col,out,O,U,V,Y,h=>by rw[Y0c] at h;cases h
 | d,i,m+1,0,col,out,O,U,V,Y,h=>by omega
 | d,i,m+1,u+1,col,out,O,U,V,Y,h=>by
   by_cases hi:i<p.length
   . obtain⟨d,rfl⟩ :∃q,d=q+1:=⟨d-1,by omega⟩
     have hx:=List.getElem?_eq_getElem hi;rw[Y0c,if_pos Om,idx_nat,hx,bsome,crAt p hp i hi,bsome] at h;rw[Y0K,if_pos Om,idx_nat,hx,bsome,crAt p hp i hi,bsome];by_cases hc:p[i]=13/\p[i+1]? = some 10
     . have hl:i+1<p.length:=(List.getElem?_eq_some_iff.1 hc.2).1;rw[decide_eq_true hc,if_pos rfl,chk_succ Om,bsome,chk_succ Om,bsome] at h;rw[decide_eq_true hc,if_pos rfl,chk_succ Om,bsome,app_ok (by simp only[l01,l0a];omega),bsome,chk_succ Om,bsome];rw[lines_ok p hp d (i+1+1) m u 0 _ Om Om Om (by simp only[l05,l01,l0a];omega) h,drop_cons hi,drop_cons hl,hc.1,show p[i+1]=10 from(List.getElem?_eq_some_iff.1 hc.2).2];simp
     rw[decide_eq_false hc,if_neg l00] at h;rw[decide_eq_false hc,if_neg l00,bsome];by_cases E:p[i]=13
     . rw[if_pos E,bsome,if_pos rfl] at h;cases h
     rw[if_neg E] at h;rw[if_neg E,bsome];by_cases J:p[i]=10
     . rw[decide_eq_true J,bsome,if_pos rfl] at h;cases h
     rw[decide_eq_false J,bsome,if_neg l00] at h;obtain⟨K,Z,h⟩:=bnd h;rw[decide_eq_false J,bsome,if_neg l00,bsome,app_ok (by simp only[l01,l0a];omega),bsome,chk_succ Om,bsome];by_cases N:(998:Int)<K
     . rw[if_pos N] at h;cases h
     rw[if_neg N,chk_succ Om,bsome] at h;rw[lines_ok p hp d (i+1) m u K _ Om Om Om (by simp only[l05,l01,l0a];omega) h,drop_cons hi];simp
   obtain rfl:i=p.length:=by omega
   rw[Y0K,if_neg Om,l0B,l0f]
theorem body_ne (p:Bt)(hp:p.length<=1000000):∀(d i m:Nat) (col:Int),p.length-i<=d->i<=p.length->0<=d->¬Y0c p m col (i:Int)=some (.inr 0)
| d, i, 0, col, h1, h2, h3 => by rw [Y0c]; intro h; cases h
| d, i, m + 1, col, h1, h2, h3 => by
  by_cases hi : i < p.length
  · obtain ⟨d, rfl⟩ : ∃ q, d = q + 1 := ⟨d - 1, by omega⟩
    rw [Y0c, if_pos (by omega), idx_nat, List.getElem?_eq_getElem hi, bsome, crAt p hp i hi, bsome]
    intro h
    by_cases hc : p[i] = 13 ∧ p[i + 1]? = some 10
    · have hl : i + 1 < p.length := (List.getElem?_eq_some_iff.1 hc.2).1
      rw [decide_eq_true hc, if_pos rfl, chk_succ (by omega), bsome, chk_succ (by omega), bsome] at h
      exact body_ne p hp d (i + 1 + 1) m 0 (by omega) (by omega) (by omega) h
    · rw [decide_eq_false hc, if_neg Bool.false_ne_true] at h
      obtain ⟨b, _, h⟩ := bnd h
      cases b with
      | true => rw [if_pos rfl] at h; cases h
      | false =>
        rw [if_neg Bool.false_ne_true] at h
        obtain ⟨n26, h26, h⟩ := bnd h
        by_cases h99 : (998 : Int) < n26
        · rw [if_pos h99] at h; cases h
        · rw [if_neg h99, chk_succ (by omega), bsome] at h
          exact body_ne p hp d (i + 1) m n26 (by omega) (by omega) (by omega) h
  · obtain rfl : i = p.length := by omega
    rw [Y0c, if_neg (by omega)]
    intro h; cases h
theorem body_lines (p:Bt)(hp:p.length<=1000000)(h:Y2s p=some 0):Y3w p=some p:=by
 unfold Y2s at h;obtain⟨o,E,h⟩:=bnd h;cases o with
 | inr r=>exact absurd E (by
  dsimp only at h;rw[oI h];intro E;exact body_ne p hp p.length 0 FU 0 Om Om Om E)
 | inl u =>
   have:=lines_ok p hp p.length 0 FU FU 0 [] Om (FU_gt Om) Om Sm E;rw[show ((0:Nat):Int)=0 from rfl,l0t,l03] at this;unfold Y3w;rw[this,bsome]
theorem body_c2 (p:Bt)(hp:p.length<=1000000){c:Int}:∀(d i m:Nat) (col:Int),p.length-i<=d->i<=p.length->Y0c p m col (i:Int)=some (.inr c)->c=11∨c=1
| d, i, 0, col, h1, h2, h => by rw [Y0c] at h; cases h
| d, i, m + 1, col, h1, h2, h => by
  by_cases hi : i < p.length
  · obtain ⟨d, rfl⟩ : ∃ q, d = q + 1 := ⟨d - 1, by omega⟩
    rw [Y0c, if_pos (by omega), idx_nat, List.getElem?_eq_getElem hi, bsome, crAt p hp i hi, bsome] at h
    by_cases hc : p[i] = 13 ∧ p[i + 1]? = some 10
    · have hl : i + 1 < p.length := (List.getElem?_eq_some_iff.1 hc.2).1
      rw [decide_eq_true hc, if_pos rfl, chk_succ (by omega), bsome, chk_succ (by omega), bsome] at h
      exact body_c2 p hp d (i + 1 + 1) m 0 (by omega) (by omega) h
    · rw [decide_eq_false hc, if_neg Bool.false_ne_true] at h
      obtain ⟨b, _, h⟩ := bnd h
      cases b with
      | true => rw [if_pos rfl] at h; cases h; exact .inl rfl
      | false =>
        rw [if_neg Bool.false_ne_true] at h
        obtain ⟨n26, h26, h⟩ := bnd h
        by_cases h99 : (998 : Int) < n26
        · rw [if_pos h99] at h; cases h; exact .inr rfl
        · rw [if_neg h99, chk_succ (by omega), bsome] at h
          exact body_c2 p hp d (i + 1) m n26 (by omega) (by omega) h
  · obtain rfl : i = p.length := by omega
    rw [Y0c, if_neg (by omega)] at h
    cases h
theorem body_code (p:Bt)(hp:p.length<=1000000){c:Int}(h:Y2s p=some c):c=0∨c=11∨c=1:=by
 unfold Y2s at h;obtain⟨o,E,h⟩:=bnd h;cases o with
 | inl u=>exact .inl (oI h).symm
 | inr r =>
   dsimp only at h;rw[oI h] at E;exact .inr (body_c2 p hp p.length 0 FU 0 Om Om E)
theorem valid_ok {m:List Fld × Bt}(hb:BigF m.1)(hm:m.2.length<=140737488355328){b:Int}(h:Y0A m=some (0,b)):(valR m.1).1=0/\(headB m.1++m.2).length<=12000/\Y2s m.2=some 0/\b=0/\Y1P m=some (headB m.1++m.2):=by
 obtain⟨a',b',N,O⟩:=Go.Ph.Sg.mvalid m hb hm;rw[h] at N;cases N;obtain⟨E,U⟩:=O rfl;obtain⟨_,_,_⟩:=Go.Ph.Hd.valR_zero E;have hz:=(Go.Ph.Hd.valR_zero E).1;have hw:=Go.Ph.Sg.mw_eq m E hm;have he:m.1.flatMap fieldB++[13,10]++m.2=headB m.1++m.2:=rfl;rw[he] at hw;unfold Y0A at h;rw[Go.Ph.Hd.validate_eq m.1 hb,bsome,hz] at h;dsimp only at h;rw[failed_eq,bsome,if_neg Dc,show (m.1,m.2)=m from rfl,hw,bsome] at h;by_cases J:(12000:Int)<((headB m.1++m.2).length:Int)
 . rw[if_pos J,fault_eq,bsome] at h;cases h
 rw[if_neg J] at h;obtain⟨c,hc⟩:=bodyc_tot m.2 U;unfold Y2T at h;rw[hc,bsome] at h;by_cases u:c=11
 . rw[if_pos u,fault_eq,bsome,bsome] at h;cases h
 rw[if_neg u] at h;by_cases K:c=1
 . rw[if_pos K,fault_eq,bsome,bsome] at h;cases h
 rw[if_neg K,none_eq,bsome,bsome] at h;cases h;refine⟨E,by omega,?_,G,hw⟩;rw[hc];have:=body_code m.2 Om hc;rcases this with rfl|rfl|rfl
 . rfl
 . exact absurd G u
 exact absurd G K
theorem read_write {m:List Fld × Bt}(hb:BigF m.1)(hm:m.2.length<=140737488355328){b:Int}(h:Y0A m=some (0,b)):Y3p (headB m.1++m.2)=some (m,(0,0)):=by
 obtain⟨E,u,J,rfl,_⟩:=valid_ok hb hm h;have hr:=Go.Ph.Hd.read_back E m.2 u;unfold Y3p;rw[Go.Ph.Hd.readH_eq,hr,bsome];dsimp only;rw[failed_eq,bsome,if_neg Dc,cut_from rfl (by rw[l05];omega),bsome,l1L,body_lines m.2 (by rw[l05] at u;omega) J,bsome,show (m.1,m.2)=m from rfl,h,bsome];dsimp only;rw[failed_eq,bsome,if_neg Dc,none_eq,bsome]
theorem ml_ex : Y3y=some true:=by decide +kernel
theorem written_law (m:List Fld × Bt)(hb:BigF m.1)(hm:m.2.length<=140737488355328):Y2O m=some true:=by
 unfold Y2O;rw[ml_ex,bsome,if_pos rfl,show (m.1,m.2)=m from rfl];obtain⟨a,b,u,_⟩:=Go.Ph.Sg.mvalid m hb hm;have hw:Y32 m=(if a=0 then(Y1P m).map (fun l=>(l,((0:Int),(0:Int)))) else some ([],(a,b))):=by
  unfold Y32;rw[show (m.1,m.2)=m from rfl,u,bsome];dsimp only;rw[failed_eq,bsome];by_cases ha:a=0
  . rw[decide_eq_true ha,if_neg Dc,if_pos ha,none_eq];cases Y1P m <;> rfl
  rw[decide_eq_false ha,if_pos Dc,if_neg ha]
 rw[hw];by_cases ha:a=0
 . subst ha;obtain⟨_,_,_,_,hwr⟩:=valid_ok hb hm u;obtain⟨x,c,i,hd⟩:=digest_tot m hb hm;rw[if_pos rfl,hwr,l0J,bsome];dsimp only;rw[if_pos rfl,read_write hb hm u,bsome];dsimp only;rw[hd,bsome];dsimp only;rw[bsome];dsimp only;rw[if_pos rfl,if_pos ⟨rfl,rfl⟩,decide_eq_true rfl];rfl
 rw[if_neg ha,bsome];dsimp only;rw[if_neg ha];rfl
end Go.Ph.Pt
end
