/-
  Vm, Vb, Vc, Vd, Ve, Vf, Vg, Vh, Vi, Vj, Vk: own texts of this repository (wip/tpl, wip/plans), merged and shaken by wip/tools/pack.py.
-/
import Derived.Test.YtkgohbecojnfaaaGreatDoorE2e
set_option maxRecDepth 100000
set_option linter.unusedVariables false
set_option linter.unusedSimpArgs false
section
section
namespace Go.Ph.Md
open Go.Ph.Pl Go.Ph.Pf
open Go.Ph.Chs (vld lower)
abbrev Big (l:Ls):Prop:=l.length<=140737488355328
theorem foldI {α σ γ:Type}{L:Nat->σ->Int->Option γ}(l:List α)(F:σ->α->σ)(fin:σ->γ)(I:Nat->σ->Prop)
 (hend :∀m s,I l.length s->L (m+1) s (l.length:Int)=some (fin s))
 (hstep :∀m s i a,l[i]? = some a->I i s->I (i+1) (F s a)/\L (m+1) s (i:Int)=L m (F s a) ((i+1:Nat):Int)) :
 ∀(d i:Nat) (s:σ) (m:Nat),l.length-i=d->i<=l.length->d<m->I i s->L m s (i:Int)=some (fin ((l.drop i).foldl F s)):=by
 intro d;induction d with
 | zero =>
   intro i s m u E J hI;obtain⟨m,rfl⟩ :∃k,m=k+1:=⟨m-1,by omega⟩
   obtain rfl:i=l.length:=by omega
   rw[hend m s hI,l0I];rfl
 | succ d ih =>
   intro i s m u E J hI;obtain⟨m,rfl⟩ :∃k,m=k+1:=⟨m-1,by omega⟩
   have hi:i<l.length:=by omega
   obtain⟨hI',hL⟩:=hstep m s i l[i] (l06 hi) hI;rw[hL,ih (i+1) _ m Om Om Om hI',l0r hi];rfl
theorem foldI0 {α σ γ:Type}{L:Nat->σ->Int->Option γ}(l:List α)(F:σ->α->σ)(fin:σ->γ)(I:Nat->σ->Prop)(hl:l.length<=9223372036854775807)
 (hend :∀m s,I l.length s->L (m+1) s (l.length:Int)=some (fin s))
 (hstep :∀m s i a,l[i]? = some a->I i s->I (i+1) (F s a)/\L (m+1) s (i:Int)=L m (F s a) ((i+1:Nat):Int)) (s:σ) (u:I 0 s):L FU s 0=some (fin (l.foldl F s)):=by
 have:=foldI l F fin I hend hstep l.length 0 s FU Om Om (FU_gt hl) u;simpa using this
theorem Y42 {α β:Type}(f:α->List β):∀(l:List α) (o:List β),l.foldl (fun o a=>o++f a) o=o++l.flatMap f
 | [],o=>by simp
 | a::l,o=>by rw[l1H,Y42 f l];simp
theorem allB {p:UInt8->Prop}(h :∀n,n<256->p (UInt8.ofNat n))(c:UInt8):p c:=by
 have:=h c.toNat c.toNat_lt;rwa [UInt8.ofNat_toNat] at this
theorem Y0t (a b:Int):Y08 (a,b)=some (!decide (a=0)):=rfl
theorem Y0Z (a b:Int):Y03 a b=some (a,b):=by unfold Y03;rfl
theorem Y2Q : Y0k=some (0,0):=rfl
def tkB (c:UInt8):Bool:=decide (33<=c.toNat)&&(decide (c.toNat<=126) && !([40,41,60,62,64,44,59,58,92,34,47,91,93,63,61,42,37,39]:Ls).any (fun x=>decide (x=c)))
theorem Y4r (c:UInt8):Y17 c=some (tkB c):=by
 refine allB (p:=fun c=>Y17 c=some (tkB c)) ?_ c;decide +kernel
theorem YbW (l:Ls)(hl:Big l)(g:UInt8->Option Bool)(p:UInt8->Bool)(hg :∀c,g c=some (p c)):Y3f l g=some (l.all p):=by
 unfold Y3f;rw[scan0 (L:=Y1X l g) (l:=l) (p:=fun c => !p c) (stop := .inl ()) (r := .inr false) (FU_gt Om) (fun m=>by rw[Y1X,l00 Om]) (fun m i h=>by
  rw[Y1X,l01 Om,idx_nat,l06 h,chk_succ (by have:=hl;omega)];simp only[bsome,hg];cases p l[i] <;> simp)]
 simp only[bsome];rw[List.all_eq_not_any_not];cases l.any (fun c => !p c) <;> simp
def tkT (l:Ls):Bool:=l.all tkB&&decide (1<=l.length/\l.length<=60)
theorem Y7m (l:Ls)(hl:Big l):Y3h l=some (tkT l):=by
 unfold Y3h tkT;by_cases h:l=[]
 . subst h;rfl
 have hpos:1<=l.length:=by cases l <;> simp_all
 rw[l00 h];by_cases u:l.length<=60
 . rw[l01 Om,YbW l hl _ tkB Y4r];simp [hpos,u]
 rw[l00 Om];simp [u]
theorem Y4R {l:Ls}(h:tkT l=true):1<=l.length/\l.length<=60:=by
 unfold tkT at h;rw[l0n,decide_eq_true_eq] at h;exact h.2
theorem Y4S {l:Ls}(h:tkT l=true):∀c∈l,tkB c=true:=by
 unfold tkT at h;rw[l0n,l0C] at h;exact h.1
theorem Y3p {a b:Ls}(ha:Big a)(hb:Big b):Y0X a b=some (decide (lower a=lower b)):=Go.Ph.Sg.Y3p ha hb
abbrev Par : Type:=Ls × Ls
abbrev Med : Type:=Ls × Ls × List Par
abbrev BigP (l:List Par):Prop :=∀x∈l,Big x.1/\Big x.2
abbrev BigM (m:Med):Prop:=Big m.1/\Big m.2.1/\BigP m.2.2
def smP (x y:Par):Bool:=decide (lower y.1=lower x.1)
def pf1 (pre:List Par)(x:Par):Int:=if tkT x.1=true/\x.1.length<=20 then(if pre.any (smP x)=true then 7 else if 500<x.2.length then 1 else if vld x.2=true then 0 else 5) else 10
def pfz (pre:List Par):List Par->Int × Int
 | []=>(0,0)
 | x::r=>if pf1 pre x=0 then pfz (pre++[x]) r else(pf1 pre x,(pre.length:Int))
theorem Y8Q :∀{l pre:List Par},(pfz pre l).1=0->pfz pre l=(0,0)
 | [],pre,h=>rfl
 | x :: r,pre,h=>by
   rw[pfz] at h ⊢;by_cases hx:pf1 pre x=0
   . rw[l01 hx] at h ⊢;exact Y8Q h
   rw[l00 hx] at h;exact absurd h hx
theorem ffr {α:Type}{a:Int}(ha:a≠0)(i:Int)(X:Int × Int)(u:α):(if (if a=0 then X else(a,i)).1=0 then(.inl u:α ⊕ Z02) else .inr (if a=0 then X else(a,i))) = .inr (a,i):=by rw[l00 ha,l00 ha]
theorem indexF (l:List Par)(hl:l.length<=1000)(f:Par->Option Bool)(p:Par->Bool)(hf :∀x∈l,f x=some (p x)):Y1b l f=some (l.any p):=by
 unfold Y1b Y2q;rcases scanP (fun m i=>Y0p l f m i) l (fun i x=>if p x=true then some (.inr (i:Int)) else none) (.inl ()) (fun m=>by rw[Y0p,l00 Om]) (fun m i h=>by
  rw[Y0p,l01 Om,idx_nat,l06 h,bsome];have e:f (l[i].1,l[i].2)=some (p l[i]):=hf _ (l0N h);rw[e,bsome,chk_succ Om,bsome];cases p l[i] <;> rfl) l.length 0 FU Om (FU_gt Om) Om with ⟨j,hj,r,E,u,K,J⟩|⟨E,u⟩
 . rw[l1a] at J;have hp:p l[j]=true:=by
    cases h:p l[j] with
    | true=>rfl
    | false=>rw[h,l00 Dc] at u;cases u
   rw[hp,l01 rfl] at u;cases u;rw[J,bsome,bsome];rw[show l.any p=true from l2i.2 ⟨_,l0N hj,hp⟩,l0f Om]
 rw[l1a] at u;rw[u,bsome,bsome];have:l.any p=false:=by
  rw[l1s];intro x hx hp;obtain⟨i,hi,rfl⟩:=l2a hx;have:=E i hi Om;rw[hp,l01 rfl] at this;cases this
 rw[this];rfl
theorem Y6u {α:Type}{l:List α}{i:Nat}(h:i<l.length):l.take (i+1)=l.take i++[l[i]]:=by
 rw[l0K h]
theorem Y8N (u:Med)(hl:u.2.2.length<=60)(hb:BigP u.2.2)(U N:Int):∀(d i m:Nat),u.2.2.length-i<=d->d<m->i<=u.2.2.length->
 Y0Y u m U N (i:Int)=some (if (pfz (u.2.2.take i) (u.2.2.drop i)).1=0 then .inl (U,N) else .inr (pfz (u.2.2.take i) (u.2.2.drop i))):=by
 obtain⟨ty,sb,l⟩:=u;dsimp only at hl hb ⊢;intro d;induction d with
 | zero =>
   intro i m Y O Z;obtain⟨m,rfl⟩ :∃k,m=k+1:=⟨m-1,by omega⟩
   rw[Y0Y,l00 (by dsimp only;omega),l0l Om];rfl
 | succ d ih =>
   intro i m Y O Z;obtain⟨m,rfl⟩ :∃k,m=k+1:=⟨m-1,by omega⟩
   by_cases hi:i<l.length
   . have hx:=hb l[i] (l0N hi);rw[Y0Y];dsimp only;rw[l01 Om,idx_nat,l06 hi,bsome,l0r hi,pfz,<-Y6u hi];have hlen:(l.take i).length=i:=by rw[l0j];omega
     rw[hlen];unfold pf1;rw[Y7m _ hx.1,bsome];by_cases E:tkT l[i].1=true/\l[i].1.length<=20
     . rw[l01 E,E.1,l01 rfl,bsome,l0g (by have:=E.2;omega),l00 l03,cut_to rfl Om,bsome,
        indexF (l.take i) Om _ (smP l[i]) (fun x hx'=>by unfold Y3G smP;rw [Y3p (hb x (l3t hx')).1 hx.1];rfl),bsome]
       by_cases J:(l.take i).any (smP l[i])=true
       . rw[l01 J,l01 J,Y0Z,bsome,ffr Dc]
       rw[l00 J,l00 J];by_cases V:500<l[i].2.length
       . rw[l01 Om,l01 V,Y0Z,bsome,ffr Dc]
       rw[l00 Om,l00 V];unfold Y3E;rw[l01 Om,bsome];by_cases K:vld l[i].2=true
       . rw[l01 K,l01 K,l01 rfl,chk_succ Om,bsome];exact ih (i+1) m Om Om Om
       rw[l00 K,l00 K,Y0Z,bsome,ffr Dc]
     have e:(if tkT l[i].1=true then some (decide ((20:Int)<(l[i].1.length:Int))) else some true)=some true:=by
      by_cases h:tkT l[i].1=true
      . rw[l01 h,l0f (by have:=Nat.lt_of_not_le (fun O=>E ⟨h,O⟩);omega)]
      rw[l00 h]
     rw[l00 E,e,bsome,l01 rfl,Y0Z,bsome,ffr Dc]
   rw[Y0Y,l00 (by dsimp only;omega),l0l Om];rfl
def valM (m:Med):Int × Int:=if tkT m.1=true/\tkT m.2.1=true then(if 60<m.2.2.length then(2,-3) else pfz [] m.2.2) else(10,-2)
theorem tk2 (a b:Bool):(if a=true then some (!b) else some true:Option Bool)=some (!(a&&b)):=by cases a <;> simp
theorem Y3o (m:Med)(hb:BigM m):Y2C m=some (valM m):=by
 unfold Y2C valM;rw[Y7m _ hb.1,bsome,Y7m _ hb.2.1,bsome,tk2,bsome];by_cases h:tkT m.1=true/\tkT m.2.1=true
 . rw[l01 h,h.1,h.2,l00 Dc];by_cases u:60<m.2.2.length
   . rw[l01 Om,Y0Z,bsome,l01 u]
   have:=Y8N m Om hb.2.2 0 0 m.2.2.length 0 FU Om (by unfold FU;omega) Om;rw[l1a,l0E,l2T] at this;rw[l00 Om,this,bsome,l00 u];by_cases hz:(pfz [] m.2.2).1=0
   . rw[l01 hz];dsimp only;rw[Y8Q hz,Y2Q,bsome]
   rw[l00 hz]
 have:(tkT m.1&&tkT m.2.1)=false:=by
  cases E:tkT m.1 <;> cases J:tkT m.2.1 <;> simp_all
 rw[this,l01 Dc,l00 h,Y0Z,bsome]
theorem Y43 {m:Med}(h:(valM m).1=0):tkT m.1=true/\tkT m.2.1=true/\m.2.2.length<=60/\(pfz [] m.2.2).1=0/\valM m=(0,0):=by
 unfold valM at h ⊢;by_cases u:tkT m.1=true/\tkT m.2.1=true
 . rw[l01 u] at h ⊢;by_cases E:60<m.2.2.length
   . rw[l01 E] at h;exact absurd h Dc
   rw[l00 E] at h ⊢;exact⟨u.1,u.2,by omega,h,Y8Q h⟩
 rw[l00 u] at h;exact absurd h Dc
def parR (m:Med)(n:Ls):Ls × Bool:=match m.2.2.find? (fun x=>decide (lower x.1=lower n)) with|some x=>(x.2,true)|none=>([],false)
theorem parL (l:List Par)(n:Ls){γ:Type}(L:Nat->Int->Option γ)(hit:Par->γ)(miss:γ)(hl:l.length<=1000)(hend :∀m,L (m+1) (l.length:Int)=some miss)
 (hstep :∀m i (h:i<l.length),L (m+1) (i:Int)=if lower l[i].1=lower n then some (hit l[i]) else L m ((i+1:Nat):Int)):L FU 0=some (match l.find? (fun x=>decide (lower x.1=lower n)) with|some x=>hit x|none=>miss):=by
 have key :∀(d i m:Nat),l.length-i<=d->d<m->i<=l.length->L m (i:Int)=some (match (l.drop i).find? (fun x=>decide (lower x.1=lower n)) with|some x=>hit x|none=>miss):=by
  intro d;induction d with
  | zero =>
    intro i m u E J;obtain⟨m,rfl⟩ :∃k,m=k+1:=⟨m-1,by omega⟩
    obtain rfl:i=l.length:=by omega
    rw[hend,l0I];rfl
  | succ d ih =>
    intro i m u E J;obtain⟨m,rfl⟩ :∃k,m=k+1:=⟨m-1,by omega⟩
    by_cases hi:i<l.length
    . rw[hstep m i hi,l0r hi,List.find?_cons];by_cases h:lower l[i].1=lower n
      . rw[l01 h,l0f h]
      rw[l00 h,l0g h];exact ih (i+1) m Om Om Om
    obtain rfl:i=l.length:=by omega
    rw[hend,l0I];rfl
 have:=key l.length 0 FU Om (FU_gt Om) Om;simpa using this
end Go.Ph.Md
end
section
namespace Go.Ph.Md
open Go.Ph.Pl Go.Ph.Pf
open Go.Ph.Chs (vld lower)
def hexd : Ls:=[48,49,50,51,52,53,54,55,56,57,65,66,67,68,69,70]
def hx (n:Nat):UInt8:=hexd.getD n 0
theorem digit_hi (c:UInt8):Y3j (UInt8.ofNat (c.toNat / 2 ^ 4))=some (hx (c.toNat / 16)):=by
 refine allB (p:=fun c=>Y3j (UInt8.ofNat (c.toNat / 2 ^ 4))=some (hx (c.toNat / 16))) ?_ c;decide +kernel
theorem digit_lo (c:UInt8):Y3j c=some (hx (c.toNat % 16)):=by
 refine allB (p:=fun c=>Y3j c=some (hx (c.toNat % 16))) ?_ c;decide +kernel
theorem Y8R :∀(m n:Nat),(dgF m n).length<=m
 | 0,n=>l0b _
 | m+1,n=>by
   rw[dgF];have:=Y8R m (n / 10);split
   . simp
   rw[l05,l0R];omega
theorem Y54 (n:Int):(itoaP n).length<=21:=by
 unfold itoaP;have u:=Y8R 20 n.natAbs;have E:=Y8R 20 n.toNat;split
 . rw[l04];omega
 omega
theorem Y6C (n:Nat)(h:n<=9223372036854775807):strconv_Itoa (n:Int)=some (itoaP n):=by
 unfold strconv_Itoa;rw [l01 ⟨by omega,by omega⟩]
def esc (c:UInt8):Option Ls:=if c=34 then some [92,34] else if c=92 then some [92,92] else none
def q1 (c:UInt8):Ls:=(esc c).getD [c]
def qt (p:Ls):Ls:=p.flatMap q1
def cnt (p:Ls):Nat:=p.countP fun c=>(esc c).isSome
theorem Y9t (c:UInt8):idxO (tabk 2) (c.toNat:Int)=some (esc c):=by
 refine allB (p:=fun c=>idxO (tabk 2) (c.toNat:Int)=some (esc c)) ?_ c;decide +kernel
theorem Ya4 {c:UInt8}{s:Ls}(h:esc c=some s):s.length=2:=by
 unfold esc at h;split at h
 . cases h;rfl
 split at h
 . cases h;rfl
 cases h
theorem Y7O (c:UInt8)(p:Ls):qt (c::p)=q1 c++qt p:=rfl
theorem Y9u :∀p:Ls,(qt p).length=p.length+cnt p
 | []=>rfl
 | c::p=>by
   rw[Y7O,l05,Y9u p,l04];unfold cnt q1;rw[l2r];cases h:esc c with
   | none=>simp;omega
   | some s=>have:=Ya4 h;simp;omega
theorem qt_id :∀p:Ls,cnt p=0->qt p=p
 | [],h=>rfl
 | c::p,h=>by
   unfold cnt at h;rw[l2r] at h;have u:=qt_id p (by unfold cnt;omega);rw[Y7O,u];unfold q1;cases E:esc c with
   | none=>rfl
   | some s=>rw[E] at h;simp at h
theorem Y9v :∀p:Ls,cnt p=(p.countP fun c=>decide (([34]:Ls)=[c]))+(p.countP fun c=>decide (([92]:Ls)=[c]))
 | []=>rfl
 | c::p=>by
   have:=Y9v p;unfold cnt at this ⊢;rw[l2r,l2r,l2r,this];unfold esc;by_cases u:c=34
   . subst u;simp;omega
   have J :¬(34:UInt8)=c:=fun e=>u e.symm
   by_cases E:c=92
   . subst E;simp;omega
   have K :¬(92:UInt8)=c:=fun e=>E e.symm
   simp [u,E,J,K]
theorem rep_L1 (p:Ls)(hp:p.length<=1000):Y00 (tabk 2,trk 2) p FU (p.length:Int) false 0=some (((p.length+cnt p:Nat):Int),decide (cnt p≠0)):=by
 rw[Y9v];have c1:(p.countP fun c=>decide (([34]:Ls)=[c]))<=p.length:=l2l;have c2:(p.countP fun c=>decide (([92]:Ls)=[c]))<=p.length:=l2l;have U:Y27 p [34]=some ((p.countP fun c=>decide (([34]:Ls)=[c]):Nat):Int):=by unfold Y27;rw [l01 ⟨rfl,by omega⟩]
 have V:Y27 p [92]=some ((p.countP fun c=>decide (([92]:Ls)=[c]):Nat):Int):=by unfold Y27;rw [l01 ⟨rfl,by omega⟩]
 generalize (p.countP fun c=>decide (([34]:Ls)=[c]))=a at *;generalize (p.countP fun c=>decide (([92]:Ls)=[c]))=b at *;have u:idxO (tabk 2) ((34:UInt8).toNat:Int)=some (some [92,34]):=Y9t 34;have E:idxO (tabk 2) ((92:UInt8).toNat:Int)=some (some [92,92]):=Y9t 92;have Y:idx (trk 2) 0=some [34]:=rfl;have Z:idx (trk 2) 1=some [92]:=rfl;have l2:((trk 2).length:Int)=2:=rfl;have J:idx ([34]:Ls) 0=some 34:=rfl;have N:idx ([92]:Ls) 0=some 92:=rfl;have g2:chk (((Option.getD (some ([92,34]:Ls)) []).length:Int)-1)=some 1:=rfl;have g3:chk (((Option.getD (some ([92,92]:Ls)) []).length:Int)-1)=some 1:=rfl;have hend :∀m x y,Y00 (tabk 2,trk 2) p (m+1) x y 2=some (x,y):=fun m x y=>by
  rw[Y00];dsimp only;rw[l2,l00 Dc]
 have O :∀m (x:Nat) y,x<=3000->Y00 (tabk 2,trk 2) p (m+1+1) (x:Int) y 1=some (((x+b:Nat):Int),if b=0 then y else true):=fun m x y hx=>by
  rw[Y00];dsimp only;rw[l2,l01 Dc,Z,bsome,V,bsome];by_cases hb:b=0
  . subst hb;rw[l01 rfl,show chk ((1:Int)+1)=some 2 from rfl,bsome,hend];rfl
  rw[l00 Om,N,bsome,E,bsome,g3,bsome,chk_ok Om Om,bsome,chk_ok Om Om,bsome,show chk ((1:Int)+1)=some 2 from rfl,bsome,hend,l00 hb,show ((x:Int)+(b:Int)*1)=((x+b:Nat):Int) by omega]
 obtain⟨K,hK⟩ :∃K,FU=K+1+1+1:=⟨18446744073709551613,rfl⟩
 rw[hK,Y00];dsimp only;rw[l2,l01 Dc,Y,bsome,U,bsome];by_cases ha:a=0
 . subst ha;rw[l01 (show((0:Nat):Int)=0 from rfl),show chk ((0:Int)+1)=some 1 from rfl,bsome,O _ _ _ Om,l0D];by_cases hb:b=0
   . subst hb;rfl
   rw[l00 hb,l0f hb]
 rw[l00 Om,J,bsome,u,bsome,g2,bsome,chk_ok Om Om,bsome,chk_ok Om Om,bsome,show chk ((0:Int)+1)=some 1 from rfl,bsome,show ((p.length:Int)+(a:Int)*1)=((p.length+a:Nat):Int) by omega,O _ _ _ Om,l0f Om,ite_self,l1n]
theorem rep_L2 (p:Ls)(hp:p.length<=1000):Y04 (tabk 2,trk 2) p FU (p.length:Int) false 0=some (((p.length+cnt p:Nat):Int),decide (cnt p≠0)):=by
 have hf :∀(l:Ls) (a:Nat),l.foldl (fun(s:Nat) c=>if (esc c).isSome=true then s+1 else s) a=a+cnt l:=by
  intro l;induction l with
  | nil=>intro a;rfl
  | cons c l ih =>
    intro a;rw[l1H,ih];unfold cnt;rw[l2r];split <;> omega
 have:=foldI0 (L:=fun m (s:Nat) i=>Y04 (tabk 2,trk 2) p m ((p.length+s:Nat):Int) (decide (s≠0)) i) p (fun(s:Nat) c=>if (esc c).isSome=true then s+1 else s) (fun s=>(((p.length+s:Nat):Int),decide (s≠0))) (fun i s=>s<=i) Om ?_ ?_ 0 Om
 . rw[hf,l0D] at this;exact this
 . intro m s hs;rw[Y04,l00 Om]
 intro m s i x hx hs;have hi:=(l0c.1 hx).1;refine⟨by split <;> omega,?_⟩;rw[Y04,l01 Om,idx_nat,hx,bsome,Y9t,bsome];by_cases h:(esc x).isSome=true
 . obtain⟨E,u⟩:=l2I.1 h;have:=Ya4 u;rw[l01 h,l01 h,bsome,u,l2f,this,show chk (((2:Nat):Int)-1)=some 1 from rfl,bsome,chk_ok Om Om,bsome,chk_succ Om,bsome,l0f (show s+1≠0 by omega)];rfl
 rw[l00 h,l00 h,chk_succ Om,bsome]
theorem rep_L3 (p:Ls)(hp:p.length<=1000):∀(d i m:Nat) (A:Ls),p.length-i<=d->d<m->i<=p.length->A.length<=2*i->
 Y05 (tabk 2,trk 2) p m (A++List.replicate (qt (p.drop i)).length 0) (A.length:Int) (i:Int)=some (A++qt (p.drop i)):=by
 intro d;induction d with
 | zero =>
   intro i m A u E J hA;obtain⟨m,rfl⟩ :∃k,m=k+1:=⟨m-1,by omega⟩
   rw[Y05,l00 Om,l0l Om];rfl
 | succ d ih =>
   intro i m A u E J hA;obtain⟨m,rfl⟩ :∃k,m=k+1:=⟨m-1,by omega⟩
   by_cases hi:i<p.length
   . rw [Y05,l01 Om,idx_nat,l06 hi,bsome,Y9t,bsome,l0r hi,Y7O];unfold q1;cases h:esc p[i] with
     | some s =>
       have hs:=Ya4 h;have ht:=Y9t p[i];rw[Option.isSome_some,l01 rfl,frm_ok Sm,bsome,bsome,l2f,l2f];have hc:cpyO (A++List.replicate (s++qt (p.drop (i+1))).length 0) (A.length:Int) s=some ((A++s)++List.replicate (qt (p.drop (i+1))).length 0,2):=by
        unfold cpyO;rw[l0q,l1p];have K:s.take ((A++List.replicate (s++qt (p.drop (i+1))).length (0:UInt8)).length-A.length)=s:=l0P (by rw[l05,l2W,l05];omega);rw[K,hs,l2g,l0l Om,l07,List.drop_replicate,show (s++qt (p.drop (i+1))).length-(A.length+2-A.length)=(qt (p.drop (i+1))).length by rw[l05];omega];rfl
       rw[hc,bsome];dsimp only;rw[chk_ok Om Om,bsome,chk_succ Om,bsome];have:=ih (i+1) m (A++s) Om Om Om Ow;rw[show ((A++s).length:Int)=(A.length:Int)+2 by simp;omega] at this;rw[this,l0s]
     | none =>
       rw[l2N,l00 Dc,Option.getD_none];have N:A++List.replicate ([p[i]]++qt (p.drop (i+1))).length (0:UInt8)=A++0::List.replicate (qt (p.drop (i+1))).length 0:=by
        rw[l05,l0R,l2S,List.replicate_succ]
       rw[N,idx_nat,l0L (l0b _),l1D,l1b,bsome,put_ok Om Ow,bsome,chk_succ Om,bsome,chk_succ Om,bsome,l0q,l1G (h:=l0b _),l1D,l2P];have:=ih (i+1) m (A++[p[i]]) Om Om Om Ow;rw[show ((A++[p[i]]).length:Int)=((A.length+1:Nat):Int) by simp,l0s] at this;rw[show (p[i]::List.replicate (qt (p.drop (i+1))).length (0:UInt8))=[p[i]]++List.replicate (qt (p.drop (i+1))).length 0 from rfl,this,l0s]
   rw[Y05,l00 Om,l0l Om];rfl
theorem Ybf (p:Ls)(hp:p.length<=1000):Y10 p=some (qt p):=by
 unfold Y10 Y0H;have hc:cnt p<=p.length:=l2l;dsimp only;rw[show chk (((trk 2).length:Int)*8)=some 16 from rfl,bsome,rep_L1 p hp,rep_L2 p hp,bsome];dsimp only;rw[ite_self,bsome];dsimp only;by_cases h:cnt p=0
 . rw[l0g Om,l00 Dc,qt_id p h]
 rw[l0f h,l01 rfl,mkS_ok Om Om Om Om,bsome,l0q,<-Y9u];have:=rep_L3 p hp p.length 0 FU [] Om (FU_gt Om) Om Sm;simp only[l0d,l1a,l0E,l07] at this;rw[this,bsome]
end Go.Ph.Md
end
section
namespace Go.Ph.Md
open Go.Ph.Pl Go.Ph.Pf
open Go.Ph.Chs (vld lower)
def pct1 (c:UInt8):Ls:=if tkB c=true then [c] else [37,hx (c.toNat / 16),hx (c.toNat % 16)]
theorem YaD (c:UInt8):1<=(pct1 c).length/\(pct1 c).length<=3:=by unfold pct1;split <;> simp
def pre8 : Ls:=[117,116,102,56,39,39]
abbrev PS : Type:=List Ls × Ls
def psS (st:PS)(c:UInt8):PS:=if st.2.length+(pct1 c).length<=60 then(st.1,st.2++pct1 c) else(st.1++[st.2],pct1 c)
def psF (v:Ls):PS:=v.foldl psS ([],pre8)
def pieces (v:Ls):List Ls:=(psF v).1++[(psF v).2]
def psI (i:Nat)(st:PS):Prop:=st.1.length<=i/\st.2.length<=60/\∀p∈st.1,p.length<=60
theorem YaE {i:Nat}{st:PS}(c:UInt8)(h:psI i st):psI (i+1) (psS st c):=by
 obtain⟨J,E,u⟩:=h;have:=YaD c;unfold psS;split
 . refine⟨by dsimp only;omega,by dsimp only;rw [l05];omega,u⟩
 refine⟨by dsimp only;rw [l05,l0R];omega,by dsimp only;omega,fun p hp=>?_⟩;rcases l1m.1 hp with hp|hp
 . exact u p hp
 rw[l0O.1 hp];exact E
theorem YaF :∀(v:Ls) (i:Nat) (st:PS),psI i st->psI (i+v.length) (v.foldl psS st)
 | [],i,st,h=>h
 | c::v,i,st,h=>by
   have:=YaF v (i+1) _ (YaE c h);rw[l1H,l04,show i+(v.length+1)=i+1+v.length by omega];exact this
theorem psI_of (v:Ls):psI v.length (psF v):=by
 have:=YaF v 0 ([],pre8) ⟨l0b _,by decide,fun p hp=>by cases hp⟩;rwa [l0D] at this
theorem last_idx {α:Type}(A:List α)(x:α):idx (A++[x]) (A.length:Int)=some x:=by
 rw[idx_nat,l0L (l0b _),l1D];rfl
theorem last_put {α:Type}(A:List α)(x y:α):put (A++[x]) (A.length:Int) y=some (A++[y]):=by
 rw[put_ok Om Ow,l0q,l1G (h:=l0b _),l1D];rfl
theorem last_chk {α:Type}(A:List α)(x:α)(h:A.length<=1000000):chk (((A++[x]).length:Int)-1)=some (A.length:Int):=by
 rw[l05,l0R,chk_pred Om Om];rfl
theorem cut_one {v:Ls}{i:Nat}{x:UInt8}(hx:v[i]? = some x):cut v (i:Int) ((i+1:Nat):Int)=some [x]:=by
 have hi:=(l0c.1 hx).1;rw[l06 hi] at hx;cases hx;rw[cut_of rfl rfl Om Om,l2R,show i+1-i=1 by omega,l0r hi];rfl
theorem YbX (v:Ls)(hv:v.length<=500):Y4m v=some (pieces v):=by
 unfold Y4m;have:=foldI0 (L:=fun m (st:PS) i=>Y1B v m (st.1++[st.2]) i) v psS (fun st=>st.1++[st.2]) psI Om ?_ ?_ ([],pre8) ⟨l0b _,by decide,fun p hp=>by cases hp⟩
 . rw[show ([[117,116,102,56,39,39]]:List Ls)=[]++[pre8] from rfl,this,bsome];rfl
 . intro m st hs;rw[Y1B,l00 Om]
 intro m st i x hx hs;have hi:=(l0c.1 hx).1;refine⟨YaE x hs,?_⟩;obtain⟨A,p⟩:=st;obtain⟨hA,hp,hB⟩:=hs;dsimp only at hA hp hB ⊢;have hl:=YaD x;rw[Y1B,l01 Om,chk_succ Om,bsome,cut_one hx,bsome,idx_nat,hx,bsome,Y4r,bsome,bsome,digit_hi,bsome,bsome,digit_lo,bsome];have e:(if tkB x=true then some [x] else some [37,Md.hx (x.toNat / 16),Md.hx (x.toNat % 16)])=some (pct1 x):=by unfold pct1;split <;> rfl
 rw[e,bsome,last_chk _ _ Om,bsome,last_idx,bsome,chk_ok Om Om,bsome,bsome];unfold psS;dsimp only;by_cases u:p.length+(pct1 x).length<=60
 . rw[l01 Om,l01 u,cat_ok Om,bsome,bsome,last_put,bsome,bsome]
 rw[l00 Om,l00 u,app_ok Ow,bsome,bsome]
def exU (n:Ls)(i:Nat)(p:Ls):Ls:=[59,32]++n++[42]++itoaP i++[42,61]++p
def exT (n:Ls):Nat->List Ls->Ls
 | _,[]=>[]
 | i,p::r=>exU n i p++exT n (i+1) r
theorem Ya5 (n:Ls)(i:Nat)(p:Ls):(exU n i p).length<=n.length+p.length+30:=by
 unfold exU;have:=Y54 i;simp only[l05,l04,l0d];omega
theorem YbY (n:Ls):∀(A:List Ls) (i:Nat),(∀p∈A,p.length<=60)->(exT n i A).length<=A.length*(n.length+90)
 | [],i,h=>by simp [exT]
 | p::A,i,h=>by
   have u:=YbY n A (i+1) (fun q hq=>h q (by simp [hq]));have E:=Ya5 n i p;have J:=h p Sm;rw[exT,l05,l04,Nat.succ_mul];omega
theorem pieces_len (v:Ls):(pieces v).length<=v.length+1/\∀p∈pieces v,p.length<=60:=by
 obtain⟨J,u,E⟩:=psI_of v;unfold pieces;refine⟨by rw[l05,l0R];omega,fun p hp=>?_⟩;rcases l1m.1 hp with hp|hp
 . exact E p hp
 rw[l0O.1 hp];exact u
theorem param_L1 (x:Par)(l:List Ls)(hx:x.1.length<=60)(hl:l.length<=1000)(u :∀p∈l,p.length<=60):∀(d i m:Nat) (s:Ls),l.length-i<=d->d<m->i<=l.length->s.length<=1000*i->
 Y1S x l m s (i:Int)=some (s++exT x.1 i (l.drop i)):=by
 intro d;induction d with
 | zero =>
   intro i m s E J K hs;obtain⟨m,rfl⟩ :∃k,m=k+1:=⟨m-1,by omega⟩
   rw[Y1S,l00 Om,l0l Om,exT,l0m]
 | succ d ih =>
   intro i m s E J K hs;obtain⟨m,rfl⟩ :∃k,m=k+1:=⟨m-1,by omega⟩
   by_cases hi:i<l.length
   . have hp:=u _ (l0N hi);have hit:=Y54 i;have hu:=Ya5 x.1 i l[i];rw[Y1S,l01 Om,idx_nat,l06 hi,bsome,cat_ok Ow,bsome,cat_ok Ow,bsome,Y6C i Om,bsome,cat_ok Ow,bsome,cat_ok Ow,bsome,cat_ok Ow,bsome,chk_succ Om];rw[show [59,32]++x.1++[42]++itoaP (i:Int)++[42,61]++l[i]=exU x.1 i l[i] from rfl,cat_ok Om,bsome,bsome,ih (i+1) m _ Om Om Om (by rw[l05];omega),l0r hi,exT,l0s]
   rw[Y1S,l00 Om,l0l Om,exT,l0m]
def prB (c:UInt8):Bool:=decide (32<=c.toNat/\c.toNat<=126)
theorem pr_eq (c:UInt8):Y3V c=some (prB c):=by
 refine allB (p:=fun c=>Y3V c=some (prB c)) ?_ c;decide +kernel
def simp60 (v:Ls):Bool:=decide (v.length<=60)&&v.all prB
def paramT (x:Par):Ls :=
 if tkT x.2=true then [59,32]++x.1++[61]++x.2 else if simp60 x.2=true then [59,32]++x.1++[61,34]++qt x.2++[34] else exT x.1 0 (pieces x.2)
theorem exTp_len (x:Par)(u:x.1.length<=20)(E:x.2.length<=500):(exT x.1 0 (pieces x.2)).length<=60000:=by
 obtain⟨a,b⟩:=pieces_len x.2;have:=YbY x.1 (pieces x.2) 0 b;have J:(pieces x.2).length*(x.1.length+90)<=501*110:=l3A Om Om;omega
theorem Y79 (x:Par)(u:x.1.length<=20)(E:x.2.length<=500):(paramT x).length<=60000:=by
 unfold paramT;have hq:=Y9u x.2;have hc:cnt x.2<=x.2.length:=l2l;split
 . simp;omega
 split
 . simp;omega
 exact exTp_len x u E
theorem param_eq (x:Par)(J:x.1.length<=20)(E:x.2.length<=500):Y4H x=some (paramT x):=by
 unfold Y4H paramT;have hq:=Y9u x.2;have hc:cnt x.2<=x.2.length:=l2l;rw[Y7m _ (by unfold Big;omega),bsome];by_cases h:tkT x.2=true
 . rw[l01 h,l01 h,cat_ok Ow,bsome,cat_ok Ow,bsome,cat_ok Ow,bsome]
 rw[l00 h,l00 h,YbW x.2 (by unfold Big;omega) _ prB pr_eq,bsome];have e:(if (x.2.length:Int)<=60 then some (x.2.all prB) else some false)=some (simp60 x.2):=by
  unfold simp60;by_cases u:x.2.length<=60
  . rw[l01 Om,l0f u,l2d]
  rw[l00 Om,l0g u,Bool.false_and]
 rw[e,bsome];by_cases hs:simp60 x.2=true
 . rw[l01 hs,l01 hs,cat_ok Ow,bsome,cat_ok Ow,bsome];unfold Y2v;rw[l01 rfl,bsome,Ybf _ Om,bsome,cat_ok Ow,bsome,cat_ok Ow,bsome]
 rw[l00 hs,l00 hs,YbX _ E,bsome];obtain⟨a,b⟩:=pieces_len x.2;have:=param_L1 x (pieces x.2) Om Om b (pieces x.2).length 0 FU [] Om (FU_gt Om) Om Sm;rw[l1a,l0E,l07] at this;rw[this,bsome]
def mediaT (m:Med):Ls:=m.1++[47]++m.2.1++m.2.2.flatMap paramT
theorem flat_len {l:List Par}(h :∀x∈l,(paramT x).length<=60000):(l.flatMap paramT).length<=60000*l.length:=by
 induction l with
 | nil=>simp
 | cons x l ih =>
   have u:=ih (fun y hy=>h y (by simp [hy]));have E:=h x Sm;rw[l0v,l05,l04,Nat.mul_succ];omega
theorem YbZ :∀(l pre:List Par),(pfz pre l).1=0->∀x∈l,tkT x.1=true/\x.1.length<=20/\x.2.length<=500/\vld x.2=true
 | [],pre,h,x,hx=>by cases hx
 | y :: l,pre,h,x,hx=>by
   rw[pfz] at h;by_cases hy:pf1 pre y=0
   . rw[l01 hy] at h;rcases l0k.1 hx with rfl|hx
     . unfold pf1 at hy;by_cases u:tkT x.1=true/\x.1.length<=20
       . rw[l01 u] at hy;by_cases E:pre.any (smP x)=true
         . rw[l01 E] at hy;exact absurd hy Dc
         rw[l00 E] at hy;by_cases J:500<x.2.length
         . rw[l01 J] at hy;exact absurd hy Dc
         rw[l00 J] at hy;by_cases K:vld x.2=true
         . exact⟨u.1,u.2,by omega,K⟩
         rw[l00 K] at hy;exact absurd hy Dc
       rw[l00 u] at hy;exact absurd hy Dc
     exact YbZ l _ h x hx
   rw[l00 hy] at h;exact absurd h hy
theorem Y4T {m:Med}(h:(valM m).1=0):∀x∈m.2.2,tkT x.1=true/\x.1.length<=20/\x.2.length<=500/\vld x.2=true:=YbZ _ _ (Y43 h).2.2.2.1
def printR (m:Med):Ls × Z02:=if (valM m).1=0 then(if 4000<(mediaT m).length then([],(1,-4)) else(mediaT m,(0,0))) else([],valM m)
theorem textL (l:List Par)(hl:l.length<=60)(hv :∀x∈l,x.1.length<=20/\x.2.length<=500){L:Nat->Ls->Int->Option Ls}(hend :∀m s,L (m+1) s (l.length:Int)=some s)
 (hstep :∀m s i x,l[i]? = some x->s.length<=130+60000*i->i<l.length->L (m+1) s (i:Int)=L m (s++paramT x) ((i+1:Nat):Int)) (s:Ls) (hs:s.length<=130):L FU s 0=some (s++l.flatMap paramT):=by
 rw[foldI0 (L:=L) l (fun o x=>o++paramT x) id (fun i s=>s.length<=130+60000*i) Om ?_ ?_ s Om,Y42]
 . rfl
 . intro m s _;exact hend m s
 intro m s i x hx hI;have u:=hv x (l0S hx);have E:=Y79 x u.1 u.2;exact⟨by rw[l05];omega,hstep m s i x hx hI (l0c.1 hx).1⟩
theorem Ybg {m:Med}(h:(valM m).1=0):(mediaT m).length<=4000000:=by
 obtain⟨u,E,J,_⟩:=Y43 h;have hv:=Y4T h;have a:=Y4R u;have b:=Y4R E;have c:=flat_len (l:=m.2.2) (fun x hx=>Y79 x (hv x hx).2.1 (hv x hx).2.2.1);unfold mediaT;simp only[l05,l0R];omega
theorem Y7n (m:Med)(hb:BigM m):Y3L m=some (printR m):=by
 unfold Y3L printR;rw[show (m.1,m.2.1,m.2.2)=m from rfl,Y3o m hb,bsome];have hz := @Y43 m;have hv := @Y4T m;have hT := @Ybg m;obtain⟨⟨a,b⟩,he⟩ :∃p,valM m=p:=⟨_,rfl⟩
 rw[he] at hz hv hT ⊢;dsimp only at hz hv hT ⊢;rw[Y0t,bsome];by_cases ha:a=0
 . obtain⟨E,J,K,_⟩:=hz ha;have N:=Y4R E;have O:=Y4R J;rw[l0f ha,l00 Dc,l01 ha,cat_ok Ow,bsome,cat_ok Ow,bsome,textL m.2.2 K (fun x hx=>⟨(hv ha x hx).2.1,(hv ha x hx).2.2.1⟩) (L:=fun k s i=>Y2f m k s i) ?_ ?_ _ Ow,bsome]
   . rw[show m.1++[47]++m.2.1++m.2.2.flatMap paramT=mediaT m from rfl];by_cases u:4000<(mediaT m).length
     . rw[l01 Om,l01 u,Y0Z,bsome]
     rw[l00 Om,l00 u,Y2Q,bsome]
   . intro k s;rw[Y2f,l00 Om]
   intro k s i x hx hs hi;have hxv:=hv ha x (l0S hx);have:=Y79 x hxv.2.1 hxv.2.2.1;rw[Y2f,l01 Om,idx_nat,hx,bsome,show (x.1,x.2)=x from rfl,param_eq x hxv.2.1 hxv.2.2.1,bsome,cat_ok Om,bsome,chk_succ Om,bsome]
 rw[l0g ha,l01 Dc,l00 ha]
theorem tkB_pr :∀c:UInt8,tkB c=true->prB c=true:=fun c h=>by
 unfold tkB at h;unfold prB;simp only[l0n,decide_eq_true_eq] at h ⊢;omega
theorem Y9w {l:Ls}(h :∀c∈l,tkB c=true):l.all prB=true:=l0C.2 fun c hc=>tkB_pr c (h c hc)
theorem hx_pr :∀n,n<16->prB (hx n)=true:=by decide
theorem pct1_pr (c:UInt8):(pct1 c).all prB=true:=by
 unfold pct1;have:=c.toNat_lt;split
 . rename_i h;simp [tkB_pr c h]
 simp only[l0i,l0u,hx_pr _ (show c.toNat / 16<16 by omega),hx_pr _ (show c.toNat % 16<16 by omega)];decide
theorem psS_pr {st:PS}(c:UInt8)(u:st.1.all (fun p=>p.all prB)=true)(E:st.2.all prB=true):(psS st c).1.all (fun p=>p.all prB)=true/\(psS st c).2.all prB=true:=by
 unfold psS;have:=pct1_pr c;split
 . exact⟨u,by dsimp only;rw [l1q,E,this];rfl⟩
 exact⟨by dsimp only;rw [l1q,u,l0i,E];rfl,this⟩
theorem psF_pr :∀(v:Ls) (st:PS),st.1.all (fun p=>p.all prB)=true->st.2.all prB=true->(v.foldl psS st).1.all (fun p=>p.all prB)=true/\(v.foldl psS st).2.all prB=true
 | [],st,u,E=>⟨u,E⟩
 | c::v,st,u,E=>by
   obtain⟨a,b⟩:=psS_pr c u E;exact psF_pr v _ a b
theorem dgF_pr :∀(m n:Nat),(dgF m n).all prB=true
 | 0,n=>rfl
 | m + 1,n=>by
   have u :∀p,p<10->prB (UInt8.ofNat (48+p))=true:=by decide
   rw[dgF];split
   . rename_i h;rw[l0i,u n h];rfl
   rw[l1q,dgF_pr m,l0i,u (n % 10) (l2A _ Om)];rfl
theorem itoa_pr (n:Nat):(itoaP n).all prB=true:=by
 unfold itoaP;rw[l00 Om];exact dgF_pr _ _
theorem exT_pr {n:Ls}(hn:n.all prB=true):∀(l:List Ls) (i:Nat),l.all (fun p=>p.all prB)=true->(exT n i l).all prB=true
 | [],i,h=>rfl
 | p::l,i,h=>by
   rw[l0i,l0n] at h;rw[exT,l1q,exT_pr hn l (i+1) h.2];unfold exU;simp only[l1q,hn,itoa_pr,h.1,Bool.and_true,l2d];decide
theorem qt_pr :∀l:Ls,l.all prB=true->(qt l).all prB=true
 | [],h=>rfl
 | c::l,h=>by
   rw[l0i,l0n] at h;rw[Y7O,l1q,qt_pr l h.2,Bool.and_true];unfold q1 esc;split
   . rfl
   split
   . rfl
   simp [h.1]
theorem Yc0 {x:Par}(h:tkT x.1=true):(paramT x).all prB=true:=by
 have hn:=Y9w (Y4S h);unfold paramT;split
 . rename_i u;simp only[l1q,hn,Y9w (Y4S u)];decide
 split
 . rename_i u;unfold simp60 at u;rw[l0n] at u;simp only[l1q,hn,qt_pr _ u.2];decide
 refine exT_pr hn _ _ ?_;obtain⟨a,b⟩:=psF_pr x.2 ([],pre8) rfl Dc;unfold pieces psF;rw[l1q,a,l0i,b];rfl
theorem Yc1 {m:Med}(h:(valM m).1=0):(mediaT m).all prB=true:=by
 obtain⟨u,E,_⟩:=Y43 h;have hv:=Y4T h;have hf:(m.2.2.flatMap paramT).all prB=true:=by
  rw[l0C];intro c hc;obtain⟨x,hx,hcx⟩:=l2h.1 hc;exact l0C.1 (Yc0 (hv x hx).1) c hcx
 unfold mediaT;simp only[l1q,Y9w (Y4S u),Y9w (Y4S E),hf];decide
end Go.Ph.Md
end
section
namespace Go.Ph.Md
open Go.Ph.Pl Go.Ph.Pf
open Go.Ph.Chs (vld lower)
theorem Ya6 (p:UInt8->Bool):∀l:Ls,l.take (l.takeWhile p).length=l.takeWhile p
 | []=>rfl
 | c::l=>by
   cases h:p c with
   | true=>rw[l2e h,l04,l2L,Ya6 p l]
   | false=>rw[l2y (by simp [h])];rfl
theorem Y8S (p:UInt8->Bool):∀l:Ls,l.drop (l.takeWhile p).length=l.dropWhile p
 | []=>rfl
 | c::l=>by
   cases h:p c with
   | true=>rw[l2e h,l2x h,l04,l1E,Y8S p l]
   | false=>rw[l2y (by simp [h]),l1N (by simp [h])];rfl
theorem Y6O (p:UInt8->Bool)(l:Ls):(l.takeWhile p).length<=l.length:=(List.takeWhile_sublist p).length_le
theorem Y6v (p:UInt8->Bool)(l:Ls):(l.dropWhile p).length<=l.length:=(l3k p).length_le
theorem Yc2 {p:UInt8->Bool}:∀{l:Ls} {c:UInt8} {r:Ls},l.dropWhile p=c::r->p c=false
 | [],c,r,h=>by cases h
 | d::l,c,r,h=>by
   cases hd:p d with
   | true=>rw[l2x hd] at h;exact Yc2 h
   | false=>rw[l1N (by simp [hd])] at h;cases h;exact hd
theorem dw_id {p:UInt8->Bool}{l:Ls}(h :∀c r,l=c::r->p c=false):l.dropWhile p=l:=by
 cases l with
 | nil=>rfl
 | cons c r=>exact l1N (by simp [h c r rfl])
theorem scanW {L:Nat->Int->Option Int}(s:Ls)(p:UInt8->Bool)(hend :∀m,L (m+1) (s.length:Int)=some (s.length:Int))
 (hstep :∀m i (h:i<s.length),L (m+1) (i:Int)=if p s[i]=true then L m ((i+1:Nat):Int) else some (i:Int)) :
 ∀(d i m:Nat),s.length-i<=d->d<m->i<=s.length->L m (i:Int)=some ((i+((s.drop i).takeWhile p).length:Nat):Int):=by
 intro d;induction d with
 | zero =>
   intro i m u E J;obtain⟨m,rfl⟩ :∃k,m=k+1:=⟨m-1,by omega⟩
   obtain rfl:i=s.length:=by omega
   rw[hend,l0I];rfl
 | succ d ih =>
   intro i m u E J;obtain⟨m,rfl⟩ :∃k,m=k+1:=⟨m-1,by omega⟩
   by_cases hi:i<s.length
   . rw[hstep m i hi,l0r hi];cases h:p s[i] with
     | true=>rw[l01 rfl,ih (i+1) m Om Om Om,l2e h,l04];congr 2;omega
     | false=>rw[l00 Dc,l2y (by simp [h])];rfl
   obtain rfl:i=s.length:=by omega
   rw[hend,l0I];rfl
def blB (c:UInt8):Bool:=decide (c=32) || decide (c=9)
def tl (t:Ls):Ls:=t.dropWhile blB
theorem tl_tl (t:Ls):tl (tl t)=tl t:=dw_id fun c r h=>Yc2 h
theorem Y55 (t:Ls):(tl t).length<=t.length:=Y6v _ _
theorem Y6N : Y0j [32,9]=some ((List.range 256).map (fun n=>decide (n=32) || decide (n=9)),true):=by decide +kernel
theorem Y4Q (f:Nat->Bool)(c:UInt8):Y0d ((List.range 256).map f) c=some (f c.toNat):=by
 have hc:=c.toNat_lt;unfold Y0d idxA;rw[l01 Sm,idx_nat,l0H,l2Y Om];rfl
theorem blB_nat (c:UInt8):(decide (c.toNat=32) || decide (c.toNat=9))=blB c:=by
 unfold blB;rw[show decide (c.toNat=32)=decide (c=32) from decide_eq_decide.2 (u8_lit c 32).symm,show decide (c.toNat=9)=decide (c=9) from decide_eq_decide.2 (u8_lit c 9).symm]
theorem Y62 :∀(k m:Nat) (l:Ls),l.length<=k->k<m->Big l->Y09 ((List.range 256).map (fun n=>decide (n=32) || decide (n=9))) m l=some (tl l)
 | k,m,l,u,J,E=>by
   obtain⟨m,rfl⟩ :∃k,m=k+1:=⟨m-1,by omega⟩
   unfold tl;cases l with
   | nil=>rw[Y09,l00 Sm];rfl
   | cons c r =>
     rw[Y09,l01 Ol,show (0:Int)=((0:Nat):Int) from rfl,idx_nat];simp only[bsome,l1b,Y4Q,blB_nat];cases hc:blB c with
     | true =>
       rw[l01 rfl,cut_from (i:=1) (a:=1) rfl Sm];simp only[bsome,l1E,l0E];cases k with
       | zero=>simp at u
       | succ k=>rw[Y62 k m r (by simpa using u) Om (by simp only[Big,l04] at E ⊢;omega),l2x hc];rfl
     | false=>rw[l00 Sm,l1N (by simp [hc])]
theorem Y7P (t:Ls)(ht:Big t):Y1h t=some (tl t):=by
 unfold Y1h Y3F;by_cases h:t=[]
 . subst h;rfl
 rw[l00 h];simp only[bsome,show (decide (([32,9]:Ls)=[]))=false from rfl,l0y,if_false];rw[l00 Dc,bsome,l00 Dc,Y6N,bsome];dsimp only;rw[chkA_ok l2W,bsome,chkA_ok (by rw[l0w,l2z]),bsome,l01 rfl];unfold Y1n;rw[Y62 t.length FU t (l0b _) (FU_gt (by unfold Big at ht;omega)) ht,bsome,bsome];rfl
def pN (more:Ls)(c:UInt8):Bool:=tkB c || more.any (fun x=>decide (x=c))
theorem Yc3 (c:UInt8):Y2m c=some (pN [42] c):=by
 refine allB (p:=fun c=>Y2m c=some (pN [42] c)) ?_ c;decide +kernel
theorem Ybh (c:UInt8):Y26 c=some (pN [37,39,42] c):=by
 refine allB (p:=fun c=>Y26 c=some (pN [37,39,42] c)) ?_ c;decide +kernel
theorem Y7Q (t:Ls)(ht:Big t)(f:UInt8->Option Bool)(p:UInt8->Bool)(hf :∀c,f c=some (p c)):Y1o t f=some ((tl t).takeWhile p,(tl t).dropWhile p):=by
 unfold Y1o;have hl:=Y55 t;have hw:=Y6O p (tl t);unfold Big at ht;rw[Y7P t ht,bsome];have:=scanW (L:=fun m i=>Y0K f (tl t) m i) (tl t) p (fun m=>by rw[Y0K,l00 Om,bsome,l00 Dc]) (fun m i h=>by
  rw[Y0K,l01 Om,idx_nat,l06 h,bsome,hf,bsome,bsome,chk_succ Om,bsome]) (tl t).length 0 FU Om (FU_gt Om) Om
 rw[l1a,l0E,l0D] at this;rw[this,bsome,cut_to rfl hw,bsome,cut_from rfl hw,bsome,Ya6,Y8S]
def sgn (c:UInt8)(t:Ls):Option Ls:=match tl t with|x::r=>if x=c then some r else none|[]=>none
theorem Y5f {c:UInt8}{t r:Ls}(h:sgn c t=some r):r.length<t.length:=by
 unfold sgn at h;have:=Y55 t;cases ht:tl t with
 | nil=>rw[ht] at h;cases h
 | cons x q =>
   rw[ht] at h this;dsimp only at h;split at h
   . cases h;rw [l04] at this;omega
   cases h
theorem Y7R (t:Ls)(ht:Big t)(c:UInt8):Y1p t c=some (match sgn c t with|some r=>(true,r)|none=>(false,tl t)):=by
 unfold Y1p sgn;rw[Y7P t ht,bsome];cases h:tl t with
 | nil=>rfl
 | cons x r =>
   rw[l00 Sm,show (0:Int)=((0:Nat):Int) from rfl,idx_nat,l1b,bsome,bsome];dsimp only;by_cases hx:x=c
   . rw[l0f hx,l00 Dc,l01 hx,cut_from (i:=1) (a:=1) rfl Sm,bsome];rfl
   rw[l0g hx,l01 Dc,l00 hx]
def qv : Ls->Option Z00
 | []=>none
 | c::r=>if c=34 then some ([],r) else if c=92 then(match r with|[]=>none|d::u=>(qv u).map fun p=>(d::p.1,p.2)) else(qv r).map fun p=>(c::p.1,p.2)
theorem Y6D (c:UInt8)(r:Ls):qv (c::r)=if c=34 then some ([],r) else if c=92 then(match r with|[]=>none|d::u=>(qv u).map fun p=>(d::p.1,p.2)) else(qv r).map fun p=>(c::p.1,p.2):=by
 cases r with
 | nil=>(conv=>lhs;rw [qv]) <;> rfl
 | cons d r=>rw[qv]
theorem Ya7 :∀(n:Nat) (t:Ls) (v r:Ls),t.length<=n->qv t=some (v,r)->r.length<t.length/\v.length<=t.length
 | n,[],v,r,hn,h=>by cases h
 | 0,c::t,v,r,hn,h=>by simp at hn
 | n + 1,c::t,v,r,hn,h=>by
   rw[Y6D] at h;rw[l04] at hn ⊢;by_cases J:c=34
   . rw[l01 J] at h;cases h;exact ⟨by omega,by simp⟩
   rw[l00 J] at h;by_cases K:c=92
   . rw[l01 K] at h;cases t with
     | nil=>cases h
     | cons d t =>
       obtain⟨⟨v',r'⟩,E,u⟩:=l0A.1 h;dsimp only at u;cases u;have:=Ya7 n t v' _ (by rw[l04] at hn;omega) E;rw[l04,l04];omega
   rw[l00 K] at h;obtain⟨⟨v',r'⟩,E,u⟩:=l0A.1 h;dsimp only at u;cases u;have:=Ya7 n t v' _ Om E;rw[l04];omega
theorem value_L1 (s:Ls)(hs:s.length<=1000000):∀(d i m:Nat) (acc:Ls),s.length-i<=d->d<m->i<=s.length->acc.length<=i->
 ∃o,Y0E m s acc (i:Int)=some o/\(match qv (s.drop i) with|some (v,r)=>o = .inr (acc++v,true,r)|none=>o = .inl s∨o = .inr ([],false,s)):=by
 intro d;induction d using Nat.strongRecOn with
 | ind d ih =>
   intro i m acc K N O U;obtain⟨m,rfl⟩ :∃k,m=k+1:=⟨m-1,by omega⟩
   rw[Y0E];by_cases hi:i<s.length
   . rw[l01 Om,idx_nat,l06 hi,bsome,l0r hi,Y6D];by_cases u:s[i]=34
     . rw[l01 u,l01 u,chk_succ Om,bsome,cut_from rfl Om,bsome];exact⟨_,G,by simp⟩
     rw[l00 u,l00 u];by_cases E:s[i]=92
     . rw[l01 E,l01 E,chk_succ Om,bsome];by_cases he:i+1=s.length
       . rw[l01 Om,l0l Om];exact⟨_,G, .inr G⟩
       have J:i+1<s.length:=by omega
       rw[l00 Om,idx_nat,l06 J,bsome,app_ok Ow,bsome,chk_succ Om,bsome,l0r J];dsimp only;obtain⟨o,ho,hq⟩:=ih (d-2) Om (i+1+1) m (acc++[s[i+1]]) Om Om Om Ow;refine⟨o,ho,?_⟩;cases hz:qv (s.drop (i+1+1)) with
       | none=>rw[hz] at hq;exact hq
       | some p=>rw[hz] at hq;dsimp only[Option.map_some];dsimp only at hq;rw [hq,l0s];rfl
     rw[l00 E,l00 E,app_ok Ow,bsome,chk_succ Om,bsome];obtain⟨o,ho,hq⟩:=ih (d-1) Om (i+1) m (acc++[s[i]]) Om Om Om Ow;refine⟨o,ho,?_⟩;cases hz:qv (s.drop (i+1)) with
     | none=>rw[hz] at hq;exact hq
     | some p=>rw[hz] at hq;dsimp only[Option.map_some];dsimp only at hq;rw [hq,l0s];rfl
   rw[l00 Om,l0l Om];exact⟨_,G, .inl G⟩
def vl (t:Ls):Option Z00:=match sgn 34 t with|some r=>qv r|none=>some ((tl t).takeWhile (pN [37,39,42]),(tl t).dropWhile (pN [37,39,42]))
theorem vl_len {t v r:Ls}(h:vl t=some (v,r)):r.length<=t.length/\v.length<=t.length:=by
 unfold vl at h;cases hs:sgn 34 t with
 | some q =>
   rw[hs] at h;have u:=Y5f hs;have E:=Ya7 _ _ _ _ (l0b _) h;omega
 | none =>
   rw[hs] at h;cases h;have u:=Y55 t;have E:=Y6O (pN [37,39,42]) (tl t);have J:=Y6v (pN [37,39,42]) (tl t);omega
theorem value_eq (t:Ls)(ht:t.length<=1000000):(∃v r,vl t=some (v,r)/\Y1Y t=some (v,true,r))∨(vl t=none/\∃r,Y1Y t=some ([],false,r)):=by
 unfold Y1Y vl;rw[Y7R t (by unfold Big;omega)];cases hs:sgn 34 t with
 | some q =>
   have u:=Y5f hs;dsimp only;rw[bsome];dsimp only;rw[l01 rfl];obtain⟨o,ho,hq⟩:=value_L1 q Om q.length 0 FU [] Om (FU_gt Om) Om Sm;rw[l1a] at ho;rw[l0E] at hq;rw[ho,bsome];cases hz:qv q with
   | some p =>
     obtain⟨v,r⟩:=p;rw[hz] at hq;dsimp only at hq;subst hq;exact .inl ⟨v,r,G,G⟩
   | none =>
     rw[hz] at hq;rcases hq with rfl|rfl
     . exact .inr ⟨G,_,G⟩
     exact .inr ⟨G,_,G⟩
 | none =>
   dsimp only;rw[bsome];dsimp only;have:=Y55 t;rw[l00 Dc,Y7Q (tl t) (by unfold Big;omega) _ _ Ybh,bsome,tl_tl];exact .inl ⟨_,_,G,G⟩
end Go.Ph.Md
end
section
namespace Go.Ph.Md
open Go.Ph.Pl Go.Ph.Pf
open Go.Ph.Chs (vld lower)
abbrev dg (c:UInt8):Bool:=decide (48<=c.toNat/\c.toNat<=57)
abbrev digs (s:Ls):Bool:=s.all dg
@[irreducible] def dgt (c : UInt8) : Nat := c.toNat - 48
theorem dgt_eq (c:UInt8):dgt c=c.toNat-48:=by unfold dgt;rfl
@[irreducible] def mad (n d : Nat) : Nat := n * 10 + d
theorem mad_eq (n d:Nat):mad n d=n*10+d:=by unfold mad;rfl
def dvA : Nat->Ls->Nat
 | n,[]=>n
 | n,c::r=>dvA (mad n (dgt c)) r
theorem Y7a (n:Nat):dvA n []=n:=by rw[dvA]
theorem Y6b (n:Nat)(c:UInt8)(r:Ls):dvA n (c::r)=dvA (n*10+(c.toNat-48)) r:=by rw[dvA,mad_eq,dgt_eq]
abbrev dv (s:Ls):Int:=(dvA 0 s:Nat)
theorem dvA_lt :∀(s:Ls) (n:Nat),digs s=true->dvA n s<(n+1)*10 ^ s.length
 | [],n,h=>by simp [Y7a]
 | c::r,n,h=>by
   simp only[digs,l0i,l0n,dg,decide_eq_true_eq] at h;have:=dvA_lt r (n*10+(c.toNat-48)) h.2;rw[Y6b,l04,l3r];refine l1t this ?_;rw[l2V (10 ^ r.length) 10,<-Nat.mul_assoc];exact l1C _ Om
theorem Y9x :∀(s:Ls) (n k:Nat),digs s=true->n<10 ^ k->k+s.length<=9->Lib.parseUint10 n s = .ok (dvA n s)
 | [],n,k,h,hn,hk=>by rw[Y7a];rfl
 | c::r,n,k,h,hn,hk=>by
   simp only[digs,l0i,l0n,dg,decide_eq_true_eq] at h;simp only[l04] at hk;have hp:(10:Nat) ^ k<=10 ^ 8:=l1I Om Om;have u:(10:Nat) ^ 8=100000000:=rfl;rw[Lib.parseUint10,l01 h.1,l00 Om,l00 Om,Y6b];exact Y9x r _ (k+1) h.2 (by rw[l3r];omega) Om
theorem dv_lt {s:Ls}(h:digs s=true)(u:s.length<=9):dv s<1000000000:=by
 have hlt:=dvA_lt s 0 h;have hp:(10:Nat) ^ s.length<=10 ^ 9:=l1I Om u;have E:(10:Nat) ^ 9=1000000000:=rfl;unfold dv;omega
theorem atoi_dig {s:Ls}(h:digs s=true)(E:s≠ [])(u:s.length<=9):atoiP s=(dv s,true):=by
 have hlt:=dv_lt h u;unfold dv at hlt;obtain⟨c,r,rfl⟩ :∃c r,s=c::r:=by cases s with|nil=>exact absurd rfl E|cons c r=>exact⟨c,r,rfl⟩
 have hc:48<=c.toNat/\c.toNat<=57:=by
  simp only[digs,l0i,l0n,dg,decide_eq_true_eq] at h;exact h.1
 have J:Lib.parseMag (c::r) = .ok (dvA 0 (c::r)):=by
  unfold Lib.parseMag;rw[l00 Sm,Y9x (c::r) 0 0 h Sm (by simpa using u)]
 have K:Lib.atoiAll (c::r) = .ok (dv (c::r)):=by
  simp only[Lib.atoiAll];rw[l00 Om,J];simp only;rw[l00 Om,l00 Om,l00 Om]
 unfold atoiP;rw[K]
theorem Y8T {s:Ls}{v:Int}(h:Lib.atoiAll s = .ok v): -9223372036854775808<=v/\v<=9223372036854775807:=by
 unfold Lib.atoiAll at h;split at h
 . cases h
 dsimp only at h;split at h
 . cases h
 . cases h
 split at h
 . cases h
 split at h
 . cases h
 rename_i u E;cases h;split <;> omega
theorem Ybi {s:Ls}(h:(atoiP s).2=true): -9223372036854775808<=(atoiP s).1/\(atoiP s).1<=9223372036854775807:=by
 unfold atoiP at h ⊢;split at h
 . rename_i v hv;exact Y8T hv
 . cases h
 cases h
def numP (s:Ls):Option Int:=if (atoiP s).2=true/\itoaP (atoiP s).1=s/\0<=(atoiP s).1/\(atoiP s).1<=1099511627776 then some (atoiP s).1 else none
def numR (s:Ls):Option Int:=if (digs s=true/\1<=s.length/\s.length<=9)/\itoaP (dv s)=s then some (dv s) else none
theorem Y8k (s:Ls)(hs:s.length<=1000000):Y4i s 1099511627776=some (match numP s with|some n=>(n,true)|none=>(0,false)):=by
 unfold Y4i strconv_Atoi numP;rw[l01 Om,bsome];have hr := @Ybi s;obtain⟨⟨n,b⟩,he⟩ :∃p,atoiP s=p:=⟨_,rfl⟩
 rw[he] at hr ⊢;dsimp only at hr ⊢;cases b with
 | false=>rw[l00 Dc,bsome,l01 rfl,l00 (fun h=>by cases h.1)]
 | true =>
   have hr':=hr rfl;unfold strconv_Itoa;rw[l01 rfl,l01 hr',bsome];by_cases u:itoaP n=s
   . rw[l01 u];by_cases E:n<0
     . rw[l01 E,bsome,l01 rfl,l00 (fun h=>by omega)]
     rw[l00 E,bsome];by_cases J:1099511627776<n
     . rw[l0f J,l01 rfl,l00 (fun h=>by omega)]
     rw[l0g J,l00 Dc,l01 ⟨rfl,u,by omega,by omega⟩]
   rw[l00 u,bsome,l01 rfl,l00 (fun h=>u h.2.1)]
theorem Yc4 :∀(m n:Nat),digs (dgF m n)=true
 | 0,n=>rfl
 | m + 1,n=>by
   have u :∀p,p<10->dg (UInt8.ofNat (48+p))=true:=by decide
   rw[dgF];split
   . rename_i h;unfold digs;rw[l0i,u n h];rfl
   have:=Yc4 m (n / 10);unfold digs at this ⊢;rw[l1q,this,l0i,u (n % 10) (l2A _ Om)];rfl
theorem dgF_ne (m n:Nat):dgF (m+1) n≠ []:=by
 rw[dgF];split <;> simp
theorem Y7b {n:Nat}(h:n<1000000000):digs (itoaP n)=true/\itoaP n≠ []/\(itoaP n).length<=9:=by
 unfold itoaP;rw[l00 Om,l0q];refine⟨Yc4 _ _,dgF_ne 19 n,?_⟩;rw[dgF_eq 19 n Om,<-dgF_eq 8 n Om];exact Y8R 9 n
theorem numR_P {s:Ls}{n:Int}(h:numR s=some n):numP s=some n/\0<=n/\n<1000000000:=by
 unfold numR at h;split at h
 . rename_i hc;obtain⟨⟨u,J,E⟩,K⟩:=hc;cases h;have hz:=dv_lt u E;have ha:=atoi_dig u (by intro e;subst e;simp at J) E;refine⟨?_,by unfold dv;omega,hz⟩;unfold numP;rw[ha,l01 ⟨rfl,K,by unfold dv;omega,by dsimp only;omega⟩]
 cases h
theorem YaG :∀(x:Ls) (n:Nat) (c:UInt8),dvA n (x++[c])=dvA n x*10+(c.toNat-48)
 | [],n,c=>by rw[l07,Y6b,Y7a,Y7a]
 | a::x,n,c=>by rw[l09,Y6b,Y6b,YaG x]
theorem Yc5 :∀(m n:Nat),n<10 ^ m->dvA 0 (dgF m n)=n
 | 0,n,h=>by
   have:n=0:=by simpa using h
   subst this;rw[dgF,Y7a]
 | m + 1,n,h=>by
   have u :∀p,p<10->(UInt8.ofNat (48+p)).toNat-48=p:=by decide
   rw[dgF];split
   . rename_i E;rw[Y6b,Y7a,u n E];omega
   rw[YaG,Yc5 m (n / 10) (by rw[l3o Om,<-l3r];exact h),u _ (l2A _ Om)];omega
theorem Ya8 (n:Nat)(h:n<1000000000):numP (itoaP n)=some (n:Int)/\numR (itoaP n)=some (n:Int):=by
 have hs:=Y7b h;have hl:1<=(itoaP n).length:=l0F.2 hs.2.1;have hd:dv (itoaP n)=n:=by
  unfold dv itoaP;rw[l00 Om,l0q,Yc5 20 n Om]
 have hR:numR (itoaP n)=some (n:Int):=by
  unfold numR;rw[hd,l01 ⟨⟨hs.1,hl,hs.2.2⟩,rfl⟩]
 exact⟨(numR_P hR).1,hR⟩
end Go.Ph.Md
end
section
namespace Go.Ph.Md
open Go.Ph.Pl Go.Ph.Pf
open Go.Ph.Chs (vld lower)
def ns (c:UInt8):Bool := !decide (c=42)
theorem Yc6 : ns 42=false:=rfl
theorem YaH :∀(l:Ls),(42∈l↔(l.takeWhile ns).length<l.length)
 | []=>by simp
 | c :: l=>by
   by_cases h:c=42
   . subst h;simp [Yc6]
   have hn:ns c=true:=by unfold ns;rw [l0g h];rfl
   rw[l2e hn,l04,l04,l0k];have:=YaH l;constructor
   . rintro(e|e)
     . exact absurd e.symm h
     have:=this.1 e;omega
   intro e;exact .inr (this.2 Om)
theorem Y8l :∀(l:Ls),Lib.index l [42]=if 42∈l then((l.takeWhile ns).length:Int) else -1
 | []=>rfl
 | c :: l=>by
   rw[Lib.index];by_cases h:c=42
   . subst h;rw[l01 (by simp [List.isPrefixOf]),l01 Sm,l2y (by simp [Yc6])];rfl
   have hn:ns c=true:=by unfold ns;rw [l0g h];rfl
   have h' :¬(42:UInt8)=c:=fun e=>h e.symm
   rw[l00 (by simp [List.isPrefixOf,h']),Y8l l,l2e hn];by_cases hm:42∈l
   . rw[l01 hm,l00 (by first|(simp;done)|(simp;omega)),l01 (by simp [hm]),l04];omega
   rw[l00 hm,l01 Dc,l00 (by simp [hm,h'])]
def cutB (name:Ls):Ls:=name.takeWhile ns
def cutR (name:Ls):Ls:=(name.dropWhile ns).drop 1
theorem cut_eq (name:Ls)(hs:name.length<=1000000):Y2A name [42]=some (if 42∈name then(cutB name,cutR name,true) else(name,[],false)):=by
 have hl:=Y6O ns name;unfold Y2A Y2l Y0W cutB cutR;rw[l01 Om,bsome,Y8l];by_cases h:42∈name
 . have u:=(YaH name).1 h;rw[l01 h,l01 h,l01 Om,cut_to rfl hl,bsome,show (([42]:Ls).length:Int)=((1:Nat):Int) from rfl,chk_addN 1 Om,bsome,cut_from rfl Om,bsome,bsome,Ya6,<-l0V,Y8S]
 rw[l00 h,l00 h,l00 Dc,bsome]
theorem Y35 {α:Type}(l:List α):l=[]∨∃a c,l=a++[c]:=by
 rcases l3q l with h|⟨a,c,h⟩
 . exact .inl h
 exact .inr ⟨a,c,by rw[h];simp⟩
def cutS (r:Ls):Ls × Bool:=if r.getLast? = some 42 then(r.dropLast,true) else(r,false)
theorem cutS_len (r:Ls):(cutS r).1.length<=r.length:=by
 unfold cutS;split
 . rw[List.length_dropLast];omega
 exact l0b _
theorem Y9y (r:Ls)(hs:r.length<=1000000):Y1L r [42]=some (cutS r):=by
 unfold Y1L Y1q Y0n cutS;rcases Y35 r with rfl|⟨a,c,rfl⟩
 . rfl
 have u:((a++[c]).length:Int)-(([42]:Ls).length:Int)=(a.length:Int):=by simp
 rw[l01 Ow,u,chk_ok Om (by simp at hs;omega),bsome,cut_from rfl Sm,bsome,bsome,bsome,l1X,l3v,l2B];by_cases h:c=42
 . subst h;rw[l0f rfl,l01 rfl,bsome,cut_to rfl Sm,bsome,l1p,l01 rfl];rfl
 rw[l0g (by simpa using h),l00 Dc,l00 (by simpa using h)];rfl
def mkP (num:Ls->Option Int)(name v:Ls):Option Pce :=
 if 42∈name then(if cutB name=[] then none else(num (cutS (cutR name)).1).map fun n=>(cutB name,n,(cutS (cutR name)).2,v))
 else(if name=[] then none else some (name,-1,false,v))
def rdP (num:Ls->Option Int)(t:Ls):Option (Pce × Ls) :=
 (sgn 61 ((tl t).dropWhile (pN [42]))).bind fun u=>(vl u).bind fun q=>(mkP num ((tl t).takeWhile (pN [42])) q.1).map fun p=>(p,q.2)
theorem cutR_len (name:Ls):(cutR name).length<=name.length:=by
 unfold cutR;have:=Y6v ns name;rw[l08];omega
theorem YaI {num:Ls->Option Int}{name v:Ls}{p:Pce}(h:mkP num name v=some p):p.1.length<=name.length/\p.2.2.2=v/\p.1≠ []/\(p.2.1 = -1∨∃s,num s=some p.2.1):=by
 unfold mkP at h;split at h
 . split at h
   . cases h
   rename_i hb;obtain⟨n,u,E⟩:=l0A.1 h;cases E;exact⟨Y6O _ _,G,hb, .inr ⟨_,u⟩⟩
 split at h
 . cases h
 rename_i hb;cases h;exact⟨l0b _,G,hb, .inl G⟩
theorem YaJ {num:Ls->Option Int}{t r:Ls}{p:Pce}(h:rdP num t=some (p,r)):r.length<t.length/\p.1.length<=t.length/\p.2.2.2.length<=t.length/\p.1≠ []/\(p.2.1 = -1∨∃s,num s=some p.2.1):=by
 unfold rdP at h;obtain⟨V,J,h⟩:=bnd h;obtain⟨⟨v,r'⟩,K,h⟩:=bnd h;obtain⟨p',N,u⟩:=l0A.1 h;dsimp only at u;cases u;have Y:=Y5f J;have Z:=Y6v (pN [42]) (tl t);have a3:=Y55 t;have a4:=vl_len K;have a5:=Y6O (pN [42]) (tl t);obtain⟨b1,E,O,U⟩:=YaI N;dsimp only at E;exact⟨by omega,by omega,by rw[E];omega,O,U⟩
theorem read_eq (t:Ls)(ht:t.length<=1000000):∃p b r,Y2L t=some (p,b,r)/\rdP numP t=if b=true then some (p,r) else none:=by
 have J:=Y55 t;have K:=Y6v (pN [42]) (tl t);have N:=Y6O (pN [42]) (tl t);unfold Y2L;rw[Y7Q t (by unfold Big;omega) _ _ Yc3,bsome];dsimp only;rw[Y7R _ (by unfold Big;omega),bsome];cases hs:sgn 61 ((tl t).dropWhile (pN [42])) with
 | none=>exact⟨_,_,_,rfl,by unfold rdP;rw [hs];rfl⟩
 | some E =>
   have O:=Y5f hs;have hR:rdP numP t=(vl E).bind fun q=>(mkP numP ((tl t).takeWhile (pN [42])) q.1).map fun p=>(p,q.2):=by unfold rdP;rw [hs,bsome]
   rw[hR];dsimp only;rw[l01 rfl];have hlen:((tl t).takeWhile (pN [42])).length<=1000000:=by omega
   clear hR;generalize (tl t).takeWhile (pN [42])=name at *;have hcr:=cutR_len name;have hcs:=cutS_len (cutR name);unfold mkP;rcases value_eq E Om with ⟨v,r,hv,hm⟩|⟨hv,r,hm⟩
   . rw[hm,hv,bsome,cut_eq name hlen];by_cases u:42∈name
     . rw[l01 u,bsome];dsimp only;rw[l01 rfl,Y9y _ Om,bsome,Y8k _ Om,bsome];cases hn:numP (cutS (cutR name)).1 with
       | none =>
         dsimp only;refine⟨_,_,_,G,?_⟩;rw[bsome,l01 u];split <;> rfl
       | some n =>
         dsimp only;refine⟨_,_,_,G,?_⟩;rw[bsome,l01 u];dsimp only;by_cases hb:cutB name=[]
         . rw[l01 hb,l0f hb];rfl
         rw[l00 hb,l0g hb];rfl
     rw[l00 u,bsome];dsimp only;refine⟨_,_,_,G,?_⟩;rw[bsome,l00 u];dsimp only;by_cases hb:name=[]
     . rw[l01 hb,l0f hb];rfl
     rw[l00 hb,l0g hb];rfl
   rw[hm,hv,bsome,cut_eq name hlen];by_cases u:42∈name
   . rw[l01 u,bsome];dsimp only;rw[l01 rfl,Y9y _ Om,bsome,Y8k _ Om,bsome];exact⟨_,_,_,G,G⟩
   rw[l00 u,bsome];exact⟨_,_,_,G,G⟩
def pcs (num:Ls->Option Int):Nat->Ls->Option (List Pce × Ls)
 | 0,_=>none
 | m+1,t=>match sgn 59 t with|some r=>(rdP num r).bind fun p=>(pcs num m p.2).map fun q=>(p.1::q.1,q.2)|none=>some ([],tl t)
theorem parse_L1 (u E:Ls)(a b:Ls)(c:List Par):∀(d m:Nat) (t:Ls) (l:List Pce),t.length<=d->d<m->l.length+t.length<=100000->
 Y2d u E m a b c t l=some (match pcs numP m t with|some (q,r) => .inl (a,b,c,r,l++q)|none => .inr ((u,E,[]),false)):=by
 intro d;induction d with
 | zero =>
   intro m t l hd hm hl;obtain⟨m,rfl⟩ :∃k,m=k+1:=⟨m-1,by omega⟩
   have:t=[]:=l0e Om;subst this;rw[Y2d,Y7R _ (by unfold Big;simp),bsome,pcs,show sgn 59 []=none from rfl];dsimp only;rw[l00 Dc,l0m]
 | succ d ih =>
   intro m t l hd hm hl;obtain⟨m,rfl⟩ :∃k,m=k+1:=⟨m-1,by omega⟩
   rw[Y2d,Y7R _ (by unfold Big;omega),bsome,pcs];cases hs:sgn 59 t with
   | none =>
     dsimp only;rw[l00 Dc,l0m]
   | some r =>
     have K:=Y5f hs;dsimp only;rw[l01 rfl];obtain⟨p,bb,J,he,hr⟩:=read_eq r Om;rw[he,bsome,hr];dsimp only;cases bb with
     | false=>rfl
     | true =>
       rw[l01 rfl] at hr;have N:=(YaJ hr).1;rw[l01 rfl,l01 rfl,app_ok Ow,bsome,ih m J _ Om Om Ow,bsome];dsimp only;cases hq:pcs numP m J with
       | none=>rfl
       | some q=>obtain⟨q,x⟩:=q;simp
end Go.Ph.Md
end
section
namespace Go.Ph.Md
open Go.Ph.Pl Go.Ph.Pf
open Go.Ph.Chs (vld lower utf8)
open Go.Ph.Utf (rune dr)
def hexv (c:UInt8):Option Nat:=if 48<=c.toNat/\c.toNat<=57 then some (c.toNat-48) else if 65<=c.toNat/\c.toNat<=70 then some (c.toNat-55) else if 97<=c.toNat/\c.toNat<=102 then some (c.toNat-87) else none
theorem Yc7 {c:UInt8}{x:Nat}(h:hexv c=some x):x<16:=by
 unfold hexv at h;split at h
 . cases h;omega
 split at h
 . cases h;omega
 split at h
 . cases h;omega
 cases h
theorem hex_eq (c:UInt8):Y4f c=some ((match hexv c with|some x=>UInt8.ofNat x|none=>0),(hexv c).isSome):=by
 refine allB (p:=fun c=>Y4f c=some ((match hexv c with|some x=>UInt8.ofNat x|none=>0),(hexv c).isSome)) ?_ c;decide +kernel
theorem two16 :∀x,x<16->∀y,y<16->(UInt8.ofNat ((UInt8.ofNat x).toNat*2 ^ 4)) ||| UInt8.ofNat y=UInt8.ofNat (16*x+y):=by decide +kernel
def hex2 (a b:UInt8):Option UInt8:=match hexv a,hexv b with|some x,some y=>some (UInt8.ofNat (16*x+y))|_,_=>none
theorem Y8m {s:Ls}(h:s.length<2):Y2I s=some (0,false):=by
 unfold Y2I;rw [l01 Om]
theorem pair_eq (a b:UInt8)(t:Ls):∃c,Y2I (a::b::t)=some (c,(hex2 a b).isSome)/\∀z,hex2 a b=some z->c=z:=by
 unfold Y2I;rw[l00 Ow,show (0:Int)=((0:Nat):Int) from rfl,idx_nat,show (1:Int)=((1:Nat):Int) from rfl,idx_nat];simp only[l1b,l1g,bsome,hex_eq];unfold hex2;cases ha:hexv a with
 | none=>exact⟨_,by rfl,fun z hz=>by cases hz⟩
 | some x =>
   cases hb:hexv b with
   | none=>exact⟨_,by rfl,fun z hz=>by cases hz⟩
   | some y=>exact⟨_,by rfl,fun z hz=>by cases hz;exact two16 x (Yc7 ha) y (Yc7 hb)⟩
def hexd2 : Ls->Option (UInt8 × Ls)
 | a::b::t=>(hex2 a b).map fun z=>(z,t)
 | _=>none
theorem Y6P {t:Ls}{p:UInt8 × Ls}(h:hexd2 t=some p):p.2=t.drop 2/\2<=t.length:=by
 rcases t with _|⟨a,_|⟨b,t⟩⟩
 . cases h
 . cases h
 obtain⟨z,_,rfl⟩:=l0A.1 h;exact⟨G,by simp⟩
theorem Ybj (t:Ls):∃c b,Y2I t=some (c,b)/\match hexd2 t with|some p=>b=true/\c=p.1|none=>b=false:=by
 rcases t with _|⟨a,_|⟨b,t⟩⟩
 . exact⟨_,_,Y8m Sm,G⟩
 . exact⟨_,_,Y8m Sm,G⟩
 obtain⟨c,u,E⟩:=pair_eq a b t;refine⟨_,_,u,?_⟩;have e:hexd2 (a::b::t)=(hex2 a b).map fun z=>(z,t):=rfl
 rw[e];cases h:hex2 a b with
 | none=>rfl
 | some z=>exact⟨rfl,E z h⟩
def unpF : Nat->Ls->Ls
 | 0,_=>[]
 | n+1,[]=>[]
 | n+1,c::t=>if c=37 then(match hexd2 t with|some p=>p.1::unpF n p.2|none=>c::unpF n t) else c::unpF n t
theorem Y7S :∀(n m:Nat) (l:Ls),l.length<n->l.length<m->unpF n l=unpF m l
 | n+1,m+1,[],_,_=>rfl
 | n + 1,m+1,c::t,E,J=>by
   simp only[l04] at E J;rw[unpF,unpF];have K:=Y7S n m t Om Om;rw[K];cases hp:hexd2 t with
   | none=>rfl
   | some p =>
     obtain⟨u,N⟩:=Y6P hp;dsimp only;rw[Y7S n m p.2 (by rw[u,l08];omega) (by rw[u,l08];omega)]
def unp (l:Ls):Ls:=unpF (l.length+1) l
theorem Yc8 : unp []=[]:=rfl
theorem Y7o (c:UInt8)(t:Ls):unp (c::t)=if c=37 then(match hexd2 t with|some p=>p.1::unp p.2|none=>c::unp t) else c::unp t:=by
 unfold unp;rw[l04,unpF];cases hp:hexd2 t with
 | none=>rfl
 | some p =>
   obtain⟨u,E⟩:=Y6P hp;dsimp only;rw[Y7S (t.length+1) (p.2.length+1) p.2 (by rw[u,l08];omega) Om]
theorem Ya9 :∀(n:Nat) (l:Ls),l.length<=n->(unp l).length<=l.length
 | n,[],_=>l0b _
 | 0,c::t,h=>by simp at h
 | n + 1,c::t,h=>by
   simp only[l04] at h ⊢;rw[Y7o];have J:=Ya9 n t Om;split
   . cases hp:hexd2 t with
     | none=>dsimp only;rw [l04];omega
     | some p =>
       obtain⟨u,K⟩:=Y6P hp;have E:=Ya9 n p.2 (by rw[u,l08];omega);rw[u,l08] at E;dsimp only;rw[l04,u];omega
   rw[l04];omega
theorem Yc9 (s:Ls)(hs:s.length<=1000000):∀(d i m:Nat) (acc:Ls),s.length-i<=d->d<m->i<=s.length->acc.length<=i->
 Y0x s m acc (i:Int)=some (acc++unp (s.drop i)):=by
 intro d;induction d using Nat.strongRecOn with
 | ind d ih =>
   intro i m acc h1 h2 h3 h4;obtain⟨m,rfl⟩ :∃k,m=k+1:=⟨m-1,by omega⟩
   rw[Y0x];by_cases hi:i<s.length
   . rw[l01 Om,idx_nat,l06 hi,bsome,l0r hi,Y7o];have hplain :∀(o:Option (Z07 ⊕ Z07)),o=some (.inl (acc,(i:Int)))->(o.bind fun J=>(match J with | .inl (K,E)=>(idx s E).bind fun N=>(app 1 K ([N]:Ls)).bind fun O=>(chk (E+1)).bind fun U=>Y0x s m O U | .inr (V,Y)=>(chk (Y+1)).bind fun Z=>Y0x s m V Z))=some (acc++(s[i]::unp (s.drop (i+1)))):=by
      rintro o rfl;rw[bsome];dsimp only;rw[idx_nat,l06 hi,bsome,app_ok Ow,bsome,chk_succ Om,bsome,ih (d-1) Om (i+1) m _ Om Om Om Ow,l0s];rfl
     by_cases u:s[i]=37
     . rw[l01 u,l01 u,chk_succ Om,bsome,cut_from rfl Om,bsome];obtain⟨c,b,hp,hq⟩:=Ybj (s.drop (i+1));rw[hp,bsome];dsimp only;cases hz:hexd2 (s.drop (i+1)) with
       | none =>
         rw[hz] at hq;dsimp only at hq;subst hq;exact hplain _ (by rw[l00 Dc])
       | some p =>
         rw[hz] at hq;obtain⟨rfl,rfl⟩:=hq;obtain⟨e1,e2⟩:=Y6P hz;rw[l08] at e2;rw[l01 rfl,app_ok Ow,bsome,show ((i:Int)+2)=((i+2:Nat):Int) by omega,chk_ok Om Om,bsome,bsome];dsimp only;rw[chk_succ Om,bsome,ih (d-3) Om (i+2+1) m _ Om Om Om Ow,e1,l0V,l0s,show i+1+2=i+2+1 by omega];rfl
     rw[l00 u,l00 u];exact hplain _ G
   rw[l00 Om,l0l Om,Yc8,l0m]
def bare (p:Pce):Ls:=if p.2.1=0/\6<=p.2.2.2.length/\lower (p.2.2.2.take 6)=pre8 then p.2.2.2.drop 6 else p.2.2.2
def txt (p:Pce):Ls:=if p.2.2.1=true then unp (bare p) else p.2.2.2
theorem bare_len (p:Pce):(bare p).length<=p.2.2.2.length:=by
 unfold bare;split
 . rw[l08];omega
 exact l0b _
theorem Yca (p:Pce):(txt p).length<=p.2.2.2.length:=by
 unfold txt;have:=bare_len p;have:=Ya9 _ (bare p) (l0b _);split <;> omega
theorem Y9z : lower pre8=pre8:=by decide
theorem text_eq (p:Pce)(hp:p.2.2.2.length<=1000000):Y30 p=some (txt p):=by
 obtain⟨nm,n,st,v⟩:=p;unfold Y30 txt bare;dsimp only at hp ⊢;cases st with
 | false=>rw[l00 Dc,l00 Dc]
 | true =>
   rw[l01 rfl,l01 rfl];have e:(if n=(0:Int) then(if (6:Int)<=(v.length:Int) then(cut v 0 6).bind fun J=>(Y0X J [117,116,102,56,39,39]).bind fun K=>some K else some false) else some false)=some (decide (n=0/\6<=v.length/\lower (v.take 6)=pre8)):=by
    by_cases u:n=0
    . rw[l01 u];by_cases E:6<=v.length
      . rw[l01 Om,cut_to (j:=6) (b:=6) rfl E,bsome,Y3p (by unfold Big;rw [l0j];omega) (by unfold Big;simp),bsome,show lower [117,116,102,56,39,39]=pre8 from Y9z];congr 1;simp [u,E]
      rw[l00 Om,l0g (fun h=>E h.2.1)]
    rw[l00 u,l0g (fun h=>u h.1)]
   rw[e,bsome];by_cases hc:n=0/\6<=v.length/\lower (v.take 6)=pre8
   . rw[l0f hc,l01 rfl,l01 hc,cut_from (i:=6) (a:=6) rfl hc.2.1,bsome,bsome];have:=Yc9 (v.drop 6) Ox (v.drop 6).length 0 FU [] Om (FU_gt Ox) Om Sm;rw[l1a,l0E,l07] at this;rw[this,bsome]
   rw[l0g hc,l00 Dc,l00 hc,bsome];have:=Yc9 v hp v.length 0 FU [] Om (FU_gt Om) Om Sm;rw[l1a,l0E,l07] at this;rw[this,bsome]
def fixF : Nat->Bool->Ls->Ls
 | 0,_,_=>[]
 | n+1,b,t=>if t=[] then [] else if 0<=(rune t).1 then t.take (rune t).2++fixF n false (t.drop (rune t).2) else(if b=true then [] else [239,191,189])++fixF n true (t.drop 1)
theorem Y6Q :∀(n m:Nat) (b:Bool) (l:Ls),l.length<n->l.length<m->fixF n b l=fixF m b l
 | n+1,m+1,b,l,u,E=>by
   rw[fixF,fixF];by_cases hl:l=[]
   . rw[l01 hl,l01 hl]
   obtain⟨J,_,K⟩:=Utf.rune_size l;have hp:=l0F.2 hl;rw[l00 hl,l00 hl,Y6Q n m false (l.drop (rune l).2) Ox Ox,Y6Q n m true (l.drop 1) Ox Ox]
def fix (b:Bool)(t:Ls):Ls:=fixF (t.length+1) b t
theorem Ycb (b:Bool):fix b []=[]:=rfl
theorem Y8n {t:Ls}(b:Bool)(hl:t≠ [])(h:0<=(rune t).1):fix b t=t.take (rune t).2++fix false (t.drop (rune t).2):=by
 obtain⟨u,_,E⟩:=Utf.rune_size t;have hp:=l0F.2 hl;unfold fix;rw[fixF,l00 hl,l01 h,Y6Q t.length ((t.drop (rune t).2).length+1) false _ Ox Om]
theorem Ycc {t:Ls}(b:Bool)(hl:t≠ [])(h:(rune t).1<0):fix b t=(if b=true then [] else [239,191,189])++fix true (t.drop 1):=by
 have hp:=l0F.2 hl;unfold fix;rw[fixF,l00 hl,l00 Om,Y6Q t.length ((t.drop 1).length+1) true _ Ox Om]
theorem Ycd :∀(n:Nat) (t:Ls) (b:Bool),t.length<=n->vld t=true->fix b t=t
 | n,[],b,_,_=>rfl
 | 0,c::t,b,h,_=>by simp at h
 | n+1,c::t,b,h,hv=>by
   have hl:(c::t)≠ []:=by simp
   obtain⟨u,_,E⟩:=Utf.rune_size (c::t);rw[Chs.vld_cons hl,l0n,decide_eq_true_eq] at hv;rw[Y8n b hl hv.1,Ycd n _ false (by rw[l08];simp only[l04] at h ⊢;omega) hv.2,l0X]
theorem tv_L1 (s:Ls):∀(d i m:Nat),s.length-i<=d->d<m->i<=s.length->
 ∃o,tvL1 s m i=some o/\match o with|none=>fix false (s.drop i)=s.drop i|some j=>i<=j/\j<s.length/\fix false (s.drop i)=(s.drop i).take (j-i)++fix false (s.drop j):=by
 intro d;induction d using Nat.strongRecOn with
 | ind d ih =>
   intro i m Y Z h3;obtain⟨m,rfl⟩ :∃k,m=k+1:=⟨m-1,by omega⟩
   rw[tvL1];by_cases hi:i<s.length
   . have hl:s.drop i≠ []:=by rw[Ne,l1W];omega
     obtain⟨r1,r3,N⟩:=Utf.rune_size (s.drop i);have J:=N hl;rw[l08] at J;rw[l01 hi];have hgo :¬(((dr (s.drop i)).1:Int)=65533/\((dr (s.drop i)).2:Int)=1)->∃o,tvL1 s m (i+(dr (s.drop i)).2)=some o/\match o with|none=>fix false (s.drop i)=s.drop i|some j=>i<=j/\j<s.length/\fix false (s.drop i)=(s.drop i).take (j-i)++fix false (s.drop j):=by
      intro hok;obtain⟨K,_,O⟩:=Utf.first_ok _ hok;rw[O];obtain⟨o,ho,hm⟩:=ih (d-(rune (s.drop i)).2) Om (i+(rune (s.drop i)).2) m Om Om Om;refine⟨o,ho,?_⟩;cases o with
      | none =>
        dsimp only at hm ⊢;rw[Y8n false hl K,l0V,hm,<-l0V,l0X]
      | some j =>
        dsimp only at hm ⊢;obtain⟨m1,U,V⟩:=hm;refine⟨by omega,U,?_⟩;rw[Y8n false hl K,l0V,V,<-l0s];congr 1;rw[<-l0V,show j-i=(rune (s.drop i)).2+(j-(i+(rune (s.drop i)).2)) by omega,List.take_add]
     by_cases u:((dr (s.drop i)).1:Int)=(65533:Int)
     . rw[l01 u];by_cases E:((dr (s.drop i)).2:Int)=(1:Int)
       . rw[l01 E];exact⟨_,G,l0b _,hi,by rw[l1D];rfl⟩
       rw[l00 E];exact hgo (fun h=>E h.2)
     rw[l00 u];exact hgo (fun h=>u h.1)
   rw[l00 hi];refine⟨_,G,?_⟩;dsimp only;rw[l0l Om,Ycb]
theorem rune_big {t:Ls}(hl:t≠ [])(h:128<=Utf.nat t 0)(u:0<=(rune t).1):(rune t).2≠1:=by
 intro E;have hu:=Chs.Y97 t hl u;have hp:=l0F.2 hl;rw[E,Chs.take_utf8_1 hp] at hu;have hm:utf8 (rune t).1=Chs.utf8M (rune t).1:=by
  obtain⟨a,b⟩:=Chs.rune_valid t u;unfold Chs.utf8;rw[Chs.fixN_id u a b]
 rw[hm] at hu;unfold Chs.utf8M at hu;split at hu
 . rename_i hlt;have e:=(List.cons.inj hu).1;have J:=Chs.ub_nat u Om;have K:=Chs.ub_nat (a:=(Utf.nat t 0:Int)) Om (by have:=Utf.nat_lt t 0;omega);rw[e,K] at J;omega
 split at hu
 . simp at hu
 split at hu <;> simp at hu
theorem YaK (l s:Ls)(h:l.length+s.length<=100000000):Y0s l s=some ((s.length:Int),true,l++s):=by
 unfold Y0s;rw[app_ok Om,bsome]
theorem Yce (l:Ls)(c:UInt8)(h:l.length<=10000000):Y14 l c=some (true,l++[c]):=by
 unfold Y14;rw[app_ok Ow,bsome]
theorem tv_L2 (s:Ls)(hs:s.length<=1000000):∀(d i m:Nat) (b:Bool) (acc:Ls),s.length-i<=d->d<m->i<=s.length->acc.length<=1000000+4*i->
 Y0u [239,191,189] s m acc b (i:Int)=some (acc++fix b (s.drop i)):=by
 intro d;induction d using Nat.strongRecOn with
 | ind d ih =>
   intro i m b acc Z h2 h3 h4;obtain⟨m,rfl⟩ :∃k,m=k+1:=⟨m-1,by omega⟩
   rw[Y0u];by_cases hi:i<s.length
   . have hl:s.drop i≠ []:=by rw[Ne,l1W];omega
     obtain⟨r1,r3,K⟩:=Utf.rune_size (s.drop i);have E:=K hl;rw[l08] at E;have hdi:=l0r hi;have hnat:Utf.nat (s.drop i) 0=s[i].toNat:=by rw[hdi];exact Chs.nat_head _ _
     rw[l01 Om,idx_nat,l06 hi,bsome];by_cases u:s[i].toNat<128
     . have hr:=Utf.rune_ascii (l:=s.drop i) Om;rw[l01 u,chk_succ Om,bsome,Yce _ _ Om,bsome];dsimp only;rw[ih (d-1) Om (i+1) m false _ Om Om Om Ow,Y8n b hl (by rw[hr];dsimp only;omega),hr];dsimp only;rw[l0V,l0s];congr 2;rw[hdi];rfl
     rw[l00 u,cut_from rfl Om,bsome];unfold Y0l;rw[l01 hl,bsome];dsimp only;by_cases h1s:((dr (s.drop i)).2:Int)=1
     . have hbad:(rune (s.drop i)).1<0:=by
        by_cases N:0<=(rune (s.drop i)).1
        . exfalso;have:=rune_big hl Om N;have hd:=Utf.rune_dr (s.drop i);rw[l00 Om] at hd;rw[hd] at h1s;dsimp only at h1s;omega
        omega
       rw[l01 h1s,chk_succ Om,bsome,Ycc b hl hbad,l0V];have e:((if b=true then some (acc,true) else(Y0s acc [239,191,189]).bind fun(V,Y,J)=>some (J,true)):Option Z08)=some (acc++(if b=true then [] else [239,191,189]),true):=by
        cases b with
        | true=>rw[l01 rfl,l01 rfl,l0m]
        | false=>rw[l00 Dc,YaK _ _ Ow,bsome];rfl
       rw[e,bsome];dsimp only;rw[ih (d-1) Om (i+1) m true _ Om Om Om (by cases b <;> simp <;> omega),l0s]
     obtain⟨O,_,U⟩:=Utf.first_ok (s.drop i) (fun h=>h1s h.2);rw[l00 h1s,U,<-Int.natCast_add,chk_ok Om Om,bsome,cut_of rfl rfl Om Om,bsome,l2R,l1Y,YaK _ _ (by rw[l0j];omega),bsome];dsimp only;rw[bsome,ih (d-(rune (s.drop i)).2) Om (i+(rune (s.drop i)).2) m false _ Om Om Om (by rw[l05,l0j];omega),Y8n b hl O,l0V,l0s]
   rw[l00 Om,l0l Om,Ycb,l0m]
theorem Ybk (s:Ls)(hs:s.length<=1000000):Y2k s [239,191,189]=some (fix false s):=by
 unfold Y2k;rw[l01 ⟨hs,by simp,by simp⟩];obtain⟨o,ho,hm⟩:=tv_L1 s s.length 0 FU Om (FU_gt Om) Om;rw[ho,bsome];cases o with
 | none =>
   dsimp only at hm ⊢;rw[l0E] at hm;rw[hm]
 | some j =>
   dsimp only at hm ⊢;obtain⟨E,J,u⟩:=hm;rw[l0E,l3a] at u;have:=tv_L2 (s.drop j) Ox (s.drop j).length 0 FU false (s.take j) Om (FU_gt Ox) Om (by rw[l0j];omega);rw[l1a,l0E] at this;unfold Y2o;rw[this,bsome,bsome,u]
end Go.Ph.Md
end
section
namespace Go.Ph.Md
open Go.Ph.Pl Go.Ph.Pf
open Go.Ph.Chs (vld lower)
def tot (l:List Pce):Nat:=(l.map fun p=>p.2.2.2.length).sum
theorem Y3I (p:Pce)(l:List Pce):tot (p::l)=p.2.2.2.length+tot l:=by unfold tot;rw [l0p,l1A]
theorem Y8o (f:Pce->Bool):∀l:List Pce,tot (l.filter f)<=tot l
 | []=>l0b _
 | p::l=>by
   have:=Y8o f l;rw[Y3I,List.filter_cons];split
   . rw[Y3I];omega
   omega
theorem Y7p {a b:List Pce}(h:a.Perm b):tot a=tot b:=by
 induction h with
 | nil=>rfl
 | cons x _ ih=>rw[Y3I,Y3I,ih]
 | swap x y l=>rw[Y3I,Y3I,Y3I,Y3I];omega
 | trans _ _ u E=>rw[u,E]
theorem Yaa :∀l:List Pce,(l.flatMap txt).length<=tot l
 | []=>l0b _
 | p::l=>by
   have:=Yaa l;have:=Yca p;rw[l0v,l05,Y3I];omega
theorem tot_mem {l:List Pce}{p:Pce}(h:p∈l):p.2.2.2.length<=tot l:=by
 induction l with
 | nil=>cases h
 | cons q l ih =>
   rw[Y3I];rcases l0k.1 h with rfl|h
   . omega
   have:=ih h;omega
structure Fit (l:List Pce):Prop where
 len:l.length<=4000
 tot:tot l<=4000
 ok :∀p∈l,pcOk p/\p.1.length<=4000
def smQ (p x:Pce):Bool:=decide (lower x.1=lower p.1)
def grp (l:List Pce)(p:Pce):List Pce:=l.filter (smQ p)
theorem Y7T {x p:Pce}(hx:x.1.length<=4000)(hp:p.1.length<=4000):Y2B x p=some (smQ p x):=by
 unfold Y2B;rw[Y3p (by unfold Big;omega) (by unfold Big;omega),bsome];rfl
theorem indexQ (l:List Pce)(hl:l.length<=4000)(f:Pce->Option Bool)(p:Pce->Bool)(hf :∀x∈l,f x=some (p x)):Y18 l f=some (l.any p):=by
 unfold Y18 Y2p;rcases scanP (fun m i=>Y0o l f m i) l (fun i x=>if p x=true then some (.inr (i:Int)) else none) (.inl ()) (fun m=>by rw[Y0o,l00 Om]) (fun m i h=>by
  rw[Y0o,l01 Om,idx_nat,l06 h,bsome];have e:f (l[i].1,l[i].2.1,l[i].2.2.1,l[i].2.2.2)=some (p l[i]):=hf _ (l0N h);rw[e,bsome,chk_succ Om,bsome];cases p l[i] <;> rfl) l.length 0 FU Om (FU_gt Om) Om with ⟨j,hj,r,E,u,K,J⟩|⟨E,u⟩
 . rw[l1a] at J;have hp:p l[j]=true:=by
    cases h:p l[j] with
    | true=>rfl
    | false=>rw[h,l00 Dc] at u;cases u
   rw[hp,l01 rfl] at u;cases u;rw[J,bsome,bsome];rw[show l.any p=true from l2i.2 ⟨_,l0N hj,hp⟩,l0f Om]
 rw[l1a] at u;rw[u,bsome,bsome];have:l.any p=false:=by
  rw[l1s];intro x hx hp;obtain⟨i,hi,rfl⟩:=l2a hx;have:=E i hi Om;rw[hp,l01 rfl] at this;cases this
 rw[this];rfl
theorem Y8p {α:Type}(p:α->Bool):∀(l:List α) (o:List α),l.foldl (fun o x=>if p x=true then o++[x] else o) o=o++l.filter p
 | [],o=>by simp
 | x::l,o=>by
   rw[l1H,Y8p p l];by_cases h:p x=true
   . rw[l01 h,l3g h];simp
   rw[l00 h,l2o h]
theorem group_eq (l:List Pce)(hl:Fit l)(p:Pce)(hp:p.1.length<=4000):Y19 l p FU [] 0=some (grp l p):=by
 have hlen:=hl.len;rw[foldI0 (L:=fun m s i=>Y19 l p m s i) l (fun o x=>if smQ p x=true then o++[x] else o) id (fun i s=>s.length<=i) Om ?_ ?_ [] Sm,Y8p]
 . rfl
 . intro m s hs;rw[Y19,l00 Om];rfl
 intro m s i x hx hs;have hi:=(l0c.1 hx).1;have hxo:=(hl.ok x (l0S hx)).2;refine⟨by split <;>(try rw[l05,l0R]) <;> omega,?_⟩;rw[Y19,l01 Om,idx_nat,hx,bsome,show Y2B (x.1,x.2.1,x.2.2.1,x.2.2.2) (p.1,p.2.1,p.2.2.1,p.2.2.2)=some (smQ p x) from Y7T hxo hp,bsome];by_cases h:smQ p x=true
 . rw[l01 h,l01 h,app_ok Ow,bsome,chk_succ Om,bsome]
 rw[l00 h,l00 h,chk_succ Om,bsome]
def upF (lo:Int):Nat->List Int
 | 0=>[]
 | k+1=>lo::upF (lo+1) k
theorem Ycf :∀(k:Nat) (lo n:Int),n∈upF lo k↔lo<=n/\n<lo+k
 | 0,lo,n=>by simp [upF]
 | k+1,lo,n=>by
   rw[upF,l0k,Ycf k (lo+1) n];omega
theorem YaL :∀(k:Nat) (lo:Int),(upF lo k).Nodup
 | 0,lo=>List.nodup_nil
 | k+1,lo=>by
   rw[upF,l3u];exact⟨fun h=>by rw[Ycf] at h;omega,YaL k (lo+1)⟩
abbrev nums (l:List Pce):List Int:=l.map fun p=>p.2.1
def okG (g:List Pce):Prop:=nums (sortP g)=upF 0 g.length
instance (g : List Pce):Decidable (okG g):=by unfold okG;infer_instance
theorem sort_ex {g:List Pce}(h :∀p∈g,pcOk p)(hl:g.length<=1000000)(hne:g≠ []):Y0D g=some (sortP g):=by
 cases hs:Y0D g with
 | none =>
   unfold Y0D at hs;rw[l01 ⟨h,hl,hne⟩] at hs;split at hs <;> cases hs
 | some r=>rw[(sort_some hs).2.2.2]
def jnV (g:List Pce):Option Ls :=
 match g with
 | []=>none
 | p::r=>if p.2.1<0 then(if r=[] then some p.2.2.2 else none) else if okG (p::r) then some (fix false ((sortP (p::r)).flatMap txt)) else none
theorem Ycg (l:List Pce)(hl:l.length<=4000)(ht:tot l<=4000)(u E J:Ls):∀(d i m:Nat) (acc:Ls),l.length-i<=d->d<m->i<=l.length->acc.length+tot (l.drop i)<=4000->
 ∃o,Y1A l m u E J acc (i:Int)=some o/\(nums (l.drop i)=upF (i:Int) (l.length-i)->o = .inl (u,E,J,acc++(l.drop i).flatMap txt))/\(¬nums (l.drop i)=upF (i:Int) (l.length-i)->∃x,o = .inr (x,false)):=by
 intro d;induction d with
 | zero =>
   intro i m acc N O U K;obtain⟨m,rfl⟩ :∃k,m=k+1:=⟨m-1,by omega⟩
   rw[Y1A,l00 Om,l0l Om,show l.length-i=0 by omega];exact⟨_,G,fun _=>by rw[l1L,l0m],fun h=>absurd G h⟩
 | succ d ih =>
   intro i m acc N O U K;obtain⟨m,rfl⟩ :∃k,m=k+1:=⟨m-1,by omega⟩
   by_cases hi:i<l.length
   . have hd:=l0r hi;rw[hd,Y3I] at K;have hx:=Yca l[i];rw[Y1A,l01 Om,idx_nat,l06 hi,bsome,hd,show l.length-i=(l.length-(i+1))+1 by omega,upF];by_cases hn:l[i].2.1=(i:Int)
     . rw[l01 hn,show ((l[i].1,l[i].2.1,l[i].2.2.1,l[i].2.2.2):Pce)=l[i] from rfl,text_eq _ Om,bsome,cat_ok Om,bsome,chk_succ Om,bsome];obtain⟨o,ho,hq⟩:=ih (i+1) m (acc++txt l[i]) Om Om Om (by rw[l05];omega);have he:nums (l[i]::l.drop (i+1))=l[i].2.1::nums (l.drop (i+1)):=rfl;rw[he,hn,l0v,<-l0s];exact⟨o,ho,fun e=>hq.1 (List.cons.inj e).2,fun e=>hq.2 (fun e'=>e (by rw[e'];rfl))⟩
     rw[l00 hn];exact⟨_,G,fun e=>absurd (List.cons.inj (show l[i].2.1::nums (l.drop (i+1))=_ from e)).1 hn,fun _=>⟨_,G⟩⟩
   rw[Y1A,l00 Om,l0l Om,show l.length-i=0 by omega];exact⟨_,G,fun _=>by rw[l1L,l0m],fun h=>absurd G h⟩
theorem Ych (g:List Pce)(hne:g≠ [])(hg:Fit g):∃x v b,Y4j g=some ((x,v),b)/\jnV g=if b=true then some v else none:=by
 obtain⟨p,r,rfl⟩ :∃p r,g=p::r:=by cases g with|nil=>exact absurd rfl hne|cons p r=>exact⟨p,r,rfl⟩
 have hok :∀q∈p::r,pcOk q:=fun q hq=>(hg.ok q hq).1
 have hp:=sortP_perm hok;have hl:=hg.len;have ht:=hg.tot;unfold Y4j jnV;rw[show idx (p::r) 0=some p from rfl,bsome,bsome,bsome];dsimp only;by_cases u:p.2.1<0
 . rw[l01 u,l01 u];refine⟨_,_,_,G,?_⟩;by_cases hr:r=[]
   . subst hr;rfl
   rw[l00 hr,l0g (by have:=l0F.2 hr;simp;omega),l00 Dc]
 rw[l00 u,l00 u,sort_ex hok Om Sm,bsome];obtain⟨o,ho,hq⟩:=Ycg (sortP (p::r)) (by rw[hp.length_eq];exact hl) (by rw[Y7p hp];exact ht) [] [] p.1 (sortP (p::r)).length 0 FU [] Om (FU_gt (by rw[hp.length_eq];omega)) Om (by rw[l0E,Y7p hp,l0d];omega);rw[l1a,l0E,l3a,l07,hp.length_eq] at hq;rw[l1a] at ho;rw[ho,bsome];have hx:=Yaa (sortP (p::r));rw[Y7p hp] at hx;by_cases hk:okG (p::r)
 . rw[l01 hk];have hq:=hq.1 hk;subst hq;dsimp only;rw[Ybk _ Om,bsome];exact⟨_,_,_,G,by rw[l01 G]⟩
 rw[l00 hk];obtain⟨⟨x,y⟩,rfl⟩:=hq.2 hk;exact⟨_,_,_,G,by rw[l00 Dc]⟩
def parI (l:List Pce)(pre:List Pce):List Pce->Option (List Par)
 | []=>some []
 | p::r=>if pre.any (smQ p)=true then parI l (pre++[p]) r else(jnV (grp l p)).bind fun v=>(parI l (pre++[p]) r).map fun q=>(p.1,v)::q
theorem Yci {l:List Pce}(h:Fit l)(p:Pce):Fit (grp l p):=by
 refine⟨l1B (List.length_filter_le _ _) h.len,l1B (Y8o _ _) h.tot,fun q hq=>h.ok q (l1Q.1 hq).1⟩
theorem grp_mem {l:List Pce}{p:Pce}(h:p∈l):p∈grp l p:=l1Q.2 ⟨h,by unfold smQ;exact l0f rfl⟩
theorem Ycj (l:List Pce)(hl:Fit l):∀(d i m:Nat) (out:List Par),l.length-i<=d->d<m->i<=l.length->out.length<=i->
 Y1a l m out (i:Int)=some (match parI l (l.take i) (l.drop i) with|some q => .inl (out++q)|none => .inr ([],false)):=by
 have hlen:=hl.len;intro d;induction d with
 | zero =>
   intro i m out u E J K;obtain⟨m,rfl⟩ :∃k,m=k+1:=⟨m-1,by omega⟩
   rw[Y1a,l00 Om,l0l Om,parI];dsimp only;rw[l0m]
 | succ d ih =>
   intro i m out u E J K;obtain⟨m,rfl⟩ :∃k,m=k+1:=⟨m-1,by omega⟩
   by_cases hi:i<l.length
   . have hmem:=l0N hi;have hpo:=(hl.ok _ hmem).2;rw[Y1a,l01 Om,idx_nat,l06 hi,bsome,cut_to rfl Om,bsome,l0r hi,parI,<-Y6u hi,
      indexQ (l.take i) (by rw[l0j];omega) _ (smQ l[i]) (fun x hx=>Y7T (hl.ok x (l3t hx)).2 hpo),bsome]
     by_cases ha:(l.take i).any (smQ l[i])=true
     . rw[l01 ha,l01 ha,chk_succ Om,bsome,ih (i+1) m out Om Om Om Om]
     rw[l00 ha,l00 ha,group_eq l hl _ hpo,bsome];obtain⟨x,v,b,hj,hv⟩:=Ych (grp l l[i]) (List.ne_nil_of_mem (grp_mem hmem)) (Yci hl _);rw[hj,bsome,hv];dsimp only;cases b with
     | false=>rfl
     | true =>
       rw[l01 rfl,l01 rfl,app_ok Ow,bsome,chk_succ Om,bsome,ih (i+1) m _ Om Om Om Ow,bsome];cases parI l (l.take (i+1)) (l.drop (i+1)) with
       | none=>rfl
       | some q=>simp
   rw[Y1a,l00 Om,l0l Om,parI];dsimp only;rw[l0m]
theorem Yck (l:List Pce)(hl:Fit l):Y4k l=some (match parI l [] l with|some q=>(q,true)|none=>([],false)):=by
 have hlen:=hl.len;unfold Y4k;have:=Ycj l hl l.length 0 FU [] Om (FU_gt Om) Om Sm;rw[l1a,l0E,l2T] at this;rw[this,bsome];cases parI l [] l with
 | none=>rfl
 | some q=>rfl
end Go.Ph.Md
end
section
namespace Go.Ph.Md
open Go.Ph.Pl Go.Ph.Pf
open Go.Ph.Chs (vld lower)
theorem tw_dw (p:UInt8->Bool)(l:Ls):(l.takeWhile p).length+(l.dropWhile p).length=l.length:=by
 have:=Y6O p l;rw[<-Y8S,l08];omega
theorem Ycl :∀(n:Nat) (t:Ls) (v r:Ls),t.length<=n->qv t=some (v,r)->v.length+r.length<t.length
 | n,[],v,r,hn,h=>by cases h
 | 0,c::t,v,r,hn,h=>by simp at hn
 | n + 1,c::t,v,r,hn,h=>by
   rw[Y6D] at h;rw[l04] at hn ⊢;by_cases J:c=34
   . rw[l01 J] at h;cases h;simp
   rw[l00 J] at h;by_cases K:c=92
   . rw[l01 K] at h;cases t with
     | nil=>cases h
     | cons d t =>
       obtain⟨⟨v',r'⟩,E,u⟩:=l0A.1 h;dsimp only at u;cases u;have:=Ycl n t v' _ (by rw[l04] at hn;omega) E;rw[l04,l04];omega
   rw[l00 K] at h;obtain⟨⟨v',r'⟩,E,u⟩:=l0A.1 h;dsimp only at u;cases u;have:=Ycl n t v' _ Om E;rw[l04];omega
theorem vl_sum {t v r:Ls}(h:vl t=some (v,r)):v.length+r.length<=t.length:=by
 unfold vl at h;cases hs:sgn 34 t with
 | some q =>
   rw[hs] at h;have u:=Y5f hs;have E:=Ycl _ _ _ _ (l0b _) h;omega
 | none =>
   rw[hs] at h;cases h;have u:=Y55 t;have E:=tw_dw (pN [37,39,42]) (tl t);omega
theorem rdP_sum {num:Ls->Option Int}{t r:Ls}{p:Pce}(h:rdP num t=some (p,r)):p.2.2.2.length+r.length<t.length:=by
 unfold rdP at h;obtain⟨O,J,h⟩:=bnd h;obtain⟨⟨v,r'⟩,K,h⟩:=bnd h;obtain⟨p',N,u⟩:=l0A.1 h;dsimp only at u;cases u;have U:=Y5f J;have V:=Y6v (pN [42]) (tl t);have Y:=Y55 t;have Z:=vl_sum K;obtain⟨b1,E,b3,b4⟩:=YaI N;dsimp only at E;rw[E];omega
def numOk (num:Ls->Option Int):Prop :=∀s n,num s=some n->0<=n/\n<=1099511627776
theorem Yab : numOk numP:=fun s n h=>by
 unfold numP at h;split at h
 . rename_i hc;cases h;exact⟨hc.2.2.1,hc.2.2.2⟩
 cases h
theorem Yac {num:Ls->Option Int}(hn:numOk num):∀(m:Nat) (t:Ls) (q:List Pce) (r:Ls),pcs num m t=some (q,r)->tl r=r/\q.length+r.length<=t.length/\tot q+r.length<=t.length/\∀p∈q,pcOk p/\p.1.length<=t.length
 | 0,t,q,r,h=>by cases h
 | m + 1,t,q,r,h=>by
   rw[pcs] at h;cases hs:sgn 59 t with
   | none =>
     rw[hs] at h;cases h;have:=Y55 t;exact⟨tl_tl t,by simpa using this,by unfold tot;simpa using this,fun p hp=>by cases hp⟩
   | some V =>
     rw[hs] at h;dsimp only at h;have Y:=Y5f hs;obtain⟨⟨p,N⟩,E,h⟩:=bnd h;obtain⟨⟨q',r'⟩,J,K⟩:=l0A.1 h;dsimp only at J K;cases K;have Z:=rdP_sum E;obtain⟨k1,k2,k3,k4,u⟩:=YaJ E;obtain⟨O,i2,i3,U⟩:=Yac hn m N q' _ J;refine⟨O,by rw[l04];omega,by rw[Y3I];omega,fun x hx=>?_⟩;rcases l0k.1 hx with rfl|hx
     . refine⟨?_,by omega⟩;unfold pcOk;rcases u with u|⟨s,u⟩
       . omega
       have:=hn s _ u;omega
     have:=U x hx;exact⟨this.1,by omega⟩
theorem fit_of {num:Ls->Option Int}(hn:numOk num){m:Nat}{t:Ls}{q:List Pce}{r:Ls}(h:pcs num m t=some (q,r))(ht:t.length<=4000):Fit q:=by
 obtain⟨a,b,c,d⟩:=Yac hn m t q r h;exact⟨by omega,by omega,fun p hp=>⟨(d p hp).1,by have:=(d p hp).2;omega⟩⟩
def readM (num:Ls->Option Int)(t:Ls):Option Med :=
 (sgn 47 ((tl t).dropWhile tkB)).bind fun u=>if (tl t).takeWhile tkB=[]∨(tl u).takeWhile tkB=[] then none else
  (pcs num FU ((tl u).dropWhile tkB)).bind fun q=>if q.2=[] then(parI q.1 [] q.1).map fun ps=>((tl t).takeWhile tkB,(tl u).takeWhile tkB,ps) else none
theorem parse_eq (t:Ls)(ht:t.length<=4000):∃m b,Y4F t=some (m,b)/\readM numP t=if b=true then some m else none:=by
 unfold Y4F readM;have K:=Y55 t;have N:=Y6v tkB (tl t);rw[Y7Q t (by unfold Big;omega) _ _ Y4r,bsome];dsimp only;rw[Y7R _ (by unfold Big;omega)];cases hs:sgn 47 ((tl t).dropWhile tkB) with
 | none =>
   dsimp only;have J:=Y55 ((tl t).dropWhile tkB);rw[bsome];dsimp only;rw[Y7Q _ (by unfold Big;omega) _ _ Y4r,bsome];dsimp only;have e :∀c:Bool,(if (tl t).takeWhile tkB=[] then some true else(if false=true then some c else some true))=some true:=fun c=>by split <;> rfl
   rw[e,bsome,l01 rfl];exact⟨_,_,G,G⟩
 | some u =>
   have J:=Y5f hs;have O:=Y55 u;have U:=Y6v tkB (tl u);dsimp only;rw[bsome];dsimp only;rw[Y7Q u (by unfold Big;omega) _ _ Y4r,bsome,bsome];dsimp only;by_cases he:(tl t).takeWhile tkB=[]∨(tl u).takeWhile tkB=[]
   . have e:(if (tl t).takeWhile tkB=[] then some true else(if true=true then some (decide ((tl u).takeWhile tkB=[])) else some true))=some true:=by
      rcases he with h|h
      . rw[l01 h]
      rw[l0f h];split <;> rfl
     rw[e,bsome,l01 rfl,l01 he];exact⟨_,_,G,G⟩
   have e:(if (tl t).takeWhile tkB=[] then some true else(if true=true then some (decide ((tl u).takeWhile tkB=[])) else some true))=some false:=by
    rw[l00 (fun h=>he (.inl h)),l01 rfl,l0g (fun h=>he (.inr h))]
   rw[e,bsome,l00 l03,l00 he,parse_L1 _ _ [] [] [] 4000 FU _ [] Om (FU_gt Om) Ow];cases hp:pcs numP FU ((tl u).dropWhile tkB) with
   | none=>exact⟨_,_,rfl,rfl⟩
   | some q =>
     obtain⟨q,r⟩:=q;have hf:=fit_of Yab hp Om;obtain⟨hr,hrl,_⟩:=Yac Yab _ _ _ _ hp;dsimp only;rw[bsome,bsome];dsimp only;rw[Y7P r (by unfold Big;omega),bsome,l07,Yck q hf,hr,bsome];cases hj:parI q [] q with
     | none =>
       refine⟨_,_,G,?_⟩;split <;> rfl
     | some ps =>
       refine⟨_,_,G,?_⟩;dsimp only;by_cases E:r=[]
       . rw[l01 E,l0f E];rfl
       rw[l00 E,l0g E];rfl
theorem Yad :∀(n:Nat) (t:Ls) (b:Bool),t.length<=n->(fix b t).length<=4*t.length
 | n,[],b,_=>l0b _
 | 0,c::t,b,h=>by simp at h
 | n + 1,c::t,b,h=>by
   have hl:(c::t)≠ []:=by simp
   obtain⟨K,_,u⟩:=Utf.rune_size (c::t);have J:=u hl;by_cases E:0<=(Utf.rune (c::t)).1
   . have:=Yad n ((c::t).drop (Utf.rune (c::t)).2) false Ox;rw[l08] at this;rw[Y8n b hl E,l05,l0j];omega
   have:=Yad n ((c::t).drop 1) true Ox;rw[l08] at this;rw[Ycc b hl Om,l05];have hh:(if b=true then [] else [239,191,189]:Ls).length<=3:=by split <;> simp
   rw[l04] at *;omega
theorem jnV_len {g:List Pce}(hg:Fit g){v:Ls}(h:jnV g=some v):v.length<=16000:=by
 cases g with
 | nil=>cases h
 | cons p r =>
   unfold jnV at h;dsimp only at h;split at h
   . split at h
     . cases h;have:=tot_mem (l:=p::r) l0o;have:=hg.tot;omega
     cases h
   split at h
   . cases h;have hok :∀q∈p::r,pcOk q:=fun q hq=>(hg.ok q hq).1
     have u:=Yaa (sortP (p::r));rw[Y7p (sortP_perm hok)] at u;have E:=hg.tot;have J:=Yad _ ((sortP (p::r)).flatMap txt) false (l0b _);omega
   cases h
theorem Y8U {l:List Pce}(hl:Fit l):∀(r pre:List Pce) (q:List Par),(∀p∈r,p∈l)->parI l pre r=some q->q.length<=r.length/\BigP q
 | [],pre,q,_,h=>by cases h;exact ⟨l0b _,fun x hx=>by cases hx⟩
 | p :: r,pre,q,hm,h=>by
   have hm' :∀x∈r,x∈l:=fun x hx=>hm x (l0t _ hx)
   rw[parI] at h;split at h
   . have:=Y8U hl r _ q hm' h;exact⟨by rw[l04];omega,this.2⟩
   obtain⟨v,u,h⟩:=bnd h;obtain⟨q',E,J⟩:=l0A.1 h;cases J;have:=Y8U hl r _ q' hm' E;refine⟨by rw[l04,l04];omega,fun x hx=>?_⟩;rcases l0k.1 hx with rfl|hx
   . have K:=jnV_len (Yci hl p) u;have N:=(hl.ok p (hm p l0o)).2;exact⟨by unfold Big;dsimp only;omega,by unfold Big;dsimp only;omega⟩
   exact this.2 x hx
theorem Ycm {t:Ls}(ht:t.length<=4000){m:Med}(h:readM numP t=some m):BigM m/\m.2.2.length<=4000:=by
 unfold readM at h;obtain⟨u,E,h⟩:=bnd h;split at h
 . cases h
 obtain⟨q,J,h⟩:=bnd h;split at h
 . obtain⟨ps,K,N⟩:=l0A.1 h;cases N;have O:=Y55 t;have U:=Y6v tkB (tl t);have V:=Y5f E;have Y:=Y55 u;have Z:=Y6v tkB (tl u);have a6:=Y6O tkB (tl t);have a7:=Y6O tkB (tl u);have hf:=fit_of Yab (q:=q.1) (r:=q.2) J Om;have hP:=Y8U hf q.1 [] ps (fun p hp=>hp) K;have:=hf.len;exact⟨⟨by unfold Big;dsimp only;omega,by unfold Big;dsimp only;omega,hP.2⟩,by dsimp only;omega⟩
 cases h
def prsR (t:Ls):Med × Z02 :=
 if 4000<t.length then(([],[],[]),(1,-1)) else match readM numP t with
  | none=>(([],[],[]),(11,-5))
  | some m=>if (valM m).1=0 then(m,(0,0)) else(([],[],[]),((valM m).1,-6))
theorem Parse_eq (t:Ls):Y4G t=some (prsR t):=by
 unfold Y4G prsR;by_cases h:4000<t.length
 . rw[l01 Om,l01 h,Y0Z,bsome]
 rw[l00 Om,l00 h];obtain⟨m,b,hp,hr⟩:=parse_eq t Om;rw[hp,bsome,hr];dsimp only;cases b with
 | false=>rw[l00 l03,Y0Z,bsome];rfl
 | true =>
   rw[l01 rfl] at hr;have hb:=(Ycm Om hr).1;rw[l01 rfl,show (m.1,m.2.1,m.2.2)=m from rfl,Y3o m hb,bsome];rw[Y0t,bsome];obtain⟨⟨x,y⟩,hv⟩ :∃p,valM m=p:=⟨_,rfl⟩
   rw[hv];dsimp only;rw[l01 rfl];dsimp only;by_cases hx:x=0
   . rw[l0f hx,l00 (show ¬(!true)=true by decide),Y2Q,bsome,hv,l01 hx]
   rw[l0g hx,l01 (show(!false)=true by decide),Y0Z,bsome,hv,l00 hx]
end Go.Ph.Md
end
section
namespace Go.Ph.Md
open Go.Ph.Pl Go.Ph.Pf
open Go.Ph.Chs (vld lower)
theorem Y8q {p:UInt8->Bool}:∀{a r:Ls},a.all p=true->(∀c s,r=c::s->p c=false)->(a++r).takeWhile p=a/\(a++r).dropWhile p=r
 | [],r,_,hr=>by
   rw[l07];cases r with
   | nil=>exact⟨rfl,rfl⟩
   | cons c s =>
     rw[List.takeWhile_cons,l3z,hr c s rfl];exact⟨G,G⟩
 | x::a,r,ha,hr=>by
   rw[l0i,l0n] at ha;obtain⟨u,E⟩:=Y8q ha.2 hr;rw[l09,List.takeWhile_cons,l3z,ha.1,u,E];exact⟨G,G⟩
theorem Y7c {l:Ls}(h :∀c r,l=c::r->blB c=false):tl l=l:=dw_id h
theorem tl_32 (l:Ls):tl (32::l)=tl l:=by
 unfold tl;rw[l3z,show blB 32=true from rfl];rfl
theorem Y8V {c:UInt8}(h:blB c=false)(r:Ls):sgn c (c::r)=some r:=by
 unfold sgn;rw[Y7c (fun x s e=>by cases e;exact h)];dsimp only;rw[l01 rfl]
theorem sgn_miss {c:UInt8}{l:Ls}(h :∀x r,l=x::r->blB x=false/\x≠c):sgn c l=none:=by
 unfold sgn;rw[Y7c fun x r e=>(h x r e).1];cases l with
 | nil=>rfl
 | cons x r =>
   dsimp only;rw[l00 (h x r rfl).2]
theorem tk_bl (c:UInt8):tkB c=true->blB c=false:=allB (p:=fun c=>tkB c=true->blB c=false) (by decide +kernel) c
theorem p42_bl (c:UInt8):pN [42] c=true->blB c=false:=allB (p:=fun c=>pN [42] c=true->blB c=false) (by decide +kernel) c
theorem pv_bl (c:UInt8):pN [37,39,42] c=true->blB c=false/\c≠34:=allB (p:=fun c=>pN [37,39,42] c=true->blB c=false/\c≠34) (by decide +kernel) c
theorem tk_p (more:Ls)(c:UInt8)(h:tkB c=true):pN more c=true:=by unfold pN;rw [h,Bool.true_or]
theorem tk_ns (c:UInt8):tkB c=true->ns c=true:=allB (p:=fun c=>tkB c=true->ns c=true) (by decide +kernel) c
theorem dg_tk (c:UInt8):dg c=true->tkB c=true:=allB (p:=fun c=>dg c=true->tkB c=true) (by decide +kernel) c
theorem Y6R {p q:UInt8->Bool}(h :∀c,p c=true->q c=true){l:Ls}(hl:l.all p=true):l.all q=true:=l0C.2 fun c hc=>h c (l0C.1 hl c hc)
theorem Y8W {p q:UInt8->Bool}(hpq :∀c,p c=true->q c=false){a r:Ls}(ha:a.all p=true)(hr :∀c s,r=c::s->q c=false):∀c s,a++r=c::s->q c=false:=by
 intro c s e;cases a with
 | nil=>exact hr c s e
 | cons x a =>
   cases e;rw[l0i,l0n] at ha;exact hpq _ ha.1
def semi (R:Ls):Prop :=∀c s,R=c::s->c=59
theorem semi_nil : semi []:=fun c s e=>by cases e
theorem vl_tok {v R:Ls}(hv:v.all (pN [37,39,42])=true)(hR:semi R):vl (v++R)=some (v,R):=by
 have hb :∀c s,v++R=c::s->blB c=false/\c≠34:=fun c s e=>by
  cases v with
  | nil=>cases hR c s e;exact ⟨rfl,by decide⟩
  | cons x v =>
    cases e;rw[l0i,l0n] at hv;exact pv_bl _ hv.1
 obtain⟨u,E⟩:=Y8q hv (r:=R) (fun c s e=>by cases hR c s e;rfl);unfold vl;rw[sgn_miss hb];dsimp only;rw[Y7c fun c s e=>(hb c s e).1,u,E]
theorem qv_qt (r:Ls):∀v:Ls,qv (qt v++34::r)=some (v,r)
 | []=>by
   show qv (34::r)=_
   rw[Y6D,l01 rfl]
 | c :: v=>by
   have ih:=qv_qt r v;rw[Y7O];unfold q1 esc;by_cases u:c=34
   . subst u;rw[l01 rfl];show qv (92::34::(qt v++34::r))=_
     rw[Y6D,l00 Dc,l01 rfl];dsimp only;rw[ih];rfl
   rw[l00 u];by_cases E:c=92
   . subst E;rw[l01 rfl];show qv (92::92::(qt v++34::r))=_
     rw[Y6D,l00 Dc,l01 rfl];dsimp only;rw[ih];rfl
   rw[l00 E];show qv (c::(qt v++34::r))=_
   rw[Y6D,l00 u,l00 E,ih];rfl
theorem vl_quo (v R:Ls):vl ([34]++qt v++[34]++R)=some (v,R):=by
 have e:[34]++qt v++[34]++R=34::(qt v++34::R):=by simp
 unfold vl;rw[e,Y8V rfl];exact qv_qt R v
theorem star_no {n:Ls}(h:n.all tkB=true):¬42∈n:=fun hm=>by
 have:=l0C.1 h 42 hm;revert this;decide
theorem Y9A {num:Ls->Option Int}{n:Ls}(h:n.all tkB=true)(hn:n≠ [])(v:Ls):mkP num n v=some (n,-1,false,v):=by
 unfold mkP;rw[l00 (star_no h),l00 hn]
theorem mkP_num {num:Ls->Option Int}{n s:Ls}{i:Int}(h:n.all tkB=true)(hn:n≠ [])(v:Ls)(hs:num (cutS s).1=some i):mkP num (n++42::s) v=some (n,i,(cutS s).2,v):=by
 obtain⟨u,E⟩:=Y8q (Y6R tk_ns h) (r:=42::s) (fun c r e=>by cases e;rfl);have J:cutB (n++42::s)=n:=u;have K:cutR (n++42::s)=s:=by unfold cutR;rw [E];rfl
 unfold mkP;rw[l01 Sm,J,K,l00 hn,hs];rfl
theorem Y9B (s:Ls):cutS (s++[42])=(s,true):=by
 unfold cutS;rw[l3v,l01 rfl,l2B]
theorem mkP_ext {n:Ls}(h:n.all tkB=true)(hn:n≠ [])(v:Ls){i:Nat}(hi:i<1000000000):mkP numP (n++42::(itoaP i++[42])) v=some (n,(i:Int),true,v):=by
 have e:=mkP_num (num:=numP) (s:=itoaP i++[42]) (i:=(i:Int)) h hn v (by rw[Y9B];exact (Ya8 i hi).1);rw[e,Y9B]
theorem Yae {num:Ls->Option Int}{nm v w R:Ls}{p:Pce}(m:Nat)(hn:nm.all (pN [42])=true)(hv:vl (v++R)=some (w,R))(hm:mkP num nm w=some p):
 pcs num (m+1) ([59,32]++nm++[61]++v++R)=(pcs num m R).map fun q=>(p::q.1,q.2):=by
 have e:[59,32]++nm++[61]++v++R=59::32::(nm++61::(v++R)):=by simp
 obtain⟨u,E⟩:=Y8q hn (r:=61::(v++R)) (fun c s e=>by cases e;rfl);have J:tl (32::(nm++61::(v++R)))=nm++61::(v++R):=by
  rw[tl_32];exact Y7c (Y8W p42_bl hn (fun c s e=>by cases e;rfl))
 have K:rdP num (32::(nm++61::(v++R)))=some (p,R):=by
  unfold rdP;rw[J,u,E,Y8V rfl,bsome,hv,bsome,hm];rfl
 rw[e,pcs,Y8V rfl];dsimp only;rw[K,bsome]
def nb (n:Ls):Nat->List Ls->List Pce
 | _,[]=>[]
 | i,p::r=>(n,(i:Int),true,p)::nb n (i+1) r
theorem YaM (n:Ls):∀(l:List Ls) (i:Nat),(nb n i l).length=l.length
 | [],_=>rfl
 | p::r,i=>by rw[nb,l04,YaM n r,l04]
theorem Ycn (n:Ls):∀(l:List Ls) (i:Nat),nums (nb n i l)=upF (i:Int) l.length
 | [],_=>rfl
 | p::r,i=>by
   rw[nb,l04,upF];show(i:Int)::nums (nb n (i+1) r)=_
   rw[Ycn n r];rfl
theorem Yco {n:Ls}:∀{l:List Ls} {i:Nat} {p:Pce},p∈nb n i l->p.1=n/\0<=p.2.1/\p.2.1<i+l.length
 | [],_,p,h=>by cases h
 | x::r,i,p,h=>by
   rw[nb] at h;rw[l04];rcases l0k.1 h with rfl|h
   . exact⟨G,by dsimp only;omega,by dsimp only;omega⟩
   obtain⟨a,b,c⟩:=Yco h;exact⟨a,b,by omega⟩
theorem Ycp {n:Ls}(h:n.all tkB=true)(hn:n≠ []){R:Ls}(hR:semi R)(m:Nat):∀(l:List Ls) (i:Nat),(∀p∈l,p.all (pN [37,39,42])=true)->i+l.length<=1000000000->
 pcs numP (l.length+m) (exT n i l++R)=(pcs numP m R).map fun q=>(nb n i l++q.1,q.2)
 | [],i,_,_=>by
   rw[exT,l07,nb,l0d,l0D];cases pcs numP m R <;> rfl
 | p::r,i,hl,hi=>by
   rw[l04] at hi ⊢;have hs:semi (exT n (i+1) r++R):=by
    cases r with
    | nil=>exact hR
    | cons y r=>rw[exT];unfold exU;exact fun c s e=>by cases e;rfl
   have u:i<1000000000:=by omega
   have hd:=Y7b u;have e:exT n i (p::r)++R=[59,32]++(n++42::(itoaP i++[42]))++[61]++p++(exT n (i+1) r++R):=by rw[exT];unfold exU;simp
   rw[e,show r.length+1+m=(r.length+m)+1 by omega,Yae (p:=(n,(i:Int),true,p)) (r.length+m) (by
    rw[l1q,Y6R (tk_p [42]) h,l0i,l1q,Y6R (fun c hc=>tk_p [42] c (dg_tk c hc)) hd.1];rfl) (vl_tok (hl p l0o) hs) (mkP_ext h hn p u),
    Ycp h hn hR m r (i+1) (fun q hq=>hl q (l0t _ hq)) Om,nb]
   cases pcs numP m R <;> rfl
theorem hx_tk :∀n,n<16->tkB (hx n)=true:=by decide
theorem pct1_pv (c:UInt8):(pct1 c).all (pN [37,39,42])=true:=by
 unfold pct1;have:=c.toNat_lt;split
 . rename_i h;rw[l0i,tk_p _ c h];rfl
 simp only[l0i,l0u,tk_p _ _ (hx_tk _ (show c.toNat / 16<16 by omega)),tk_p _ _ (hx_tk _ (show c.toNat % 16<16 by omega))];decide
theorem Ycq (a:Ls):(a.flatMap pct1).all (pN [37,39,42])=true:=by
 rw[l0C];intro c hc;obtain⟨x,_,hx⟩:=l2h.1 hc;exact l0C.1 (pct1_pv x) c hx
theorem Ycr :∀(v:Ls) (st:PS),∃(a:Ls) (ar:List Ls),a++ar.flatten=v/\(v.foldl psS st).1++[(v.foldl psS st).2]=st.1++(st.2++a.flatMap pct1)::ar.map (fun x=>x.flatMap pct1)
 | [],st=>⟨[],[],rfl,by simp⟩
 | c::v,st=>by
   obtain⟨a,ar,u,E⟩:=Ycr v (psS st c);rw[l1H,E];unfold psS;split
   . exact⟨c::a,ar,by rw[<-u];rfl,by simp⟩
   exact⟨[],(c::a)::ar,by rw[<-u];simp,by simp⟩
theorem Y6c (v:Ls):∃(a:Ls) (ar:List Ls),a++ar.flatten=v/\pieces v=(pre8++a.flatMap pct1)::ar.map (fun x=>x.flatMap pct1):=by
 obtain⟨a,ar,u,E⟩:=Ycr v ([],pre8);exact⟨a,ar,u,by unfold pieces psF;rw [E];rfl⟩
theorem Ycs (v:Ls):∀p∈pieces v,p.all (pN [37,39,42])=true:=by
 obtain⟨a,ar,E,u⟩:=Y6c v;rw[u];intro p hp;rcases l0k.1 hp with rfl|hp
 . rw[l1q,Ycq];decide
 obtain⟨x,_,rfl⟩:=l0Z.1 hp;exact Ycq x
theorem hex2_hx :∀n,n<256->hex2 (hx (n / 16)) (hx (n % 16))=some (UInt8.ofNat n):=by decide +kernel
theorem unp_pct (c:UInt8)(t:Ls):unp (pct1 c++t)=c::unp t:=by
 unfold pct1;split
 . rename_i h;show unp (c::t)=_
   rw[Y7o,l00 (fun e=>by subst e;revert h;decide)]
 show unp (37::hx (c.toNat / 16)::hx (c.toNat % 16)::t)=_
 rw[Y7o,l01 rfl,show hexd2 (hx (c.toNat / 16)::hx (c.toNat % 16)::t)=(hex2 (hx (c.toNat / 16)) (hx (c.toNat % 16))).map (fun z=>(z,t)) from rfl,hex2_hx _ c.toNat_lt,UInt8.ofNat_toNat];rfl
theorem Y8X :∀a:Ls,unp (a.flatMap pct1)=a
 | []=>Yc8
 | c::a=>by rw[l0v,unp_pct,Y8X a]
theorem Y9C (n:Ls):∀(ar:List Ls) (i:Nat),1<=i->(nb n i (ar.map fun x=>x.flatMap pct1)).flatMap txt=ar.flatten
 | [],_,_=>rfl
 | a::ar,i,hi=>by
   rw[l0p,nb,l0v,Y9C n ar (i+1) Om,l1c];have:txt (n,(i:Int),true,a.flatMap pct1)=a:=by
    unfold txt bare;dsimp only;rw[l01 rfl,l00 Om,Y8X]
   rw[this]
theorem txt_all (n v:Ls):(nb n 0 (pieces v)).flatMap txt=v:=by
 obtain⟨a,ar,u,E⟩:=Y6c v;rw[E,nb,l0v,Y9C n ar 1 (l0b _)];have:txt (n,((0:Nat):Int),true,pre8++a.flatMap pct1)=a:=by
  unfold txt bare;dsimp only;have J:(pre8++a.flatMap pct1).take 6=pre8:=rfl;rw[l01 rfl,l01 ⟨rfl,by rw[l05];show 6<=6+_;omega,by rw[J,Y9z]⟩,show (pre8++a.flatMap pct1).drop 6=a.flatMap pct1 from rfl,Y8X]
 rw[this,u]
def pcsOf (x:Par):List Pce:=if tkT x.2=true∨simp60 x.2=true then [(x.1,-1,false,x.2)] else nb x.1 0 (pieces x.2)
theorem Yct {x:Par}(h:x.2.length<=500):(pcsOf x).length<=501:=by
 unfold pcsOf;split
 . simp
 rw[YaM];have:=(pieces_len x.2).1;omega
theorem Y9D {x:Par}(h:x.2.length<=500){p:Pce}(hp:p∈pcsOf x):p.1=x.1/\pcOk p:=by
 unfold pcsOf at hp;unfold pcOk;split at hp
 . rcases l0k.1 hp with rfl|hp
   . exact⟨G,by dsimp only;omega⟩
   cases hp
 obtain⟨a,b,c⟩:=Yco hp;have:=(pieces_len x.2).1;exact⟨a,by omega,by omega⟩
theorem Y8r (x:Par):∃p r,pcsOf x=p::r:=by
 unfold pcsOf;split
 . exact⟨_,_,G⟩
 obtain⟨a,ar,_,u⟩:=Y6c x.2;rw[u,nb];exact⟨_,_,G⟩
structure PV (x:Par):Prop where
 tok:tkT x.1=true
 len:x.2.length<=500
 val:vld x.2=true
theorem PV.ne {x:Par}(h:PV x):x.1≠ []:=fun e=>by
 have:=(Y4R h.tok).1;rw[e] at this;simp at this
theorem PV.all {x:Par}(h:PV x):x.1.all tkB=true:=l0C.2 (Y4S h.tok)
theorem pcs_par {x:Par}(hx:PV x){R:Ls}(hR:semi R)(m:Nat):pcs numP ((pcsOf x).length+m) (paramT x++R)=(pcs numP m R).map fun q=>(pcsOf x++q.1,q.2):=by
 have hn:=Y6R (tk_p [42]) hx.all;unfold pcsOf paramT;by_cases u:tkT x.2=true
 . rw[l01 (.inl u),l01 u,show ([59,32]++x.1++[61]++x.2++R:Ls)=[59,32]++x.1++[61]++x.2++R from rfl,l0R,l2S 1 m,
    Yae m hn (vl_tok (Y6R (tk_p _) (l0C.2 (Y4S u))) hR) (Y9A hx.all hx.ne x.2)]
   rfl
 rw[l00 u];by_cases E:simp60 x.2=true
 . rw[l01 (.inr E),l01 E,l0R,l2S 1 m,show ([59,32]++x.1++[61,34]++qt x.2++[34]++R:Ls)=[59,32]++x.1++[61]++([34]++qt x.2++[34])++R by simp,
    Yae m hn (vl_quo x.2 R) (Y9A hx.all hx.ne x.2)]
   rfl
 rw[l00 (by simp [u,E]),l00 E,YaM];have:=(pieces_len x.2).1;have:=hx.len;exact Ycp hx.all hx.ne hR m (pieces x.2) 0 (Ycs x.2) Om
theorem Yaf (x:Par)(R:Ls):semi (paramT x++R):=by
 unfold paramT;split
 . exact fun c s e=>by cases e;rfl
 split
 . exact fun c s e=>by cases e;rfl
 obtain⟨a,ar,_,u⟩:=Y6c x.2;rw[u,exT];unfold exU;exact fun c s e=>by cases e;rfl
theorem Y9E :∀(l:List Par),semi (l.flatMap paramT)
 | []=>semi_nil
 | x::l=>by rw[l0v];exact Yaf x _
theorem Ycu (m:Nat):∀(l:List Par),(∀x∈l,PV x)->pcs numP ((l.flatMap pcsOf).length+m) (l.flatMap paramT)=(pcs numP m []).map fun q=>(l.flatMap pcsOf++q.1,q.2)
 | [],_=>by
   rw[l1L,l1L,l0d,l0D];cases pcs numP m [] <;> rfl
 | x::l,h=>by
   rw[l0v,l0v,l05,l1n,pcs_par (h x l0o) (Y9E l),Ycu m l fun y hy=>h y (l0t _ hy)];cases pcs numP m [] with
   | none=>rfl
   | some q=>simp
theorem Ycv :∀(l:List Par),(∀x∈l,PV x)->(l.flatMap pcsOf).length<=501*l.length
 | [],_=>by simp
 | x::l,h=>by
   have u:=Yct (h x l0o).len;have E:=Ycv l fun y hy=>h y (l0t _ hy)
   rw[l0v,l05,l04];omega
theorem pcs_text {l:List Par}(h :∀x∈l,PV x)(hl:l.length<=60):pcs numP FU (l.flatMap paramT)=some (l.flatMap pcsOf,[]):=by
 have u:=Ycv l h;have E:(l.flatMap pcsOf).length+1<=FU:=Nat.le_of_lt (FU_gt Om);obtain⟨d,hd⟩ :∃d,FU=(l.flatMap pcsOf).length+(d+1):=⟨FU-(l.flatMap pcsOf).length-1,by omega⟩
 rw[hd,Ycu (d+1) l h,pcs];show some (l.flatMap pcsOf++[],([]:Ls))=_
 rw[l0m]
theorem up_le :∀(k:Nat) (lo:Int),(upF lo k).Pairwise (· <= ·)
 | 0,lo=>List.Pairwise.nil
 | k+1,lo=>by
   rw[upF];exact l0U.2 ⟨fun n hn=>by rw[Ycf] at hn;omega,up_le k (lo+1)⟩
theorem sort_id {g:List Pce}(h :∀p∈g,pcOk p){lo:Int}(hg:nums g=upF lo g.length):sortP g=g:=by
 have hp:=sortP_perm h;refine uniqP hp (sortP_sorted h) ?_ ?_
 . have:=up_le g.length lo;rw[<-hg,List.pairwise_map] at this;exact this
 have:(nums g).Nodup:=by rw[hg];exact YaL _ _
 exact((hp.map _).nodup_iff).2 this
theorem jnV_of {g:List Pce}{p:Pce}{r:List Pce}(he:g=p::r)(u:0<=p.2.1)(ho:okG g):jnV g=some (fix false ((sortP g).flatMap txt)):=by
 subst he;unfold jnV;dsimp only;rw[l00 Om,l01 ho]
theorem jnV_pcs {x:Par}(hx:PV x):jnV (pcsOf x)=some x.2:=by
 have hok :∀p∈pcsOf x,pcOk p:=fun p hp=>(Y9D hx.len hp).2
 obtain⟨p,r,hc⟩:=Y8r x;revert hok hc;unfold pcsOf;split
 . intro _ _;rfl
 intro hok hc;have hn:nums (nb x.1 0 (pieces x.2))=upF 0 (nb x.1 0 (pieces x.2)).length:=by rw[Ycn,YaM];rfl
 have hs:=sort_id hok hn;have hp:p∈nb x.1 0 (pieces x.2):=by rw[hc];exact l0o
 rw[jnV_of hc (Yco hp).2.1 (by unfold okG;rw [hs,hn]),hs,txt_all,Ycd _ _ _ (l0b _) hx.val]
theorem Y9F (q:List Pce):∀(r pre R:List Pce),(∀p∈r,pre.any (smQ p)=true)->parI q pre (r++R)=parI q (pre++r) R
 | [],pre,R,_=>by rw[l07,l0m]
 | p::r,pre,R,h=>by
   rw[l09,parI,l01 (h p l0o),Y9F q r (pre++[p]) R fun x hx=>by rw[l3w,h x (l0t _ hx),Bool.true_or],l0s,l1z]
theorem YaN :∀(l2 u:List Par),(u++l2).Pairwise (fun a b=>lower a.1≠lower b.1)->(∀x∈u++l2,PV x)->parI ((u++l2).flatMap pcsOf) (u.flatMap pcsOf) (l2.flatMap pcsOf)=some l2
 | [],u,_,_=>by rw[l1L,parI]
 | x :: r,u,hd,hv=>by
   have hx:PV x:=hv x Sm;obtain⟨p,s,hc⟩:=Y8r x;have hm :∀{y:Par},y∈u++x::r->∀{q:Pce},q∈pcsOf y->q.1=y.1:=fun hy _ hq=>(Y9D (hv _ hy).len hq).1
   have hp:p.1=x.1:=hm Sm (by rw[hc];exact l0o);obtain⟨Z,E,J⟩:=List.pairwise_append.1 hd;obtain⟨K,d5⟩:=l0U.1 E;have hany:(u.flatMap pcsOf).any (smQ p)=false:=by
    rw[l1s];intro q hq;obtain⟨y,hy,hq⟩:=l2h.1 hq;unfold smQ;rw[hm (l1K _ hy) hq,hp];simpa using J y hy x l0o
   have hgrp:grp ((u++x::r).flatMap pcsOf) p=pcsOf x:=by
    unfold grp;rw[l1P,l0v,l2u,l2u];have N:(u.flatMap pcsOf).filter (smQ p)=[]:=by
     rw[l3j];intro q hq;exact fun e=>(l1s.1 hany q hq) e
    have O:(pcsOf x).filter (smQ p)=pcsOf x:=by
     rw[l2J];intro q hq;unfold smQ;rw[hm Sm hq,hp];simp
    have U:(r.flatMap pcsOf).filter (smQ p)=[]:=by
     rw[l3j];intro q hq;obtain⟨y,hy,hq⟩:=l2h.1 hq;unfold smQ;rw[hm (by simp [hy]) hq,hp];have:=K y hy;simpa using fun e=>this e.symm
    rw[N,O,U,l07,l0m]
   have ih:=YaN r (u++[x]) (by rw[l0s];exact hd) (by rw[l0s];exact hv);have V:(u++[x]).flatMap pcsOf=u.flatMap pcsOf++pcsOf x:=by rw[l1P,List.flatMap_singleton]
   rw[l0s,l1z,V] at ih;rw[l0v (xs:=r),hc,l09,parI,hany,l00 l03,hgrp,jnV_pcs hx,bsome,Y9F _ s _ _ (fun q hq=>by
    rw[l3w,l2M];have:smQ q p=true:=by
     have Y:q.1=x.1:=hm (y:=x) Sm (by rw[hc];exact l0t _ hq);unfold smQ;rw[Y,hp];simp
    rw[this,Bool.true_or,Bool.or_true]),l0s,l1z,<-hc,ih,hp]
   rfl
theorem pfz_pw :∀(l pre:List Par),(pfz pre l).1=0->l.Pairwise (fun a b=>lower a.1≠lower b.1)/\∀x∈l,∀y∈pre,lower y.1≠lower x.1
 | [],pre,_=>⟨List.Pairwise.nil,fun x hx=>by cases hx⟩
 | x :: r,pre,h=>by
   rw[pfz] at h;by_cases u:pf1 pre x=0
   . rw[l01 u] at h;obtain⟨J,E⟩:=pfz_pw r _ h;refine⟨l0U.2 ⟨fun y hy=>E y hy x Sm,J⟩,fun y hy z hz=>?_⟩;rcases l0k.1 hy with rfl|hy
     . unfold pf1 at u;split at u
       . split at u
         . cases u
         rename_i hn;intro e;exact hn (l2i.2 ⟨z,hz,by unfold smP;exact l0f e⟩)
       cases u
     exact E y hy z (l1K _ hz)
   rw[l00 u] at h;exact absurd h u
theorem valid_pv {m:Med}(h:(valM m).1=0):∀x∈m.2.2,PV x:=fun x hx=>by
 obtain⟨a,_,b,c⟩:=Y4T h x hx;exact⟨a,b,c⟩
theorem YaO {t:Ls}(h:tkT t=true):t≠ []:=fun e=>by
 have:=(Y4R h).1;rw[e] at this;simp at this
theorem readM_of {ty sb R:Ls}{q:List Pce}{ps:List Par}(u:tkT ty=true)(E:tkT sb=true)(hR:semi R)(hp:pcs numP FU R=some (q,[]))(hi:parI q [] q=some ps):readM numP (ty++[47]++sb++R)=some (ty,sb,ps):=by
 have J:ty.all tkB=true:=l0C.2 (Y4S u);have K:sb.all tkB=true:=l0C.2 (Y4S E);have e:ty++[47]++sb++R=ty++47::(sb++R):=by simp
 have hR' :∀(f:UInt8->Bool),f 59=false->∀c s,R=c::s->f c=false:=fun f hf c s e=>by rw[hR c s e];exact hf
 have N:tl (ty++47::(sb++R))=ty++47::(sb++R):=Y7c (Y8W tk_bl J (fun c s e=>by cases e;rfl));have O:tl (sb++R)=sb++R:=Y7c (Y8W tk_bl K (hR' blB rfl));obtain⟨U,V⟩:=Y8q J (r:=47::(sb++R)) (fun c s e=>by cases e;rfl);obtain⟨Y,Z⟩:=Y8q K (r:=R) (hR' tkB rfl);unfold readM;rw[e,N,U,V,Y8V rfl,bsome,O,Y,Z,l00 (by simp [YaO u,YaO E]),hp,bsome];dsimp only;rw[l01 rfl,hi];rfl
theorem Ybl {m:Med}(h:(valM m).1=0):readM numP (mediaT m)=some m:=by
 obtain⟨u,E,J,K,_⟩:=Y43 h;have hv:=valid_pv h;have hi:=YaN m.2.2 [] (pfz_pw _ _ K).1 hv;unfold mediaT;rw[readM_of u E (Y9E m.2.2) (pcs_text hv J) hi]
end Go.Ph.Md
end
end
section
namespace Go.Ph.Pt
open Go.Ph.Pl Go.Ph.Pf
open Go.Ph.Chs (lowB lower)
open Go.Ph.Hd (valR readR headB fieldB)
open Go.Ph.Md (prsR parR valM printR mediaT prB)
abbrev Bt : Type:=Ls
abbrev Fld : Type:=Ls × Ls
abbrev Med : Type:=Ls × Ls × List Fld
abbrev Big (l:Ls):Prop:=l.length<=140737488355328
abbrev BigF (l:List Fld):Prop :=∀x∈l,Big x.1/\Big x.2
abbrev BigM (m:Med):Prop:=Big m.1/\Big m.2.1/\BigF m.2.2
theorem Y3p {a b:Bt}(ha:Big a)(hb:Big b):Y0X a b=some (decide (lower a=lower b)):=Go.Ph.Sg.Y3p ha hb
theorem Y0t (a b:Int):Y08 (a,b)=some (!decide (a=0)):=rfl
theorem Y0Z (a b:Int):Y03 a b=some (a,b):=by unfold Y03;rfl
theorem Y2Q : Y0k=some (0,0):=rfl
abbrev nCT : Bt:=[67,111,110,116,101,110,116,45,84,121,112,101]
abbrev nMP : Bt:=[109,117,108,116,105,112,97,114,116]
abbrev nBD : Bt:=[98,111,117,110,100,97,114,121]
theorem bigL {l:Bt}(h:l.length<=1000000):Big l:=l1B h Dc
def tyI : List Fld->Nat->Option Nat->Option (Option Nat)
 | [],_,a=>some a
 | x::l,i,a=>if lower x.1=lower nCT then(if a.isSome=true then none else tyI l (i+1) (some i)) else tyI l (i+1) a
def enc : Option Nat->Int
 | none => -1
 | some k=>(k:Int)
theorem Ycw (a:Option Nat):(0<=enc a)↔a.isSome=true:=by
 cases a with
 | none=>simp [enc]
 | some k=>simp [enc]
theorem ty_L1 (l:List Fld)(hl:l.length<=1000000)(hb:BigF l)(J u:Bt)(E:List Fld):∀(d i m:Nat) (a:Option Nat),l.length-i<=d->d<m->i<=l.length->
 Y2a l m J u E (enc a) (i:Int)=some (match tyI (l.drop i) i a with|none => .inr (([],[],[]),0,false)|some b => .inl (J,u,E,enc b))
 | d,i,0,a,K,N,O=>by omega
 | d,i,m+1,a,K,N,O=>by
   by_cases hi:i<l.length
   . obtain⟨d,rfl⟩ :∃k,d=k+1:=⟨d-1,by omega⟩
     have hx:=hb l[i] (l0N hi);rw[drop_cons hi,Y2a,l01 Om,idx_nat,l06 hi,bsome,Y3p hx.1 Dc,bsome,tyI,chk_succ Om];by_cases hs:lower l[i].1=lower nCT
     . rw[l0f hs,l01 rfl,l01 hs];by_cases ha:a.isSome=true
       . rw[l01 ((Ycw a).2 ha),l01 ha]
       rw[l00 (fun h=>ha ((Ycw a).1 h)),l00 ha,bsome];exact ty_L1 l hl hb J u E d (i+1) m (some i) Om Om Om
     rw[l0g hs,l00 l03,l00 hs,bsome];exact ty_L1 l hl hb J u E d (i+1) m a Om Om Om
   obtain rfl:i=l.length:=by omega
   rw[Y2a,l00 Om,l0I,tyI]
theorem Ycx :∀{l:List Fld} {i:Nat} {a:Option Nat} {k:Nat},tyI l i a=some (some k)->a=some k∨(i<=k/\∃x,l[k-i]? = some x/\lower x.1=lower nCT)
 | [],i,a,k,h=>by rw[tyI] at h;exact .inl (oI h)
 | x :: l,i,a,k,h=>by
   rw[tyI] at h;split at h
   . rename_i hx;split at h
     . cases h
     rcases Ycx h with u|⟨u,y,E,J⟩
     . cases u;exact .inr ⟨l0b _,x,by rw[l1D];rfl,hx⟩
     exact .inr ⟨by omega,y,by rw[show k-i=(k-(i+1))+1 by omega,l1g];exact E,J⟩
   rcases Ycx h with u|⟨u,y,E,J⟩
   . exact .inl u
   exact .inr ⟨by omega,y,by rw[show k-i=(k-(i+1))+1 by omega,l1g];exact E,J⟩
theorem Y7U :∀{l l':List Fld} {i:Nat} {a:Option Nat},l.map (·.1)=l'.map (·.1)->tyI l i a=tyI l' i a
 | [],[],i,a,h=>rfl
 | [],_::_,i,a,h=>by cases h
 | _::_,[],i,a,h=>by cases h
 | x::l,y::l',i,a,h=>by
   rw[l0p,l0p] at h;have u:=(List.cons.inj h).1;rw[tyI,tyI,u,Y7U (List.cons.inj h).2,Y7U (a:=a) (List.cons.inj h).2]
def typ0 : Med × Int × Bool:=(([],[],[]),0,false)
def typR (l:List Fld):Med × Int × Bool:=match tyI l 0 none with
 | some (some k)=>(match l[k]? with|some x=>((prsR x.2).1,(k:Int),decide ((prsR x.2).2.1=0))|none=>typ0)
 | _=>typ0
theorem Y7V (l:List Fld)(hl:l.length<=1000000)(hb:BigF l):Y3O l=some (typR l):=by
 unfold Y3O typR;have h:=ty_L1 l hl hb [] [] [] l.length 0 FU none Om (FU_gt Om) Om;rw[l0E] at h;rw[show ((0:Nat):Int)=0 from rfl,show enc none = -1 from rfl] at h;rw[h,bsome];cases hc:tyI l 0 none with
 | none=>rfl
 | some b =>
   cases b with
   | none=>dsimp only[enc];rw [l01 Dc];rfl
   | some k =>
     dsimp only[enc];rcases Ycx hc with u|⟨_,x,hx,hn⟩
     . cases u
     rw[l3a] at hx;rw[l00 Om,idx_nat,hx,bsome,Go.Ph.Md.Parse_eq,bsome,Y0t,bsome];simp
theorem prs_ok {t:Bt}(h:(prsR t).2.1=0):(valM (prsR t).1).1=0/\t.length<=4000:=by
 unfold prsR at h ⊢;split at h
 . cases h
 rename_i hl;rw[l00 hl];cases hr:Go.Ph.Md.readM Go.Ph.Md.numP t with
 | none=>rw[hr] at h;cases h
 | some m =>
   rw[hr] at h;dsimp only at h ⊢;by_cases hv:(valM m).1=0
   . rw[l01 hv];exact ⟨hv,by omega⟩
   rw[l00 hv] at h;exact absurd h hv
theorem prs_no {t:Bt}(h:(prsR t).2.1≠0):(prsR t).1=([],[],[]):=by
 unfold prsR at h ⊢;split
 . rfl
 rename_i hl;rw[l00 hl] at h;cases hr:Go.Ph.Md.readM Go.Ph.Md.numP t with
 | none=>rfl
 | some m =>
   rw[hr] at h;dsimp only at h ⊢;by_cases hv:(valM m).1=0
   . rw[l01 hv] at h;exact absurd rfl h
   rw[l00 hv]
theorem Yag {m:Med}(h:(valM m).1=0):BigM m/\m.2.2.length<=60:=by
 obtain⟨E,J,K,_,_⟩:=Go.Ph.Md.Y43 h;have u:=Go.Ph.Md.Y4T h;have N:=Go.Ph.Md.Y4R E;have O:=Go.Ph.Md.Y4R J;exact⟨⟨bigL Om,bigL Om,fun x hx=>⟨bigL (by have:=(u x hx).2.1;omega),bigL (by have:=(u x hx).2.2.1;omega)⟩⟩,K⟩
theorem prs_big (t:Bt):BigM (prsR t).1/\(prsR t).1.2.2.length<=60:=by
 by_cases h:(prsR t).2.1=0
 . exact Yag (prs_ok h).1
 rw[prs_no h];exact ⟨⟨by decide,by decide,fun x hx=>by cases hx⟩,by decide⟩
theorem Y8Y (l:List Fld):BigM (typR l).1/\(typR l).1.2.2.length<=60:=by
 have u:BigM typ0.1/\typ0.1.2.2.length<=60:=⟨⟨by decide,by decide,fun x hx=>by cases hx⟩,by decide⟩
 unfold typR;split
 . split
   . exact prs_big _
   exact u
 exact u
theorem Ycy {l:List Fld}(h:(typR l).2.2=true):∃(k:Nat) (x:Fld),tyI l 0 none=some (some k)/\l[k]? = some x/\(prsR x.2).2.1=0/\typR l=((prsR x.2).1,(k:Int),true):=by
 have hu:typR l=match tyI l 0 none with
  | some (some k)=>(match l[k]? with|some x=>((prsR x.2).1,(k:Int),decide ((prsR x.2).2.1=0))|none=>typ0)
  | _=>typ0:=rfl
 cases hc:tyI l 0 none with
 | none=>rw[hc] at hu;rw [hu] at h;cases h
 | some b =>
   cases b with
   | none=>rw[hc] at hu;rw [hu] at h;cases h
   | some k =>
     rw[hc] at hu;dsimp only at hu;cases hx:l[k]? with
     | none=>rw[hx] at hu;dsimp only at hu;rw [hu] at h;cases h
     | some x =>
       rw[hx] at hu;dsimp only at hu;rw[hu] at h;have u:(prsR x.2).2.1=0:=of_decide_eq_true h;exact⟨k,x,G,hx,u,by rw[hu,l0f u]⟩
def prmR (m:Med)(n:Bt):Bt × Bool × Z02:=if (valM m).1=0 then((parR m n).1,(parR m n).2,(0,0)) else([],false,valM m)
theorem Ycz (m:Med)(n:Bt)(hb:BigM m)(hn:Big n):Y45 m n=some (prmR m n):=by
 unfold Y45 prmR;rw[show (m.1,m.2.1,m.2.2)=m from rfl,Go.Ph.Md.Y3o m hb,bsome];by_cases h:(valM m).1=0
 . obtain⟨_,_,E,_,u⟩:=Go.Ph.Md.Y43 h;rw[l01 h,u];dsimp only;rw[Y0t,bsome,l00 Dc];have hL:=Go.Ph.Md.parL m.2.2 n (fun i=>Y2e m n i 0 0) (fun x=>(.inr (x.2,true,(0,0)):Z02 ⊕ (Bt × Bool × Z02))) (.inl (0,0)) Om (fun k=>by rw[Y2e,l00 Om]) (fun k i hi=>by
    have hx:=hb.2.2 m.2.2[i] (l0N hi);rw[Y2e,l01 Om,idx_nat,l06 hi,bsome,Y3p hx.1 hn,bsome,chk_succ Om];by_cases hs:lower m.2.2[i].1=lower n
    . rw[l0f hs,l01 rfl,l01 hs,Y2Q,bsome]
    rw[l0g hs,l00 l03,l00 hs,bsome])
   rw[hL,bsome];unfold parR;cases hf:m.2.2.find? (fun x=>decide (lower x.1=lower n)) with
   | none=>rfl
   | some x=>rfl
 rw[l00 h];generalize valM m=q at h ⊢;obtain⟨a,b⟩:=q;dsimp only at h ⊢;rw[Y0t,bsome,l0g h,l01 Dc]
theorem par_len {m:Med}(h:(valM m).1=0)(n:Bt):(parR m n).1.length<=500:=by
 unfold parR;cases hf:m.2.2.find? (fun x=>decide (lower x.1=lower n)) with
 | none=>exact l0x _
 | some x=>exact(Go.Ph.Md.Y4T h x (List.mem_of_find?_eq_some hf)).2.2.1
theorem YcA (m:Med)(n:Bt):(prmR m n).1.length<=500:=by
 unfold prmR;split
 . exact par_len (by assumption) n
 exact l0x _
def sfx32 (b:Bt):Bool:=decide (b.getLast? = some 32)
theorem sfx_eq (b:Bt)(hb:Big b):Y1r b [32]=some (sfx32 b):=by
 unfold Y1r Y0n sfx32;rcases l3q b with rfl|⟨a,c,rfl⟩
 . rfl
 rw[List.concat_eq_append] at hb ⊢;have u:((([32]:Bt).length:Int)<=((a++[c]).length:Int)):=by simp only[l05,l04,l0d];omega
 have E:chk (((a++[c]).length:Int)-(([32]:Bt).length:Int))=some (a.length:Int):=by
  unfold Big at hb;simp only[l05,l04,l0d,l0D] at hb ⊢;rw[show ((a.length+1:Nat):Int)-((1:Nat):Int)=(a.length:Int) by omega];exact chk_ok Om Om
 have J:cut (a++[c]) (a.length:Int) ((a++[c]).length:Int)=some [c]:=by
  rw[cut_from (a:=a.length) rfl Sm];simp
 rw[l01 u,E,bsome,J,bsome,bsome,bsome,l2D,List.getLast?_singleton,l3B];simp
def good (b:Bt):Bool:=decide (b≠ [])&&(decide (b.length<=60)&&(b.all prB && !sfx32 b))
theorem pr_eq (c:UInt8):Y31 c=some (prB c):=Go.Ph.Md.pr_eq c
def bdR (l:List Fld):Bt × Bool:=if (typR l).2.2=true/\lower (typR l).1.1=lower nMP then((prmR (typR l).1 nBD).1,(prmR (typR l).1 nBD).2.1&&good (prmR (typR l).1 nBD).1) else([],false)
theorem good_eq (b:Bt)(hb:Big b):(if b=[] then some false else(if (b.length:Int)<=(60:Int) then(Y3f b Y31).bind fun u=>(if u=true then(Y1r b [32]).bind fun E=>some (!E) else some false) else some false))=some (good b):=by
 unfold good;by_cases h:b=[]
 . rw[l01 h,l0g (by simp [h])];rfl
 rw[l00 h,l0f (p:=b≠ []) h,l2d];by_cases J:b.length<=60
 . rw[l01 Om,l0f J,l2d,Go.Ph.Md.YbW b hb _ _ pr_eq,bsome];cases K:b.all prB with
   | true=>rw[l01 rfl,sfx_eq b hb,bsome,l2d]
   | false=>rw[l00 l03];rfl
 rw[l00 Om,l0g J];rfl
theorem bd_eq (l:List Fld)(hl:l.length<=1000000)(hb:BigF l):Y3y l=some (bdR l):=by
 have hm:=(Y8Y l).1;unfold Y3y bdR;rw[Y7V l hl hb,bsome];generalize typR l=t at hm ⊢;obtain⟨⟨u,E,l3⟩,V,N⟩:=t;dsimp only at hm ⊢;cases N with
 | false=>rw[l00 l03,bsome,l01 rfl,l00 (fun h=>l03 h.1)]
 | true =>
   rw[l01 rfl,Y3p hm.1 Dc,bsome,bsome];by_cases h:lower u=lower nMP
   . rw[l0f h,l00 Dc,l01 ⟨rfl,h⟩,Ycz _ _ hm Dc,bsome];have hl:=YcA (u,E,l3) nBD;generalize prmR (u,E,l3) nBD=q at hl ⊢;obtain⟨J,K,O,U⟩:=q;dsimp only at hl ⊢;rw[good_eq J (bigL Om),bsome];cases K <;> rfl
   rw[l0g h,l01 Dc,l00 (fun h'=>h h'.2)]
theorem bd_len (l:List Fld):(bdR l).1.length<=500:=by
 unfold bdR;split
 . exact YcA _ _
 exact l0x _
end Go.Ph.Pt
end
section
namespace Go.Ph.Pt
open Go.Ph.Pl Go.Ph.Pf
open Go.Ph.Chs (lowB lower)
open Go.Ph.Qp (trimR)
def crP : Bt->Nat
 | []=>0
 | a::t=>match t with
   | []=>1
   | b::_=>if a=13/\b=10 then 0 else crP t+1
theorem crP_nil : crP []=0:=rfl
theorem Yah (a:UInt8):crP [a]=1:=rfl
theorem Y64 (a b:UInt8)(t:Bt):crP (a::b::t)=if a=13/\b=10 then 0 else crP (b::t)+1:=rfl
theorem Y7W :∀t:Bt,crP t<=t.length/\(crP t<t.length->crP t+2<=t.length/\t.drop (crP t)=13::10::t.drop (crP t+2))
 | []=>⟨l0b _,fun h=>absurd h (Nat.lt_irrefl _)⟩
 | [a]=>⟨by rw[Yah];simp,fun h=>by rw[Yah] at h;simp at h⟩
 | a :: b::t=>by
   rw[Y64];split
   . rename_i h;obtain⟨rfl,rfl⟩:=h;exact⟨l0x _,fun _=>⟨by simp,by simp⟩⟩
   have:=Y7W (b::t);rw[l04];refine⟨by omega,fun h=>⟨by have:=this.2 Om;omega,?_⟩⟩;rw[l1E,(this.2 Om).2];rfl
theorem crP_no :∀t:Bt,∀j<crP t,¬(t.drop j).take 2=[13,10]
 | [],j,h=>by rw[crP_nil] at h;omega
 | [a],j,h=>by
   rw[Yah] at h;obtain rfl:j=0:=by omega
   simp
 | a::b::t,j,h=>by
   rw[Y64] at h;split at h
   . omega
   rename_i hn;cases j with
   | zero=>simp;exact fun u E=>hn ⟨u,E⟩
   | succ j=>rw[l1E];exact crP_no (b::t) j Om
theorem pre_no {a b:UInt8}{t:Bt}(h :¬t.take 2=[a,b]):([a,b]:Bt).isPrefixOf t=false:=by
 rw[Bool.eq_false_iff];intro u;rw[List.isPrefixOf_iff_prefix,List.prefix_iff_eq_take] at u;exact h u.symm
theorem YaP (t:Bt):Lib.index t [13,10]=if crP t<t.length then(crP t:Int) else -1:=by
 have J:=Y7W t;have u:=crP_no t;split
 . rename_i h;obtain⟨N,K⟩:=J.2 h;refine Lib.index_first Om ?_ (fun j hj=>?_)
   . unfold Lib.occAt;rw[K];rfl
   unfold Lib.occAt;exact pre_no (u j hj)
 rename_i h;refine Lib.index_none (fun j hj=>?_);unfold Lib.occAt;by_cases E:j<crP t
 . exact pre_no (u j E)
 rw[l0l Om];rfl
theorem YcB (t:Bt)(ht:t.length<=1000000):Y2U t [13,10]=some (if crP t<t.length then(crP t:Int) else -1):=by
 unfold Y2U;rw[l01 ⟨by decide,by omega,by decide⟩,YaP]
def lnF : Nat->Nat->Bt->List (Int × Bt)
 | 0,_,_=>[]
 | m+1,at_,t=>if t=[] then [] else((at_:Int),t.take (crP t))::lnF m (at_+crP t+2) (t.drop (crP t+2))
theorem Y8Z {σ:Type}(Y:σ->(Int × Bt)->Option (σ × Bool))(p:Bt)(hp:p.length<=1000000):∀(k i m:Nat) (s:σ),p.length-i<=k->k<m->i<=p.length->
 (Y0v Y p m (i:Int) s).map (fun o=>match o with | .inl s=>s | .inr s=>s)=runL Y (lnF k i (p.drop i)) s
 | k,i,0,s,J,K,E=>by omega
 | k, i, m+1,s,J,K,E=>by
   by_cases hi:i<p.length
   . obtain⟨k,rfl⟩ :∃q,k=q+1:=⟨k-1,by omega⟩
     have hne:p.drop i≠ []:=by rw[Ne,l1W];omega
     have hc:=Y7W (p.drop i);have hlen:(p.drop i).length=p.length-i:=l08 ..;have hpos:0<(p.drop i).length:=l0F.2 hne;rw[Y0v,l01 Om,cut_from rfl E,bsome,YcB _ Om,bsome,lnF,l00 hne,runL];generalize hcp:crP (p.drop i)=c at hc ⊢;by_cases hcl:c<(p.drop i).length
     . obtain⟨N,_⟩:=hc.2 hcl;rw[l01 hcl,l01 Om,show chk ((i:Int)+(c:Int))=some ((i+c:Nat):Int) from chk_addN c Om,bsome,bsome,show ((i+c:Nat):Int)+2=((i+c+2:Nat):Int) by omega,chk_ok Om Om,bsome,bsome];dsimp only;rw[cut_of rfl rfl Om Om,bsome,show (p.take (i+c)).drop i=(p.drop i).take c by rw[l2R];congr 1;omega];cases hy:Y s ((i:Int),(p.drop i).take c) with
       | none=>rfl
       | some r =>
         rw[bsome,bsome];obtain⟨u,b⟩:=r;dsimp only;cases b with
         | true=>rw[l01 rfl,l01 rfl,Y8Z Y p hp k (i+c+2) m u Om Om Om,l0V,l1n i c 2]
         | false=>rw[l00 l03,l00 l03];rfl
     have hce:c=(p.drop i).length:=by omega
     rw[l00 hcl,l00 Dc,bsome];dsimp only;rw[cut_of rfl rfl Om (l0b _),bsome,l0M,hce,l0M];cases hy:Y s ((i:Int),p.drop i) with
     | none=>rfl
     | some r =>
       rw[bsome,bsome];obtain⟨u,b⟩:=r;dsimp only;cases b with
       | true =>
         rw[l01 rfl,l01 rfl,Y8Z Y p hp k p.length m u Om Om (l0b _),l0I,show (p.drop i).drop ((p.drop i).length+2)=[] from l0l Om];cases k with
         | zero=>rfl
         | succ k=>rw[lnF,lnF,l01 rfl,l01 rfl]
       | false=>rw[l00 l03,l00 l03];rfl
   obtain rfl:i=p.length:=by omega
   rw[Y0v,l00 Om,l0I];cases k with
   | zero=>rfl
   | succ k=>rw[lnF,l01 rfl];rfl
def lnL (p:Bt):List (Int × Bt):=lnF p.length 0 p
theorem lines_eq {σ:Type}(Y:σ->(Int × Bt)->Option (σ × Bool))(p:Bt)(hp:p.length<=1000000)(s:σ):Y2w p σ Y s=runL Y (lnL p) s:=by
 have h:=Y8Z Y p hp p.length 0 FU s Om (FU_gt Om) Om;rw[show ((0:Nat):Int)=0 from rfl,l0E] at h;unfold Y2w lnL;rw[<-h];cases Y0v Y p FU 0 s with
 | none=>rfl
 | some o=>cases o <;> rfl
theorem YcC :∀(k i:Nat) (t:Bt),∀x∈lnF k i t,(i:Int)<=x.1/\x.1+x.2.length<=(i+t.length:Nat)
 | 0,i,t,x,h=>by rw[lnF] at h;cases h
 | k + 1,i,t,x,h=>by
   rw[lnF] at h;split at h
   . cases h
   have hc:=Y7W t;rcases l0k.1 h with rfl|h
   . refine⟨l3D _,?_⟩;rw[l0j];dsimp only;omega
   have:=YcC k (i+crP t+2) (t.drop (crP t+2)) x h;rw[l08] at this;by_cases u:crP t<t.length
   . have:=hc.2 u;omega
   rw[l0l Om] at h;cases k with
   | zero=>rw[lnF] at h;cases h
   | succ k=>rw[lnF,l01 rfl] at h;cases h
def sepB (b:Bt):Bt:=[45,45]++b
def endB (b:Bt):Bt:=[45,45]++b++[45,45]
def knd (line b:Bt):Int:=if trimR line=sepB b then 1 else if trimR line=endB b then 2 else 0
theorem kind_eq (line b:Bt)(hl:Big line)(hb:b.length<=1000):Y5j line b=some (knd line b):=by
 unfold Y5j knd sepB endB;rw[Go.Ph.Hd.Y63 line hl,bsome,cat_ok Ol,bsome];split
 . rfl
 rw[bsome,cat_ok Ol,bsome];split <;> rfl
def cnS (body b:Bt)(st:List Bt × Int)(x:Int × Bt):(List Bt × Int) × Nat :=
 if knd x.2 b=0 then(st,0) else
  let out:=if 0<=st.2 then st.1++[(body.take (max st.2 (x.1-2)).toNat).drop st.2.toNat] else st.1
  if knd x.2 b=2 then((out,st.2),1) else((out,min (x.1+x.2.length+2) body.length),0)
def cnG (body b:Bt):List (Int × Bt)->List Bt × Int->(List Bt × Int) × Nat
 | [],st=>(st,0)
 | x::r,st=>if (cnS body b st x).2=0 then cnG body b r (cnS body b st x).1 else cnS body b st x
def conR (body b:Bt):List Bt :=
 let r:=cnG body b (lnL body) ([],-1)
 if r.2=0 then(if 0<=r.1.2 then r.1.1++[body.drop r.1.2.toNat] else r.1.1) else r.1.1
def cnI (body:Bt)(i:Nat)(st:List Bt × Int):Prop:=st.1.length<=i/\-1<=st.2/\st.2<=body.length/\∀q∈st.1,q.length<=body.length
theorem cnS_ok (body b:Bt)(hp:body.length<=1000000)(hb:b.length<=1000){i:Nat}(hi:i<=1000000){st:List Bt × Int}(hst:cnI body i st){x:Int × Bt}(hx:0<=x.1/\x.1+x.2.length<=body.length):
 Y1M body b (st,0) x=some (cnS body b st x)/\cnI body (i+1) (cnS body b st x).1:=by
 obtain⟨out,fr⟩:=st;obtain⟨at_,line⟩:=x;obtain⟨V,J,K,u⟩:=hst;dsimp only at V J K u hx;unfold Y1M cnS;dsimp only;rw[kind_eq line b (bigL Om) hb,bsome];by_cases hk:knd line b=0
 . rw[l01 hk,l01 hk];exact⟨G,by dsimp only;omega,J,K,u⟩
 rw[l00 hk,l00 hk];have hout:((if (0:Int)<=fr then(chk (at_-2)).bind fun N=>(cut body fr (max fr N)).bind fun O=>(app 24 out ([O]:List Bt)).bind fun U=>some U else some out):Option (List Bt))=some (if 0<=fr then out++[(body.take (max fr (at_-2)).toNat).drop fr.toNat] else out):=by
  by_cases hf:0<=fr
  . rw[l01 hf,l01 hf,chk_ok Om Om,bsome,cut_of (a:=fr.toNat) (b:=(max fr (at_-2)).toNat) Om Om Om Om,bsome,app_ok Ol,bsome]
  rw[l00 hf,l00 hf]
 rw[hout,bsome];have hI :∀q∈(if 0<=fr then out++[(body.take (max fr (at_-2)).toNat).drop fr.toNat] else out),q.length<=body.length:=by
  intro q hq;split at hq
  . rcases l1m.1 hq with hq|hq
    . exact u q hq
    rw[l0O.1 hq,l08,l0j];omega
  exact u q hq
 have hL:(if 0<=fr then out++[(body.take (max fr (at_-2)).toNat).drop fr.toNat] else out).length<=i+1:=by
  split
  . rw[l05,l0R];omega
  omega
 by_cases E:knd line b=2
 . rw[l01 E,l01 E];exact⟨G,hL,J,K,hI⟩
 rw[l00 E,l00 E,chk_ok Om Om,bsome,chk_ok Om Om,bsome];exact⟨G,hL,by dsimp only;omega,by dsimp only;omega,hI⟩
theorem cnS_tag (body b:Bt)(st:List Bt × Int)(x:Int × Bt):(cnS body b st x).2=0∨(cnS body b st x).2=1:=by
 unfold cnS;split
 . exact .inl G
 dsimp only;split
 . exact .inr G
 exact .inl G
theorem cn_run (body b:Bt)(hp:body.length<=1000000)(hb:b.length<=1000):∀(ls:List (Int × Bt)) (i:Nat) (st:List Bt × Int),i+ls.length<=1000000->cnI body i st->(∀x∈ls,0<=x.1/\x.1+x.2.length<=body.length)->
 runL (stepY exStop (Y1M body b)) ls (st,0)=some (cnG body b ls st)/\cnI body (i+ls.length) (cnG body b ls st).1/\((cnG body b ls st).2=0∨(cnG body b ls st).2=1)
 | [],i,st,E,hst,hx=>⟨rfl,hst, .inl rfl⟩
 | x :: r,i,st,E,hst,hx=>by
   rw[l04] at E;obtain⟨K,u⟩:=cnS_ok body b hp hb (i:=i) Om hst (hx x (l0o ..));rw[runL,cnG,stepY,l00 (by simp [exStop]),K,l0Y,bsome];rcases cnS_tag body b st x with ht|ht
   . have J:=cn_run body b hp hb r (i+1) (cnS body b st x).1 Om u (fun y hy=>hx y (l0t _ hy));have he:cnS body b st x=((cnS body b st x).1,0):=by rw[<-ht]
     rw[l01 ht];dsimp only;rw[l01 (by simp [exStop,ht]),l04,show i+(r.length+1)=i+1+r.length by omega];rw[<-he] at J;exact J
   rw[l00 (show ¬(cnS body b st x).2=0 by rw[ht];decide)];dsimp only;rw[l00 (by simp [exStop,ht])];refine⟨G,⟨?_,u.2⟩, .inr ht⟩;have:=u.1;rw[l04];omega
theorem YcD :∀(k i:Nat) (t:Bt),(lnF k i t).length<=k
 | 0,i,t=>by rw[lnF];exact l0b _
 | k+1,i,t=>by
   rw[lnF];split
   . exact l0x _
   rw[l04];have:=YcD k (i+crP t+2) (t.drop (crP t+2));omega
theorem con_eq (body b:Bt)(hp:body.length<=100000)(hb:b.length<=1000):Y3i body b=some (conR body b)/\(conR body b).length<=body.length+1/\∀q∈conR body b,q.length<=body.length:=by
 have hlen:(lnL body).length<=body.length:=YcD _ _ _;obtain⟨O,⟨J,K,N,u⟩,E⟩:=cn_run body b Om hb (lnL body) 0 ([],-1) Om ⟨l0b _,by decide,by dsimp only;omega,fun q hq=>by cases hq⟩ (fun x hx=>by
  have:=YcC body.length 0 body x hx;rw[l0D] at this;exact⟨by omega,this.2⟩)
 unfold Y3i conR;rw[show Y46 body=some body from rfl,bsome,lines_eq _ body Om,O,bsome];generalize cnG body b (lnL body) ([],-1)=r at J K N u E ⊢;obtain⟨⟨out,fr⟩,tg⟩:=r;dsimp only at J K N u E ⊢;rcases E with rfl|rfl
 . rw[l01 rfl,l01 rfl];by_cases hf:0<=fr
   . rw[l01 hf,l01 hf,cut_from (a:=fr.toNat) Om Om,bsome,app_ok Ol,bsome];refine⟨G,by rw[l05,l0R];omega,fun q hq=>?_⟩;rcases l1m.1 hq with hq|hq
     . exact u q hq
     rw[l0O.1 hq,l08];omega
   rw[l00 hf,l00 hf];exact⟨G,by omega,u⟩
 rw[l00 Dc,l01 rfl,l00 Dc];exact⟨G,by omega,u⟩
def innR (l:List Fld)(body:Bt)(d:Int):List Bt:=if (bdR l).2=true/\d<8 then conR body (bdR l).1 else []
theorem Y9G (l:List Fld)(body:Bt)(d:Int)(hl:l.length<=1000000)(hb:BigF l)(hp:body.length<=100000):Y47 l body d=some (innR l body d)/\(innR l body d).length<=body.length+1/\∀q∈innR l body d,q.length<=body.length:=by
 have u:=con_eq body (bdR l).1 hp (by have:=bd_len l;omega);unfold Y47 innR;rw[bd_eq l hl hb,bsome];generalize bdR l=r at u ⊢;obtain⟨J,E⟩:=r;dsimp only at u ⊢;cases E with
 | false=>rw[l00 l03,bsome,l01 rfl,l00 (fun h=>l03 h.1)];exact ⟨rfl,l0x _,fun q hq=>by cases hq⟩
 | true =>
   rw[l01 rfl,bsome];by_cases hd:(8:Int)<=d
   . rw[l0f hd,l01 rfl,l00 (fun h=>by omega)];exact ⟨rfl,l0x _,fun q hq=>by cases hq⟩
   rw[l0g hd,l00 l03,l01 ⟨rfl,by omega⟩,u.1,bsome];exact ⟨rfl,u.2⟩
theorem innR_ok {l:List Fld}{body:Bt}{d:Int}(h:innR l body d≠ []):(typR l).2.2=true/\lower (typR l).1.1=lower nMP/\d<8/\(bdR l).2=true:=by
 unfold innR at h;by_cases u:(bdR l).2=true/\d<8
 . have E:=u.1;unfold bdR at E;by_cases J:(typR l).2.2=true/\lower (typR l).1.1=lower nMP
   . exact⟨J.1,J.2,u.2,u.1⟩
   rw[l00 J] at E;cases E
 rw[l00 u] at h;exact absurd rfl h
end Go.Ph.Pt
end
section
namespace Go.Ph.Pt
open Go.Ph.Pl Go.Ph.Pf
open Go.Ph.Chs (lowB lower)
open Go.Ph.Hd (valR readR headB fieldB rdF firstL cl)
open Go.Ph.Md (prsR parR valM printR mediaT prB)
def noBd (l:List Fld):List Fld:=l.filter fun x => !decide (lower x.1=lower nBD)
def barR (l:List Fld):List Fld × Bool :=
 let pr:=printR ((typR l).1.1,(typR l).1.2.1,noBd (typR l).1.2.2)
 if pr.2.1=0 then(l.set (typR l).2.1.toNat ((l[(typR l).2.1.toNat]?.getD ([],[])).1,pr.1),true) else([],false)
theorem noBd_big {l:List Fld}(h:BigF l):BigF (noBd l):=fun x hx=>h x (l1Q.1 hx).1
theorem bar_eq (l:List Fld)(hl:l.length<=1000000)(hb:BigF l)(ht:(typR l).2.2=true):Y5k l=some (barR l):=by
 obtain⟨k,x,_,hx,_,he⟩:=Ycy ht;have hm:=Y8Y l;have hk:=(l0c.1 hx).1;unfold Y5k barR Y2W;rw[Y7V l hl hb,bsome];rw[he] at hm ⊢;generalize (prsR x.2).1=m at hm ⊢;obtain⟨K,N,l3⟩:=m;obtain⟨⟨E,J,u⟩,O⟩:=hm;dsimp only at E J u O ⊢;rw[Go.Ph.Hd.Ybd l3 Y4l (fun x=>decide (lower x.1=lower nBD)) Om (fun y hy=>by unfold Y4l;rw [Y3p (u y hy).1 Dc,bsome]),bsome,Go.Ph.Md.Y7n _ ⟨E,J,noBd_big u⟩,bsome,show l3.filter (fun x => !decide (lower x.1=lower nBD))=noBd l3 from rfl,l0q,hx];generalize printR (K,N,noBd l3)=q;obtain⟨q1,U,V⟩:=q;dsimp only;rw[Y0t,bsome];by_cases h:U=0
 . rw[l0f h,l00 Dc,l01 h];unfold Y0r;rw[app_ok Ol,bsome,l07,idx_nat,hx,bsome,put_ok Om Om,bsome,l0q];rfl
 rw[l0g h,l01 Dc,l00 h]
abbrev P3 : Type:=List Fld × Bt × List BT38
def BF (l:List Fld):Prop:=l.length<=60/\∀x∈l,x.1.length<=12000/\x.2.length<=12000
theorem BF.big {l:List Fld}(h:BF l):BigF l:=fun x hx=>⟨bigL (by have:=(h.2 x hx).1;omega),bigL (by have:=(h.2 x hx).2;omega)⟩
theorem BF.len {l:List Fld}(h:BF l):l.length<=1000000:=by have:=h.1;omega
theorem BF.of {l:List Fld}(h:(valR l).1=0):BF l:=by
 obtain⟨u,E,_⟩:=Go.Ph.Sg.okL_of h;exact⟨E,fun x hx=>by have:=u x hx;omega⟩
theorem Y9H {m:Med}(h:(printR m).2.1=0):(printR m).1.length<=4000/\(valM m).1=0/\(printR m).1=mediaT m:=by
 unfold printR at h ⊢;by_cases u:(valM m).1=0
 . rw[l01 u] at h ⊢;by_cases E:4000<(mediaT m).length
   . rw[l01 E] at h;cases h
   rw[l00 E];exact ⟨by dsimp only;omega,u,rfl⟩
 rw[l00 u] at h;exact absurd h u
theorem BF.bar {l:List Fld}(h:BF l)(hb:(barR l).2=true):BF (barR l).1:=by
 unfold barR at hb ⊢;generalize hq:printR ((typR l).1.1,(typR l).1.2.1,noBd (typR l).1.2.2)=q at hb ⊢;dsimp only at hb ⊢;by_cases u:q.2.1=0
 . rw[l01 u];have E:=Y9H (m:=((typR l).1.1,(typR l).1.2.1,noBd (typR l).1.2.2)) (by rw[hq];exact u);rw[hq] at E;refine⟨by rw[l1w];exact h.1,fun x hx=>?_⟩;rcases l2C hx with hx|rfl
   . exact h.2 x hx
   dsimp only;refine⟨?_,by omega⟩;cases hg:l[(typR l).2.1.toNat]? with
   | none=>exact l0x _
   | some y=>exact(h.2 y (l0S hg)).1
 rw[l00 u] at hb;cases hb
theorem read_ok {p:Bt}(h:(readR p).2.2.1=0):BF (readR p).1/\p.length<=12000/\∃n:Nat,(readR p).2.1=(n:Int)/\n<=p.length:=by
 unfold readR at h ⊢;by_cases u:12000<p.length
 . rw[l01 u] at h;cases h
 rw[l00 u] at h ⊢;by_cases E:60<(rdF p.length [] p).1.length
 . rw[l01 E] at h;cases h
 rw[l00 E] at h ⊢;cases hf:firstL 0 (rdF p.length [] p).1 with
 | some j=>rw[hf] at h;cases h
 | none =>
   dsimp only;have J:=Go.Ph.Hd.Y7M hf;have K:=Go.Ph.Hd.Ya2 p.length [] p (fun x hx=>by cases hx);have N:=(Go.Ph.Hd.Yay p.length 0 [] p Go.Ph.Hd.ok0).2;refine⟨⟨by rw[l0w];omega,fun x hx=>?_⟩,by omega,_,G,N⟩;obtain⟨y,hy,rfl⟩:=l0Z.1 hx;exact⟨by have:=Pf.Y5B (K y hy).1;show y.1.length<=12000;omega,by have:=J y hy;omega⟩
def Tr : Nat->P3->Prop
 | 0,p=>BF p.1/\p.2.1.length<=12000/\p.2.2=[]
 | k+1,p=>BF p.1/\p.2.1.length<=12000/\p.2.2.length<=40/\∀q∈p.2.2,Tr k q.out
def sz : Nat->P3->Nat
 | 0,_=>1
 | k+1,p=>1+(p.2.2.map fun q=>sz k q.out).sum
theorem Tr.bf {k:Nat}{p:P3}(h:Tr k p):BF p.1/\p.2.1.length<=12000/\p.2.2.length<=40:=by
 cases k with
 | zero=>exact⟨h.1,h.2.1,by rw[h.2.2];exact l0x _⟩
 | succ k=>exact⟨h.1,h.2.1,h.2.2.1⟩
theorem Tr.leaf {l:List Fld}{b:Bt}(h:BF l)(hb:b.length<=12000)(k:Nat):Tr k (l,b,[])/\sz k (l,b,[])=1:=by
 cases k with
 | zero=>exact⟨⟨h,hb,rfl⟩,rfl⟩
 | succ k=>exact⟨⟨h,hb,l0x _,fun q hq=>by cases hq⟩,rfl⟩
theorem YcE :∀(k:Nat) (p:P3),1<=sz k p
 | 0,p=>l0b _
 | k+1,p=>by rw[sz];omega
theorem Y7X (k:Nat):∀l:List BT38,l.length<=(l.map fun q=>sz k q.out).sum
 | []=>l0b _
 | q::l=>by rw[l04,l0p,l1A];have:=Y7X k l;have:=YcE k q.out;omega
abbrev Sp3 : Type:=Int × Int × Int
abbrev SpF : Type:=Sp3->List Fld->Bt->Int->Option (P3 × Bool × Sp3)
def SpOk (self:SpF)(k:Nat):Prop :=∀(mn:Nat) (E J:Int) (l:List Fld) (body:Bt),BF l->body.length<=12000->mn<=39->
 ∃(p:P3) (ok:Bool) (mn':Nat) (u K:Int),self ((mn:Int),E,J) l body (8-(k:Int))=some (p,ok,((mn':Int),u,K))/\mn<mn'/\mn'<=40/\(ok=true->Tr k p/\sz k p+mn=mn')/\(ok=false->p=([],[],[])/\u≠0)
theorem YcF {self:SpF}{k:Nat}(hs:SpOk self k)(mn:Nat)(J K:Int)(a:Bt)(ha:a.length<=12000)(hm:mn<=40):
 ∃(p:P3) (ok:Bool) (mn':Nat) (u E:Int),Y1i self ((mn:Int),J,K) a (8-(k:Int))=some (p,ok,((mn':Int),u,E))/\mn<=mn'/\mn'<=40/\(ok=true->Tr k p/\sz k p+mn=mn')/\(ok=false->p=([],[],[])/\u≠0):=by
 unfold Y1i;rw[Go.Ph.Hd.Y8P,bsome];have hr := @read_ok a;generalize readR a=q at hr ⊢;obtain⟨N,n2,O,n4⟩:=q;dsimp only at hr ⊢;rw[Y0t,bsome];by_cases h:O=0
 . obtain⟨U,_,n,rfl,V⟩:=hr h;rw[l0f h,l00 Dc];by_cases Y:mn=40
   . subst Y;rw[l01 (show((40:Nat):Int)=40 from rfl),Y0Z,bsome];exact⟨_,_,40,_,_,G,l0b _,l0b _,fun h=>(by cases h),fun _=>⟨G,by decide⟩⟩
   rw[l00 Om,cut_from rfl V,bsome];obtain⟨p,ok,mn',u,E,Z,h6,h7,h8,h9⟩:=hs mn J K N (a.drop n) U Ox Om;rw[Z,bsome];exact⟨p,ok,mn',u,E,G,by omega,h7,h8,h9⟩
 rw[l0g h,l01 Dc,Y0Z,bsome];exact⟨_,_,mn,_,_,G,l0b _,hm,fun h=>(by cases h),fun _=>⟨G,h⟩⟩
abbrev LpR : Type:=(List Fld × Bt × List BT38 × List Fld × Bt × List BT38 × Int × Int × Int) ⊕ (P3 × Bool × Sp3)
theorem YaQ {self:SpF}{k:Nat}(hk:k<=8)(hs:SpOk self k)(u:List Bt)(hl:u.length<=1000000)(ha :∀a∈u,a.length<=12000)(c0:Nat)(K:List Fld)(N:Bt)(O:List BT38)(U:List Fld)(V:Bt):
 ∀(d i m mn:Nat) (Y Z:Int) (acc:List BT38),u.length-i<=d->d<m->i<=u.length->mn<=40->(∀q∈acc,Tr k q.out)->(acc.map fun q=>sz k q.out).sum+c0=mn->
 ∃ o:LpR,Y0c self (8-(k:Int)-1) u m (mn:Int) Y Z K N O U V acc (i:Int)=some o/\
  ((∃(acc':List BT38) (mn':Nat) (E J:Int),o = .inl (K,N,O,U,V,acc',(mn':Int),E,J)/\mn<=mn'/\mn'<=40/\(∀q∈acc',Tr k q.out)/\(acc'.map fun q=>sz k q.out).sum+c0=mn')∨
   (∃(mn':Nat) (E J:Int),o = .inr (([],[],[]),false,((mn':Int),E,J))/\mn<=mn'/\mn'<=40/\E≠0))
 | d,i,0,mn,Y,Z,acc,h1,h2,h3,h4,h5,h6=>by omega
 | d,i,m+1,mn,Y,Z,acc,h1,h2,h3,h4,h5,h6=>by
   by_cases hi:i<u.length
   . obtain⟨d,rfl⟩ :∃q,d=q+1:=⟨d-1,by omega⟩
     obtain⟨p,ok,mn',E,J,e1,e2,e3,e4,e5⟩:=YcF hs mn Y Z u[i] (ha _ (l0N hi)) h4;rw[Y0c,l01 Om,idx_nat,l06 hi,bsome,show (8:Int)-(k:Int)-1+1=8-(k:Int) by omega,chk_ok Om Om,bsome,e1,bsome];obtain⟨p1,p2,p3⟩:=p;dsimp only;cases ok with
     | true =>
       obtain⟨e6,e7⟩:=e4 rfl;have hlen:=Y7X k acc;rw[l01 rfl,app_ok Ol,bsome,chk_succ Om,bsome];obtain⟨o,i1,i2⟩:=YaQ hk hs u hl ha c0 K N O U V d (i+1) m mn' E J (acc++[BT38.of (p1,p2,p3)]) Om Om Om e3 (fun q hq=>by
        rcases l1m.1 hq with hq|hq
        . exact h5 q hq
        . rw[l0O.1 hq];exact e6) (by
        rw[l1v,List.sum_append,l0p,l1d,l1A,List.sum_nil,l1M];show _+sz k (p1,p2,p3)+c0=mn'
        omega)
       refine⟨o,i1,?_⟩;rcases i2 with ⟨acc',a0,a1,a2,j1,j2,j3,j4,j5⟩|⟨a0,a1,a2,j1,j2,j3,j4⟩
       . exact .inl ⟨acc',a0,a1,a2,j1,by omega,j3,j4,j5⟩
       exact .inr ⟨a0,a1,a2,j1,by omega,j3,j4⟩
     | false =>
       rw[l00 l03];exact⟨_,G, .inr ⟨mn',E,J,G,e2,e3,(e5 G).2⟩⟩
   obtain rfl:i=u.length:=by omega
   rw[Y0c,l00 Om];exact⟨_,G, .inl ⟨acc,mn,Y,Z,G,l0b _,h4,h5,h6⟩⟩
theorem YaR :∀(k m:Nat),k<=8->k<m->SpOk (Y0a m) k
 | k,0,hk,hm=>by omega
 | k,m+1,hk,hm=>by
   intro mn V Y l body hl hb hmn;obtain⟨Z,i2,i3⟩:=Y9G l body (8-(k:Int)) hl.len hl.big Om;rw[Y0a,Y1s];dsimp only;unfold Y0r Y1k;have a6:=hl.1;rw[show (mn:Int)+1=((mn+1:Nat):Int) by omega,chk_ok Om Om,bsome,app_ok Ol,bsome,app_ok Ol,bsome,Z,bsome,l07,l07];obtain⟨K,t2⟩:=Tr.leaf hl hb k;by_cases u:innR l body (8-(k:Int))=[]
   . rw[l01 (by rw[u];rfl)];exact⟨_,_,mn+1,_,_,G,by omega,by omega,fun _=>⟨K,by omega⟩,fun h=>by cases h⟩
   have hpos:=l0F.2 u;obtain⟨o1,_,o3,_⟩:=innR_ok u;obtain⟨k,rfl⟩ :∃q,k=q+1:=⟨k-1,by omega⟩
   rw[l00 Om,bar_eq l hl.len hl.big o1,bsome];have hbf:=hl.bar;generalize barR l=q at hbf ⊢;obtain⟨N,O⟩:=q;dsimp only at hbf ⊢;cases O with
   | false =>
     rw[l00 l03];exact⟨_,_,mn+1,_,_,G,by omega,by omega,fun _=>⟨K,by omega⟩,fun h=>by cases h⟩
   | true =>
     obtain⟨o,U,e2⟩:=YaQ (k:=k) Om (YaR k m Om Om) (innR l body (8-((k+1:Nat):Int))) Om (fun a hq=>by have:=i3 a hq;omega) (mn+1) [] [] [] N [] (innR l body (8-((k+1:Nat):Int))).length 0 FU (mn+1) V Y [] Om (FU_gt Om) Om Om (fun q hq=>by cases hq) Sm;rw[show (8:Int)-(k:Int)-1=8-((k+1:Nat):Int) by omega,show ((0:Nat):Int)=0 from rfl] at U;rw[l01 rfl,U,bsome];rcases e2 with ⟨acc',mn',g1,g2,rfl,j2,E,J,j5⟩|⟨mn',g1,g2,rfl,j2,E,J⟩
     . have hlen:=Y7X k acc';exact⟨_,_,mn',_,_,G,by omega,E,fun _=>⟨⟨hbf G,l0x _,show acc'.length<=40 by omega,J⟩,by rw[sz];dsimp only;omega⟩,fun h=>by cases h⟩
     exact⟨_,_,mn',_,_,G,by omega,E,fun h=>(by cases h),fun _=>⟨G,J⟩⟩
end Go.Ph.Pt
end
section
namespace Go.Ph.Pt
open Go.Ph.Pl Go.Ph.Pf
open Go.Ph.Chs (lowB lower)
open Go.Ph.Hd (valR readR)
open Go.Ph.Md (prsR parR valM printR mediaT)
abbrev V4 : Type:=List Fld × Bt × List BT38 × Int
theorem YaS :∀(m:Nat) {d:Int} {p:P3} {l:List V4},Y0i m d p=some l->Y0i (m+1) d p=some l
 | 0,d,p,l,h=>by rw[Y0i] at h;cases h
 | m+1,d,p,l,h=>by
   have hL :∀(q:List BT38) (y:List V4),Y1G (Y0i m) (d+1) q=some y->Y1G (Y0i (m+1)) (d+1) q=some y:=by
    intro q;induction q with
    | nil=>intro y hy;exact hy
    | cons a q ih =>
      intro y hy;rw[Y1G] at hy ⊢;obtain⟨x,u,hy⟩:=bnd hy;obtain⟨z,E,hy⟩:=bnd hy;rw[YaS m u,bsome,ih z E,bsome,hy]
   rw[Y0i] at h ⊢;obtain⟨y,u,E⟩:=bnd h;rw[hL _ _ u,bsome,E]
theorem pre_le {m n:Nat}(hmn:m<=n){d:Int}{p:P3}{l:List V4}(h:Y0i m d p=some l):Y0i n d p=some l:=by
 induction hmn with
 | refl=>exact h
 | step _ ih=>exact YaS _ ih
def VOk (k:Nat)(d:Int)(v:V4):Prop:=BF v.1/\v.2.1.length<=12000/\v.2.2.1.length<=40/\d<=v.2.2.2/\v.2.2.2<=d+k
theorem Yai :∀(k:Nat) (d:Int) (p:P3),Tr k p->∃l,Y0i (k+1) d p=some l/\l.length=sz k p/\∀v∈l,VOk k d v
 | 0,d,p,h=>by
   obtain⟨E,J,u⟩:=h;refine⟨[(p.1,p.2.1,p.2.2,d)],by rw[Y0i,u,Y1G,bsome],G,fun v hv=>?_⟩;rw[l0O.1 hv];exact⟨E,J,by dsimp only;rw [u];exact l0x _,l3D _,by dsimp only;omega⟩
 | k+1,d,p,h=>by
   obtain⟨E,J,u,U⟩:=h;have hL :∀q:List BT38,(∀a∈q,Tr k a.out)->∃y,Y1G (Y0i (k+1)) (d+1) q=some y/\y.length=(q.map fun a=>sz k a.out).sum/\∀v∈y,VOk k (d+1) v:=by
    intro q;induction q with
    | nil=>intro _;exact ⟨[],rfl,rfl,fun v hv=>by cases hv⟩
    | cons a q ih =>
      intro hq;obtain⟨x,K,N,O⟩:=Yai k (d+1) a.out (hq a (l0o ..));obtain⟨y,V,Y,Z⟩:=ih (fun b hb=>hq b (l0t _ hb));refine⟨x++y,by rw[Y1G,K,bsome,V,bsome],by rw[l05,l0p,l1A,N,Y],fun v hv=>?_⟩;rcases l1m.1 hv with hv|hv
      . exact O v hv
      exact Z v hv
   obtain⟨y,K,N,O⟩:=hL p.2.2 U;refine⟨(p.1,p.2.1,p.2.2,d)::y,by rw[Y0i,K,bsome],by rw[l04,N,sz];omega,fun v hv=>?_⟩;rcases l0k.1 hv with rfl|hv
   . exact⟨E,J,u,l3D _,by dsimp only;omega⟩
   obtain⟨a1,a2,a3,a4,a5⟩:=O v hv;exact⟨a1,a2,a3,by omega,by omega⟩
theorem YcG {k:Nat}(hk:k<=100){p:P3}(h:Tr k p):∃l,Y0i FU 0 p=some l/\Y0i (k+1) 0 p=some l/\l.length=sz k p/\∀v∈l,VOk k 0 v:=by
 obtain⟨l,u,E,J⟩:=Yai k 0 p h;exact⟨l,pre_le (by unfold FU;omega) u,u,E,J⟩
theorem Yaj {p:P3}{l:List V4}(h:Y0i FU 0 p=some l)(hl:l.length<=1000){σ:Type}(Y:σ->(Int × V4)->Option (σ × Bool))(s:σ):Y3c p σ Y s=runL Y (Y0A 0 l) s:=by
 unfold Y3c;rw[h,bsome,l01 Om]
theorem YcH (p:P3)(h:BF p.1):∃c,Y3k p=some c:=by
 have hm:=Y8Y p.1;have ho := @Ycy p.1;unfold Y3k;rw[Y7V _ h.len h.big,bsome];generalize typR p.1=t at hm ho ⊢;obtain⟨⟨u,E,l3⟩,N,O⟩:=t;dsimp only at hm ho ⊢;by_cases J:(0:Int)<(p.2.1.length:Int)
 . rw[l01 J,bsome,l01 rfl];exact ⟨_,rfl⟩
 rw[l00 J];cases O with
 | false=>rw[l00 l03,bsome,l01 rfl];exact ⟨_,rfl⟩
 | true =>
   obtain⟨k,x,_,hx,_,he⟩:=ho rfl;have hn:N=(k:Int):=l02 (fun z=>z.2.1) he;subst hn;rw[l01 rfl,Y3p hm.1.1 Dc,bsome,bsome];by_cases K:lower u=lower nMP
   . rw[l0f K,l00 Dc,Ycz _ _ hm.1 Dc,bsome];generalize prmR (u,E,l3) nBD=q;obtain⟨q1,U,V,Y⟩:=q;dsimp only;rw[Go.Ph.Md.Y7n _ hm.1,bsome];generalize printR (u,E,l3)=r;obtain⟨Z,r2,r3⟩:=r;dsimp only;rw[Y0t,idx_nat,hx];cases U with
     | true=>rw[l01 rfl,bsome,l01 rfl];exact ⟨_,rfl⟩
     | false =>
       rw[l00 l03];split
       . exact⟨5,by rw[bsome,l01 G]⟩
       rw[bsome];split
       . exact⟨5,by rw[bsome,l01 G]⟩
       rw[bsome];split
       . rw[bsome];split <;> exact⟨_,rfl⟩
       exact⟨5,by rw[bsome,l01 G]⟩
   rw[l0g K,l01 Dc];exact ⟨_,rfl⟩
theorem Y9I (b:Bt)(hb:b.length<=12000):∃c,Y2K b=some c:=by
 obtain⟨a,c,h⟩:=Go.Ph.Sg.YaB b Om;unfold Y3g at h;obtain⟨n,u,_⟩:=bnd h;exact⟨n,u⟩
theorem YcI (v:V4)(h:BF v.1)(hb:v.2.1.length<=12000):∃c,Y1C v=some c:=by
 unfold Y1C;rw[Go.Ph.Hd.Y3o v.1 h.big,bsome];generalize valR v.1=q;obtain⟨q1,K⟩:=q;dsimp only;rw[Y0t,bsome];by_cases u:q1=0
 . rw[l0f u,l00 Dc];by_cases E:(0:Int)<(v.2.2.1.length:Int)
   . obtain⟨c,hc⟩:=YcH (v.1,v.2.1,v.2.2.1) h;rw[l01 E,hc];exact ⟨_,rfl⟩
   obtain⟨c,hc⟩:=Y9I v.2.1 hb;rw[l00 E,l00 Om,hc,bsome];by_cases J:c=0
   . rw[l01 J,(Y9G v.1 v.2.1 v.2.2.2 h.len h.big Om).1,bsome];split <;> exact⟨_,rfl⟩
   rw[l00 J];exact ⟨_,rfl⟩
 rw[l0g u,l01 Dc];exact ⟨_,rfl⟩
theorem Y7d {v:V4}(h:BF v.1)(hb:v.2.1.length<=12000)(hc:Y1C v=some 0):(valR v.1).1=0/\(v.2.2.1=[]->innR v.1 v.2.1 v.2.2.2=[])/\(v.2.2.1≠ []->Y3k (v.1,v.2.1,v.2.2.1)=some 0):=by
 unfold Y1C at hc;rw[Go.Ph.Hd.Y3o v.1 h.big,bsome] at hc;generalize valR v.1=q at hc ⊢;obtain⟨q1,N⟩:=q;dsimp only at hc ⊢;rw[Y0t,bsome] at hc;by_cases u:q1=0
 . rw[l0f u,l00 Dc] at hc;refine⟨u,fun he=>?_,fun he=>?_⟩
   . rw[he,l00 Dc,l00 Om] at hc;obtain⟨c,J,hc⟩:=bnd hc;by_cases E:c=0
     . rw[l01 E,(Y9G v.1 v.2.1 v.2.2.2 h.len h.big Om).1,bsome] at hc;by_cases K:(0:Int)<((innR v.1 v.2.1 v.2.2.2).length:Int)
       . rw[l01 K] at hc;cases hc
       exact List.length_eq_zero_iff.1 Om
     rw[l00 E] at hc;exact absurd (oI hc) E
   have:=l0F.2 he;rw[l01 Om] at hc;obtain⟨c,J,hc⟩:=bnd hc;rw[J];exact hc
 rw[l0g u,l01 Dc] at hc;exact absurd (oI hc) u
theorem y9_run (a b:Int):∀(l:List V4) (n:Int) (deep:Bool),0<=n->n+l.length<=40->runL (stepY exStop Y2j) (Y0A n l) ((a,b,deep),0)=some ((a,b,deep || l.any fun v=>decide (8<v.2.2.2)),0)
 | [],n,deep,E,h=>by rw[Y0A,runL];simp
 | v::l,n,deep,E,h=>by
   rw[l04] at h;obtain⟨J,K,N,u⟩:=v;rw[Y0A,runL,stepY,l00 (by simp [exStop])];unfold Y2j;dsimp only;rw[l00 Om];have hd:((if deep=true then some true else some (decide ((8:Int)<u))):Option Bool)=some (deep || decide (8<u)):=by cases deep <;> rfl
   rw[hd,bsome,l0Y,bsome];dsimp only;rw[l01 (by simp [exStop])];have:=y9_run a b l (n+1) (deep || decide (8<u)) Om Om;unfold Y2j at this;rw[this,l2M,Bool.or_assoc]
theorem YcJ :∀(l:List V4) (n:Int),(∀v∈l,∃c,Y1C v=some c)->
 (runL (stepY exStop Y11) (Y0A n l) (((0,0):Int × Int),0)=some ((0,0),0)/\∀v∈l,Y1C v=some 0)∨
 (∃c i,c≠0/\runL (stepY exStop Y11) (Y0A n l) (((0,0):Int × Int),0)=some ((c,i),1))
 | [],n,h => .inl ⟨rfl,fun v hv=>by cases hv⟩
 | v :: l,n,h=>by
   obtain⟨c,hc⟩:=h v (l0o ..);have ih:=YcJ l (n+1) (fun w hw=>h w (l0t _ hw));obtain⟨K,N,O,U⟩:=v;have hr:runL (stepY exStop Y11) (Y0A n ((K,N,O,U)::l)) (((0,0):Int × Int),0)=if c=0 then runL (stepY exStop Y11) (Y0A (n+1) l) (((0,0):Int × Int),0) else some ((c,n),1):=by
    rw[Y0A,runL,stepY,l00 (by simp [exStop]),Y11];rw[hc,bsome];by_cases u:c=0
    . rw[l01 u,l01 u,l0Y,bsome];dsimp only;rw[l01 (by simp [exStop])]
    rw[l00 u,l00 u,Y0Z,bsome,l0Y,bsome];dsimp only;rw[l00 (by simp [exStop])]
   rw[hr];by_cases u:c=0
   . rw[l01 u];rcases ih with ⟨E,J⟩|⟨c',i,E,J⟩
     . refine .inl ⟨E,fun w hw=>?_⟩;rcases l0k.1 hw with rfl|hw
       . rw[hc,u]
       exact J w hw
     exact .inr ⟨c',i,E,J⟩
   rw[l00 u];exact .inr ⟨c,n,u,G⟩
theorem YcK {p:P3}{l:List V4}(h:Y0i FU 0 p=some l)(hl:l.length<=40)(hv :∀v∈l,BF v.1/\v.2.1.length<=12000):
 ∃c i,Y1T p=some (c,i)/\(c=0->i=0/\(∀v∈l,v.2.2.2<=8)/\∀v∈l,Y1C v=some 0):=by
 have N:=y9_run 0 0 l 0 false Dc Om;have J:=YcJ l 0 (fun v hw=>YcI v (hv v hw).1 (hv v hw).2);unfold Y1T;rw[show Y5g (p.1,p.2.1,p.2.2)=some (p.1,p.2.1,p.2.2) from rfl,bsome];dsimp only;rw[show (p.1,p.2.1,p.2.2)=p from rfl,Yaj h Om,N,bsome];dsimp only;rw[l01 rfl,l1V];cases hd:l.any fun v=>decide (8<v.2.2.2) with
 | true=>rw[l01 rfl,Y0Z,bsome];exact ⟨_,_,rfl,fun h=>by cases h⟩
 | false =>
   have K :∀v∈l,v.2.2.2<=8:=fun v hw=>by
    have:=l1s.1 hd v hw;simpa using this
   rw[l00 l03,bsome,Yaj h Om];rcases J with ⟨u,E⟩|⟨c,i,u,E⟩
   . rw[u,bsome];dsimp only;rw[l01 rfl,Y2Q,bsome];exact⟨_,_,G,fun _=>⟨G,K,E⟩⟩
   rw[E,bsome];dsimp only;rw[l00 Dc,l01 rfl];exact⟨_,_,G,fun h=>absurd h u⟩
theorem Y9J (m:List Fld × Bt)(hb:BigF m.1)(hm:m.2.length<=140737488355328):
 ∃(p:P3) (c i:Int),Y2D m=some (p,(c,i))/\(c≠0->p=([],[],[]))/\
  (c=0->i=0/\(valR m.1).1=0/\m.2.length<=12000/\Tr 8 p/\(∃u E:Int,Y0a FU (0,0,0) m.1 m.2 0=some (p,true,((sz 8 p:Nat):Int),u,E))/\sz 8 p<=40/\Y1T p=some (0,0)):=by
 obtain⟨a,b,Z,h2⟩:=Go.Ph.Sg.mvalid m hb hm;unfold Y2D;rw[show (m.1,m.2)=m from rfl,Z,bsome];dsimp only;rw[Y0t,bsome];by_cases J:a=0
 . obtain⟨N,O⟩:=h2 J;rw[l0f J,l00 Dc];obtain⟨p,ok,mn',u,E,K,e2,e3,e4,e5⟩:=YaR 8 FU (l0b _) (by unfold FU;omega) 0 0 0 m.1 m.2 (BF.of N) O Om;rw[show ((0:Nat):Int)=0 from rfl,show (8:Int)-((8:Nat):Int)=0 by decide] at K;have U:Y2X (0,0,0) m.1 m.2 0=some (p,ok,((mn':Int),u,E)):=K;rw[U,bsome];obtain⟨p1,p2,p3⟩:=p;dsimp only;cases ok with
   | true =>
     obtain⟨V,t2⟩:=e4 rfl;obtain⟨l,l1,_,l2,l3⟩:=YcG Dc V;obtain⟨c,i,Y,v2⟩:=YcK l1 Om (fun v hv=>⟨(l3 v hv).1,(l3 v hv).2.1⟩);rw[l01 rfl,Y,bsome];dsimp only;rw[Y0t,bsome];by_cases hc:c=0
     . obtain⟨rfl,_⟩:=v2 hc;subst hc;rw[l00 Dc,Y2Q,bsome];refine⟨_,0,0,G,fun h=>absurd G h,fun _=>⟨G,N,O,V,⟨u,E,?_⟩,by omega,Y⟩⟩;rw[K,show sz 8 (p1,p2,p3)=mn' by omega]
     rw[l0g hc,l01 Dc,Y0Z,bsome];exact⟨_,c,-9,G,fun _=>G,fun h=>absurd h hc⟩
   | false =>
     rw[l00 l03];exact⟨_,u,E,G,fun _=>G,fun h=>absurd h (e5 G).2⟩
 rw[l0g J,l01 Dc];exact⟨_,a,b,G,fun _=>G,fun h=>absurd h J⟩
end Go.Ph.Pt
end
section
namespace Go.Ph.Pt
open Go.Ph.Pl Go.Ph.Pf
open Go.Ph.Chs (lowB lower)
theorem Y8i (s:Bt)(c:UInt8): -1<=ixB s c/\ixB s c<s.length∨ixB s c = -1:=by
 unfold ixB;split
 . left;omega
 right;rfl
theorem YaT (p:Bt)(hp:p.length<=24000):∀(d i m:Nat) (out:Bt) (a c:Nat),p.length-i<=d->d<m->i<=p.length->out.length<=i->c<8->a<2 ^ c->
 ∃o,Y0B p m out (a:Int) (c:Int) (i:Int)=some o/\o.length<=p.length
 | d,i,0,out,a,c,V,Y,Z,E,J,K=>by omega
 | d, i,m+1,out,a,c,V,Y,Z,E,J,K=>by
   by_cases hi:i<p.length
   . obtain⟨d,rfl⟩ :∃q,d=q+1:=⟨d-1,by omega⟩
     rw[Y0B,l01 Om,idx_nat,l06 hi,bsome];by_cases u:p[i]=61
     . rw[l01 u];exact ⟨out,rfl,by omega⟩
     rw[l00 u];unfold Y1v;rw[bsome];generalize hz:ixB ([65,66,67,68,69,70,71,72,73,74,75,76,77,78,79,80,81,82,83,84,85,86,87,88,89,90,97,98,99,100,101,102,103,104,105,106,107,108,109,110,111,112,113,114,115,116,117,118,119,120,121,122,48,49,50,51,52,53,54,55,56,57,43,47]:Bt) p[i]=z;have hzl:=Y8i ([65,66,67,68,69,70,71,72,73,74,75,76,77,78,79,80,81,82,83,84,85,86,87,88,89,90,97,98,99,100,101,102,103,104,105,106,107,108,109,110,111,112,113,114,115,116,117,118,119,120,121,122,48,49,50,51,52,53,54,55,56,57,43,47]:Bt) p[i];rw[hz] at hzl;have a0:z<64:=by
      rcases hzl with h|h
      . have:=h.2;simp only[l04,l0d] at this;omega
      omega
     clear hzl hz;rw[chk_succ Om];by_cases hn:z<0
     . rw[l01 hn,bsome];exact YaT p hp d (i+1) m out a c Om Om Om Om J K
     obtain⟨y,rfl⟩ :∃y:Nat,z=(y:Int):=⟨z.toNat,by omega⟩
     have hy:y<64:=by omega
     have U:2 ^ c<=2 ^ 7:=l1I Dc Om;have ha:a<128:=by omega
     have N:a*64<2 ^ (c+6):=by rw[Nat.pow_add];omega
     have O:y<2 ^ (c+6):=l1t hy (by rw[show 64=2 ^ 6 from rfl];exact l1I Dc Om);have hor:=l0B N O;have a1:2 ^ (c+6)<=2 ^ 13:=l1I Dc Om;have hsh:shlI (a:Int) 6=some ((a*64:Nat):Int):=by
      unfold shlI;rw[show (2:Int) ^ (Int.toNat 6)=64 from rfl,l01 ⟨by omega,by decide,by decide,by omega⟩];congr 1
     have horI:orI ((a*64:Nat):Int) (y:Int)=some ((a*64 ||| y:Nat):Int):=by
      unfold orI;rw[l01 ⟨by omega,by omega,by omega,by omega⟩,l0q,l0q]
     rw[l00 hn,hsh,bsome,horI,bsome,show (c:Int)+6=((c+6:Nat):Int) by omega,chk_ok Om Om,bsome];generalize hw:(a*64 ||| y)=w at hor ⊢;by_cases h8:8<=c+6
     . rw[l01 Om,show ((c+6:Nat):Int)-8=((c-2:Nat):Int) by omega,chk_ok Om Om,bsome];have a2:2 ^ (c-2)<=2 ^ 5:=l1I Dc Om;have a3:1<=2 ^ (c-2):=Nat.one_le_two_pow;have hshr :∃r,shrI (w:Int) ((c-2:Nat):Int)=some r:=by
        unfold shrI;rw[l01 ⟨by omega,by omega,by omega⟩];exact⟨_,G⟩
       obtain⟨r,hr⟩:=hshr;have hsl:shlI 1 ((c-2:Nat):Int)=some ((2 ^ (c-2):Nat):Int):=by
        unfold shlI;have hpw:(1:Int)*2 ^ (((c-2:Nat):Int).toNat)=((2 ^ (c-2):Nat):Int):=by rw[l0q,Int.one_mul,Int.natCast_pow];rfl
        rw[hpw,l01 ⟨by decide,by omega,by omega,by omega⟩]
       have hand:andI (w:Int) ((2 ^ (c-2)-1:Nat):Int)=some ((w &&& (2 ^ (c-2)-1):Nat):Int):=by
        unfold andI;rw[l01 ⟨by omega,by omega,by omega,by omega⟩,l0q,l0q]
       rw[hr,bsome,app_ok Ol,bsome,hsl,bsome,show ((2 ^ (c-2):Nat):Int)-1=((2 ^ (c-2)-1:Nat):Int) by omega,chk_ok Om Om,bsome,hand,bsome,bsome];refine YaT p hp d (i+1) m _ _ (c-2) Om Om Om (by rw[l05,l0R];omega) Om ?_;have:=Nat.and_le_right (n:=w) (m:=2 ^ (c-2)-1);omega
     rw[l00 Om,bsome];exact YaT p hp d (i+1) m out w (c+6) Om Om Om Om Om hor
   obtain rfl:i=p.length:=by omega
   rw[Y0B,l00 Om];exact⟨out,G,E⟩
theorem b64_tot (p:Bt)(hp:p.length<=12000):∃l,Y3x p=some (l,(0,0))/\l.length<=12000:=by
 obtain⟨o,E,J⟩:=YaT p Om p.length 0 FU [] 0 0 Om (FU_gt Om) Om Sm Dc Dc;have u:Y0B p FU [] 0 0 0=some o:=E;unfold Y3x;rw[l00 Om,u,bsome,Y2Q,bsome];exact⟨o,G,by omega⟩
theorem YcL (p s:Bt)(hp:p.length<=1000000)(hs:s.length<=1000000):∃b,Y1w p s=some b/\(b=true->s.length<=p.length):=by
 unfold Y1w;by_cases h:(s.length:Int)<=(p.length:Int)
 . rw[l01 h,show (p.length:Int)-(s.length:Int)=((p.length-s.length:Nat):Int) by omega,chk_ok Om Om,bsome,cut_from rfl Om,bsome];unfold Y3d;rw[bsome,bsome];exact⟨_,G,fun _=>by omega⟩
 rw[l00 h,bsome];exact⟨false,G,fun h=>by cases h⟩
theorem Y9K (p s:Bt)(hp:p.length<=1000000)(hs:s.length<=1000000):∃r,Y0y p s=some r/\r.length<=p.length:=by
 obtain⟨b,u,E⟩:=YcL p s hp hs;unfold Y0y;rw[u,bsome];cases b with
 | true =>
   have:=E rfl;rw[l01 rfl,show (p.length:Int)-(s.length:Int)=((p.length-s.length:Nat):Int) by omega,chk_ok Om Om,bsome,cut_to rfl Om,bsome];exact⟨_,G,by rw[l0j];omega⟩
 | false=>rw[l00 l03];exact ⟨p,rfl,l0b _⟩
theorem bset_eq : Y39 [32,9]=some ((List.range 256).map (fun n=>decide (n=32∨n=9)),true):=by decide +kernel
theorem bcont_at (f:Nat->Bool)(c:UInt8):Y1x ((List.range 256).map f) c=some (f c.toNat):=by
 have hc:c.toNat<256:=c.toNat_lt;unfold Y1x idxA;rw[l01 (by rw[l0w,l2z])];rw[idx_nat,l0H,l2Y hc];rfl
theorem btr_L1 (f:Nat->Bool):∀(m:Nat) (l:Bt),l.length<m->l.length<=1000000->∃r,Y0F ((List.range 256).map f) m l=some r/\r.length<=l.length
 | 0,l,h,_=>by omega
 | m + 1,l,h,hl=>by
   rw[Y0F];by_cases J:l.length=0
   . rw[l00 Om];exact ⟨l,rfl,l0b _⟩
   rw[l01 Om,show (l.length:Int)-1=((l.length-1:Nat):Int) by omega,chk_ok Om Om,bsome,idx_nat,l06 Om,bsome,bcont_at,bsome,bsome,cut_to rfl Om,bsome];split
   . obtain⟨r,u,E⟩:=btr_L1 f m (l.take (l.length-1)) (by rw[l0j];omega) (by rw[l0j];omega);exact⟨r,u,by rw[l0j] at E;omega⟩
   exact⟨l,G,l0b _⟩
theorem Ybm (l:Bt)(hl:l.length<=1000000):∃r,Y3e l [32,9]=some r/\r.length<=l.length:=by
 unfold Y3e;by_cases h:l.length=0
 . rw[l01 Om,bsome,l01 rfl];exact ⟨l,rfl,l0b _⟩
 obtain⟨r,u,E⟩:=btr_L1 (fun n=>decide (n=32∨n=9)) FU l (FU_gt Om) hl;rw[l00 Om,bsome,l00 Dc,l00 Dc,bsome,l00 l03,bset_eq,bsome];dsimp only;rw[Go.Ph.Pf.Y8L,bsome,chkA_ok (by rw[l0w,l2z]),bsome,l01 rfl];unfold Y2E;rw[u,bsome,bsome];exact⟨r,G,E⟩
theorem YcM (c:UInt8):∃a b,Y4f c=some (a,b):=by
 unfold Y4f;have key :∀(p q:Prop) [Decidable p] [Decidable q],∃b,(if p then some (decide q) else some false:Option Bool)=some b:=fun p q _ _=>by split <;> exact⟨_,rfl⟩
 obtain⟨u,E⟩:=key (48<=c.toNat) (c.toNat<=57);obtain⟨J,K⟩:=key (65<=c.toNat) (c.toNat<=70);obtain⟨N,O⟩:=key (97<=c.toNat) (c.toNat<=102);rw[E,K,O,bsome];cases u
 . rw[l00 l03,bsome];cases J
   . rw[l00 l03,bsome];cases N
     . rw[l00 l03];exact ⟨_,_,rfl⟩
     rw[l01 rfl];exact ⟨_,_,rfl⟩
   rw[l01 rfl];exact ⟨_,_,rfl⟩
 rw[l01 rfl];exact ⟨_,_,rfl⟩
theorem pair_tot (l:Bt):∃a b,Y2I l=some (a,b)/\(b=true->2<=l.length):=by
 unfold Y2I;by_cases h:(l.length:Int)<(2:Int)
 . rw[l01 h];exact ⟨_,_,rfl,fun h=>by cases h⟩
 rw[l00 h];have hx:idx l 0=some l[0]:=by rw[show (0:Int)=((0:Nat):Int) from rfl,idx_nat];exact l06 Om
 have hy:idx l 1=some l[1]:=by rw[show (1:Int)=((1:Nat):Int) from rfl,idx_nat];exact l06 Om
 obtain⟨a,b,u⟩:=YcM l[0];obtain⟨c,d,E⟩:=YcM l[1];rw[hx,bsome,u,bsome];dsimp only;rw[hy,bsome,E,bsome];dsimp only;cases b
 . rw[l00 l03,bsome];exact ⟨_,_,rfl,fun _=>by omega⟩
 rw[l01 rfl,bsome];exact ⟨_,_,rfl,fun _=>by omega⟩
theorem YcN (p:Bt)(hp:p.length<=1000000):∀(d i m:Nat) (out:Bt),p.length-i<=d->d<m->i<=p.length->out.length<=i->∃o,Y0R p m out (i:Int)=some o/\o.length<=p.length
 | d,i,0,out,O,U,V,E=>by omega
 | d, i, m+1,out,O,U,V,E=>by
   by_cases hi:i<p.length
   . obtain⟨d,rfl⟩ :∃q,d=q+1:=⟨d-1,by omega⟩
     have hx:=l06 hi;have plain :∃o,((idx p (i:Int)).bind fun J=>(app 1 out ([J]:Bt)).bind fun K=>(chk ((i:Int)+1)).bind fun N=>Y0R p m K N)=some o/\o.length<=p.length:=by
      rw[idx_nat,hx,bsome,app_ok Ol,bsome,chk_succ Om,bsome];exact YcN p hp d (i+1) m _ Om Om Om (by rw[l05,l0R];omega)
     rw[Y0R,l01 Om,idx_nat,hx,bsome];rw[idx_nat,hx] at plain;by_cases u:p[i]=61
     . rw[l01 u,chk_succ Om,bsome,show (i:Int)+3=((i+3:Nat):Int) by omega,chk_ok Om Om,bsome,cut_of (a:=i+1) (b:=min (i+3) p.length) rfl Om Om Om,bsome];obtain⟨a,b,hq,hb⟩:=pair_tot ((p.take (min (i+3) p.length)).drop (i+1));rw[hq,bsome];dsimp only;cases b with
       | true =>
         have h2l:=hb rfl;rw[l08,l0j] at h2l;rw[l01 rfl,app_ok Ol,bsome,show (i:Int)+2=((i+2:Nat):Int) by omega,chk_ok Om Om,bsome,bsome];dsimp only;rw[chk_succ Om,bsome];exact YcN p hp d (i+2+1) m _ Om Om Om (by rw[l05,l0R];omega)
       | false =>
         rw[l00 l03,bsome];dsimp only;rw[idx_nat,hx];exact plain
     rw[l00 u,bsome];dsimp only;rw[idx_nat,hx];exact plain
   obtain rfl:i=p.length:=by omega
   rw[Y0R,l00 Om];exact⟨out,G,E⟩
theorem qpl_tot (p:Bt)(hp:p.length<=1000000):∃o,Y4p p=some o/\o.length<=p.length:=by
 obtain⟨o,E,J⟩:=YcN p hp p.length 0 FU [] Om (FU_gt Om) Om Sm;have u:Y0R p FU [] 0=some o:=E;unfold Y4p;rw[u,bsome];exact⟨o,G,J⟩
theorem ql_L1 :∀(m:Nat) (l out:Bt),l.length<m->out.length+l.length<=48000->∃o,Y1P m l out=some o/\o.length<=out.length+l.length
 | 0,l,out,h,_=>by omega
 | m+1,l,out,h,hl=>by
   rw[Y1P];by_cases h0:l.length=0
   . rw[l00 Om];exact ⟨out,rfl,by omega⟩
   rw[l01 Om];unfold Y1v;rw[bsome];have hix:=Y8i l 10;generalize ixB l 10=z at hix ⊢;have hix : -1<=z/\z<l.length:=by omega
   rw[chk_ok Om Om,bsome];obtain⟨n,hn,a9,K⟩ :∃n:Nat,((if z+1=(0:Int) then some (l.length:Int) else some (z+1)):Option Int)=some (n:Int)/\1<=n/\n<=l.length:=by
    split
    . exact⟨l.length,G,by omega,l0b _⟩
    exact⟨(z+1).toNat,by congr 1;omega,by omega,by omega⟩
   rw[hn,bsome,cut_to rfl K,bsome];have hlt:(l.take n).length=n:=by rw[l0j];omega
   obtain⟨r,Y,t2⟩:=Y9K (l.take n) [10] Om Dc;rw[Y,bsome];obtain⟨E,Z,t4⟩ :∃E,((if (r.length:Int)<(n:Int) then(Y0y r ([13]:Bt)).bind fun N=>some N else some r):Option Bt)=some E/\E.length<=n:=by
    split
    . obtain⟨E,a1,a2⟩:=Y9K r [13] Om Dc;exact⟨E,by rw[a1,bsome],by omega⟩
    exact⟨r,G,by omega⟩
   obtain⟨J,t5,t6⟩:=Ybm E Om;obtain⟨b,t7,t8⟩:=YcL J [61] Om Dc;rw[Z,bsome,cut_of rfl rfl Om Om,bsome,t5,bsome,t7,bsome];have hcl:((l.take n).drop E.length).length=n-E.length:=by rw[l08,hlt]
   obtain⟨u,v,t9,aa⟩ :∃u v:Bt,((if b=true then(chk ((J.length:Int)-1)).bind fun O=>(cut J 0 O).bind fun U=>some (U,[]) else some (J,(l.take n).drop E.length)):Option (Bt × Bt))=some (u,v)/\u.length+v.length<=n:=by
    cases b with
    | true =>
      have:=t8 rfl;simp only[l04,l0d] at this;rw[l01 rfl,show (J.length:Int)-1=((J.length-1:Nat):Int) by omega,chk_ok Om Om,bsome,cut_to rfl Om,bsome];exact⟨_,_,G,by rw[l0j,l0d];omega⟩
    | false =>
      rw[l00 l03];exact⟨_,_,G,by omega⟩
   rw[t9,bsome];dsimp only;obtain⟨w,V,ab⟩:=qpl_tot u Om;rw[V,bsome,app_ok Om,bsome,app_ok (by rw[l05];omega),bsome,cut_from rfl K,bsome];obtain⟨o,o1,o2⟩:=ql_L1 m (l.drop n) (out++w++v) Ox (by simp only[l05,l08];omega);exact⟨o,o1,by simp only[l05,l08] at o2;omega⟩
theorem ql_tot (p:Bt)(hp:p.length<=12000):∃l,Y3D p=some (l,(0,0))/\l.length<=12000:=by
 obtain⟨o,u,E⟩:=ql_L1 FU p [] (FU_gt Om) Ow;unfold Y3D;rw[l00 Om,u,bsome,Y2Q,bsome];exact⟨o,G,by simp at E;omega⟩
theorem find_tot (n:Bt)(hn:Big n):∃s k ok,Y4B n=some (s,k,ok)/\(ok=true->k=1∨k=2∨k=3):=by
 have hL :∀l:List (Bt × Nat),(∀c∈l,Big c.1/\(c.2=1∨c.2=2∨c.2=3))->∃s k ok,Y2g n l=some (s,k,ok)/\(ok=true->k=1∨k=2∨k=3):=by
  intro l;induction l with
  | nil=>intro _;exact ⟨_,_,_,rfl,fun h=>by cases h⟩
  | cons c l ih =>
    intro h;obtain⟨u,E⟩:=h c (l0o ..);rw[Y2g,Y3p u hn,bsome];split
    . exact⟨_,_,_,G,fun _=>E⟩
    exact ih (fun d hd=>h d (l0t _ hd))
 exact hL _ (by
  intro c hc;simp only[l0k,l1x,or_false] at hc;rcases hc with rfl|rfl|rfl|rfl
  . exact⟨by decide, .inl G⟩
  . exact⟨by decide, .inl G⟩
  . exact⟨by decide, .inr (.inl G)⟩
  exact⟨by decide, .inr (.inr G)⟩)
theorem YcO (p n:Bt)(hp:p.length<=12000)(hn:Big n):∃l c i,Y2P p n=some (l,(c,i))/\l.length<=12000:=by
 obtain⟨s,k,ok,J,K⟩:=find_tot n hn;unfold Y2P Y4c;rw[J,bsome];dsimp only;cases ok with
 | false =>
   rw[l00 l03,Y0Z,bsome,bsome];dsimp only;rw[Y0t,bsome,l01 Dc];exact⟨_,_,_,G,l0x _⟩
 | true =>
   rw[l01 rfl,l00 Om,Y2Q,bsome,bsome];dsimp only;rw[Y0t,bsome,l00 Dc];unfold Y5Y;rcases K rfl with rfl|rfl|rfl
   . rw[l01 rfl];unfold Y41;rw[app_ok Ol,bsome,Y2Q,bsome];exact⟨_,_,_,G,by rw[l07];exact hp⟩
   . rw[l00 Dc,l01 rfl];obtain⟨l,u,E⟩:=b64_tot p hp;exact⟨l,_,_,u,E⟩
   rw[l00 Dc,l00 Dc,l01 rfl];obtain⟨l,u,E⟩:=ql_tot p hp;exact⟨l,_,_,u,E⟩
theorem Yak (p:P3)(h:BF p.1)(hb:p.2.1.length<=12000):∃l,Y3R p=some l/\l.length<=12000:=by
 have hL :∀(d i m:Nat),p.1.length-i<=d->d<m->i<=p.1.length->∃o,Y0S p m (i:Int)=some o/\∀l,o = .inr l->l.length<=12000:=by
  intro d;induction d with
  | zero =>
    intro i m E J V;obtain⟨m,rfl⟩ :∃k,m=k+1:=⟨m-1,by omega⟩
    obtain rfl:i=p.1.length:=by omega
    rw[Y0S,l00 Om];exact⟨_,G,fun l hl=>by cases hl⟩
  | succ d ih =>
    intro i m E J V;obtain⟨m,rfl⟩ :∃k,m=k+1:=⟨m-1,by omega⟩
    by_cases hi:i<p.1.length
    . have hx:=h.big _ (l0N hi);have O:=h.1;rw[Y0S,l01 Om,idx_nat,l06 hi,bsome,Y3p hx.1 Dc,bsome,chk_succ Om];split
      . obtain⟨l,c,j,K,N⟩:=YcO p.2.1 p.1[i].2 hb hx.2;rw[K,bsome];dsimp only;split
        . rw[bsome];exact ih (i+1) m Om Om Om
        exact⟨_,G,fun l' hl'=>by cases hl';exact N⟩
      rw[bsome];exact ih (i+1) m Om Om Om
    obtain rfl:i=p.1.length:=by omega
    rw[Y0S,l00 Om];exact⟨_,G,fun l hl=>by cases hl⟩
 have O:=h.1;obtain⟨o,E,J⟩:=hL p.1.length 0 FU Om (FU_gt Om) Om;have U:Y0S p FU 0=some o:=E;unfold Y3R;rw[U,bsome];cases o with
 | inl u =>
   obtain⟨l,c,j,K,N⟩:=YcO p.2.1 [55,98,105,116] hb Dc;dsimp only;rw[K,bsome];exact⟨l,G,N⟩
 | inr l=>exact⟨l,rfl,J l rfl⟩
theorem sp_L2 :∀(k m:Nat) (l o:Bt) (n:Nat),l.length<=k->k<m->o.length+2*n+l.length<=12000->
 ∃(l' o':Bt) (n':Nat),Y0Q (stepY goOn Y1N) ([13,10]:Bt) 0 m l (o,(n:Int))=some (.inl (l',(o',(n':Int))))/\o'.length+2*n'+l'.length<=12000:=by
 intro k;induction k using Nat.strongRecOn with
 | _ k ih =>
   intro m l o n E J u;obtain⟨m,rfl⟩ :∃k,m=k+1:=⟨m-1,by omega⟩
   rw[Y0Q];unfold Y2U;rw[l01 ⟨by decide,by omega,by decide⟩,bsome];have hge:=Lib.index_ge l [13,10];by_cases hi:Lib.index l [13,10]<0
   . rw[l01 hi];exact⟨l,o,n,G,u⟩
   rw[l00 hi];obtain⟨j,hj⟩ :∃j:Nat,Lib.index l [13,10]=(j:Int):=⟨(Lib.index l [13,10]).toNat,by omega⟩
   have hb:=Go.Ph.Sg.Y7N l [13,10] hj;simp only[l04,l0d] at hb;rw[hj,chk_ok Om Om,bsome,Int.add_zero,cut_to rfl Om,bsome,Go.Ph.Sg.YbV,bsome];obtain⟨o',n',hs,hl⟩:=Go.Ph.Sg.YaC (l.take j) o n (by rw[l0j];omega) Om Om;rw[l0j] at hl;unfold stepY goOn;rw[l00 l03,hs];rw[l0Y,bsome];dsimp only;rw[l01 Kf,show ((j:Int)+(([13,10]:Bt).length:Int))=((j+2:Nat):Int) by simp,chk_ok Om Om,bsome,cut_from rfl Om,bsome];have:=ih (l.length-(j+2)) Om m (l.drop (j+2)) o' n' Ox Om Ox;unfold stepY goOn at this;exact this
theorem YcP (b:Bt)(hb:b.length<=12000):∃r,Y32 b=some r/\r.length<=12002:=by
 unfold Y32 Y3H;rw[l00 Dc];obtain⟨l',o',n',E,K⟩:=sp_L2 b.length FU b [] 0 (l0b _) (FU_gt Om) Ow;have u:Y0Q (stepY goOn Y1N) ([13,10]:Bt) 0 FU b ([],0)=some (.inl (l',(o',(n':Int)))):=E;rw[u,bsome];dsimp only;rw[Go.Ph.Sg.YbV,bsome];obtain⟨J,N,hs,hl⟩:=Go.Ph.Sg.YaC l' o' n' Om Om Om;unfold stepY goOn;rw[l00 l03,hs,l0Y,bsome];dsimp only;rw[bsome];exact⟨J,G,by omega⟩
end Go.Ph.Pt
end
section
namespace Go.Ph.Pt
open Go.Ph.Pl Go.Ph.Pf
open Go.Ph.Chs (lowB lower)
open Go.Ph.Hd (valR readR headB fieldB)
theorem fL1_tot (l:List Fld)(h:(valR l).1=0):∃r,Y0C l FU [] 0=some r/\r.length<=250000:=by
 obtain⟨J,Y,K⟩:=Go.Ph.Sg.okL_of h;have hL :∀(d i m:Nat) (o:Bt),l.length-i<=d->d<m->i<=l.length->o.length<=4100*i->∃r,Y0C l m o (i:Int)=some r/\r.length<=4100*l.length:=by
  intro d;induction d with
  | zero =>
    intro i m o N O U u;obtain⟨m,rfl⟩ :∃k,m=k+1:=⟨m-1,by omega⟩
    obtain rfl:i=l.length:=by omega
    rw[Y0C,l00 Om];exact⟨o,G,u⟩
  | succ d ih =>
    intro i m o N O U u;obtain⟨m,rfl⟩ :∃k,m=k+1:=⟨m-1,by omega⟩
    by_cases hi:i<l.length
    . have hx:=K _ (l0N hi);have hk:=J _ (l0N hi);rw[Y0C,l01 Om,idx_nat,l06 hi,bsome,Y3p hx.1 Dc,Y3p hx.1 Dc,bsome,bsome,chk_succ Om];obtain⟨b,hb⟩ :∃b,((if decide (lower l[i].1=lower [82,101,99,101,105,118,101,100])=true then some false else some (!decide (lower l[i].1=lower [67,111,110,116,101,110,116,45,84,114,97,110,115,102,101,114,45,69,110,99,111,100,105,110,103])):Option Bool))=some b:=by split <;> exact⟨_,rfl⟩
      rw[hb,bsome];cases b with
      | true =>
        obtain⟨s,E,V⟩:=Go.Ph.Sg.Ybe l[i] hk.1 hk.2;rw[l01 rfl,E,bsome,app_ok Om,bsome,bsome];exact ih (i+1) m _ Om Om Om (by rw[l05];omega)
      | false =>
        rw[l00 l03,bsome];exact ih (i+1) m o Om Om Om Om
    obtain rfl:i=l.length:=by omega
    rw[Y0C,l00 Om];exact⟨o,G,u⟩
 obtain⟨r,E,V⟩:=hL l.length 0 FU [] Om (FU_gt Om) Om Sm;exact⟨r,E,by omega⟩
theorem Y54 (n:Int):(itoaP n).length<=21:=Go.Ph.Md.Y54 n
theorem Y6C (n:Nat)(h:n<=9223372036854775807):strconv_Itoa (n:Int)=some (itoaP n):=Go.Ph.Md.Y6C n h
def fY (s:Bt)(v:V4):Option Bt:=Y0w s (0,(v.1,v.2.1,v.2.2.1))
theorem fY_tot (s:Bt)(v:V4)(hs:s.length<=100000000)(u:BF v.1)(E:v.2.1.length<=12000)(O:v.2.2.1.length<=40)(J:(valR v.1).1=0):∃r,fY s v=some r/\r.length<=s.length+300000:=by
 obtain⟨l,b,c,d⟩:=v;dsimp only at u E O J;unfold fY Y0w;dsimp only;obtain⟨f,U,f2⟩:=fL1_tot l J;rw[U,bsome];obtain⟨t,V,t2⟩ :∃t,((if (c.length:Int)=(0:Int) then(Y3R (l,b,c)).bind fun K=>(Y32 K).bind fun N=>some N else some []):Option Bt)=some t/\t.length<=12002:=by
  split
  . obtain⟨x,Y,Z⟩:=Yak (l,b,c) u E;obtain⟨y,y1,y2⟩:=YcP x Z;exact⟨y,by rw[Y,bsome,y1,bsome],y2⟩
  exact⟨[],G,l0x _⟩
 have i1:=Y54 c.length;have i2:=Y54 f.length;have i3:=Y54 t.length;rw[V,bsome,Y6C _ Om,bsome,cat_ok Ol,bsome,Y6C _ Om,bsome,cat_ok Ol,bsome,cat_ok Ol,bsome,Y6C _ Om,bsome,
  cat_ok Ol,bsome,cat_ok Ol,bsome,app_ok Ol,bsome,app_ok Ol,bsome,app_ok Ol,bsome]
 exact⟨_,G,by simp only[l05,l04,l0d];omega⟩
def frm : List V4->Bt->Option Bt
 | [],s=>some s
 | v::l,s=>(fY s v).bind fun s'=>frm l s'
theorem YcQ :∀(l:List V4) (n:Int) (s:Bt),runL (stepY exStop fun(s:Bt × Nat) (x:Int × V4)=>(stepY goOn Y0w s.1 (x.1,(x.2.1,x.2.2.1,x.2.2.2.1))).bind fun r=>some (r.1,if r.2=true then 0 else 1)) (Y0A n l) (s,0)=(frm l s).map fun s'=>(s',0)
 | [],n,s=>rfl
 | v :: l,n,s=>by
   obtain⟨a,b,c,d⟩:=v;rw[Y0A,runL,frm];have hf:Y0w s (n,(a,b,c))=fY s (a,b,c,d):=rfl;have hs:stepY exStop (fun(s:Bt × Nat) (x:Int × V4)=>(stepY goOn Y0w s.1 (x.1,(x.2.1,x.2.2.1,x.2.2.2.1))).bind fun r=>some (r.1,if r.2=true then 0 else 1)) (s,0) (n,a,b,c,d)=(fY s (a,b,c,d)).map fun s'=>((s',0),true):=by
    rw[stepY,l00 (by simp [exStop]),stepY,l00 (by simp [goOn]),hf];cases fY s (a,b,c,d) with
    | none=>rfl
    | some s'=>simp [exStop,goOn]
   rw[hs];cases u:fY s (a,b,c,d) with
   | none=>rfl
   | some s' =>
     rw[l0Y,bsome,bsome];dsimp only;rw[l01 rfl,YcQ l (n+1) s']
theorem form_all {p:P3}{l:List V4}(h:Y0i FU 0 p=some l)(hl:l.length<=1000):Y4e p Bt (stepY goOn Y0w) []=frm l []:=by
 unfold Y4e;rw[Yaj h hl,YcQ];cases frm l [] with
 | none=>rfl
 | some s=>rfl
theorem Yal :∀(l:List V4) (s:Bt),(∀v∈l,BF v.1/\v.2.1.length<=12000/\v.2.2.1.length<=40/\(valR v.1).1=0)->s.length+300000*l.length<=100000000->∃r,frm l s=some r/\r.length<=100000000
 | [],s,h,hs=>⟨s,rfl,by simpa using hs⟩
 | v::l,s,h,hs=>by
   rw[l04] at hs;obtain⟨a,b,c,d⟩:=h v (l0o ..);obtain⟨r,u,E⟩:=fY_tot s v Om a b c d;rw[frm,u,bsome];exact Yal l r (fun w hw=>h w (l0t _ hw)) Om
theorem Yam {m:List Fld × Bt}{p:P3}{l:List V4}(hs:Y2D m=some (p,(0,0)))(h:Y0i FU 0 p=some l)(hl:l.length<=1000):Y1c m=(frm l []).map fun s=>(s,(0,0)):=by
 unfold Y1c;obtain⟨u,E,J⟩:=p;rw[show (m.1,m.2)=m from rfl,hs,bsome];dsimp only;rw[Y0t,bsome,l00 Dc,show Y65 (u,E,J)=some (u,E,J) from rfl,bsome];dsimp only;rw[form_all h hl,Y2Q];cases frm l [] with
 | none=>rfl
 | some s=>rfl
theorem Y6E {p:P3}(ht:Tr 8 p)(hz:sz 8 p<=40)(hv:Y1T p=some (0,0)):∃l,Y0i FU 0 p=some l/\Y0i 9 0 p=some l/\l.length<=40/\∀v∈l,BF v.1/\v.2.1.length<=12000/\v.2.2.1.length<=40/\(valR v.1).1=0/\Y1C v=some 0/\v.2.2.2<=8/\0<=v.2.2.2:=by
 obtain⟨l,E,l2,l3,u⟩:=YcG Dc ht;obtain⟨c,i,J,N⟩:=YcK E Om (fun v hw=>⟨(u v hw).1,(u v hw).2.1⟩);rw[hv] at J;cases J;obtain⟨_,O,K⟩:=N rfl;refine⟨l,E,l2,by omega,fun v hw=>?_⟩;obtain⟨a,b,c,d,e⟩:=u v hw;exact⟨a,b,c,(Y7d a b (K v hw)).1,K v hw,O v hw,d⟩
theorem crAt (p : Bt) (hp : p.length ≤ 1000000) (i : Nat) (hi : i < p.length) : ((if p[i] = 13 then (chk ((i : Int) + 1)).bind fun n12 => (if n12 < (p.length : Int) then (chk ((i : Int) + 1)).bind fun n14 => (idx p n14).bind fun c15 => some (decide (c15 = 10)) else some false) else some false) : Option Bool) = some (decide (p[i] = 13 ∧ p[i + 1]? = some 10)) := by
  by_cases h : p[i] = 13
  · rw [if_pos h, chk_succ (by omega), bsome]
    by_cases h2 : i + 1 < p.length
    · rw [if_pos (by omega), bsome, idx_nat, List.getElem?_eq_getElem h2, bsome]
      simp [h]
    · rw [if_neg (by omega), List.getElem?_eq_none (by omega)]
      simp
  · rw [if_neg h]; simp [h]
theorem Yao (p:Bt)(hp:p.length<=1000000){c:Int}:∀(d i m:Nat) (col:Int),p.length-i<=d->i<=p.length->Y0g p m col (i:Int)=some (.inr c)->c=11∨c=1
  | d, i, 0, col, h1, h2, h => by rw [Y0g] at h; cases h
  | d, i, m + 1, col, h1, h2, h => by
    by_cases hi : i < p.length
    · obtain ⟨d, rfl⟩ : ∃ q, d = q + 1 := ⟨d - 1, by omega⟩
      rw [Y0g, if_pos (by omega), idx_nat, List.getElem?_eq_getElem hi, bsome, crAt p hp i hi, bsome] at h
      by_cases hc : p[i] = 13 ∧ p[i + 1]? = some 10
      · have hl : i + 1 < p.length := (List.getElem?_eq_some_iff.1 hc.2).1
        rw [decide_eq_true hc, if_pos rfl, chk_succ (by omega), bsome, chk_succ (by omega), bsome] at h
        exact Yao p hp d (i + 1 + 1) m 0 (by omega) (by omega) h
      · rw [decide_eq_false hc, if_neg Bool.false_ne_true] at h
        obtain ⟨b, _, h⟩ := bnd h
        cases b with
        | true => rw [if_pos rfl] at h; cases h; exact .inl rfl
        | false =>
          rw [if_neg Bool.false_ne_true] at h
          obtain ⟨n26, h26, h⟩ := bnd h
          by_cases h99 : (998 : Int) < n26
          · rw [if_pos h99] at h; cases h; exact .inr rfl
          · rw [if_neg h99, chk_succ (by omega), bsome] at h
            exact Yao p hp d (i + 1) m n26 (by omega) (by omega) h
    · obtain rfl : i = p.length := by omega
      rw [Y0g, if_neg (by omega)] at h
      cases h
theorem YcR (p:Bt)(hp:p.length<=1000000){c:Int}(h:Y2K p=some c):c=0∨c=11∨c=1:=by
 unfold Y2K at h;obtain⟨o,E,h⟩:=bnd h;cases o with
 | inl u=>exact .inl (oI h).symm
 | inr r =>
   dsimp only at h;rw[oI h] at E;exact .inr (Yao p hp p.length 0 FU 0 Om Om E)
theorem Y91 {m:List Fld × Bt}(hb:BigF m.1)(hm:m.2.length<=140737488355328){b:Int}(h:Y0G m=some (0,b)):(valR m.1).1=0/\(headB m.1++m.2).length<=12000/\Y2K m.2=some 0/\b=0/\Y29 m=some (headB m.1++m.2):=by
 obtain⟨a',b',N,O⟩:=Go.Ph.Sg.mvalid m hb hm;rw[h] at N;cases N;obtain⟨E,U⟩:=O rfl;obtain⟨_,_,_⟩:=Go.Ph.Hd.Y4q E;have hz:=(Go.Ph.Hd.Y4q E).1;have hw:=Go.Ph.Sg.mw_eq m E hm;have he:m.1.flatMap fieldB++[13,10]++m.2=headB m.1++m.2:=rfl;rw[he] at hw;unfold Y0G at h;rw[Go.Ph.Hd.Y3o m.1 hb,bsome,hz] at h;dsimp only at h;rw[Y0t,bsome,l00 Dc,show (m.1,m.2)=m from rfl,hw,bsome] at h;by_cases J:(12000:Int)<((headB m.1++m.2).length:Int)
 . rw[l01 J,Y0Z,bsome] at h;cases h
 rw[l00 J] at h;obtain⟨c,hc⟩:=Y9I m.2 U;unfold Y3g at h;rw[hc,bsome] at h;by_cases u:c=11
 . rw[l01 u,Y0Z,bsome,bsome] at h;cases h
 rw[l00 u] at h;by_cases K:c=1
 . rw[l01 K,Y0Z,bsome,bsome] at h;cases h
 rw[l00 K,Y2Q,bsome,bsome] at h;cases h;refine⟨E,by omega,?_,G,hw⟩;rw[hc];have:=YcR m.2 Om hc;rcases this with rfl|rfl|rfl
 . rfl
 . exact absurd G u
 exact absurd G K
theorem ml_ex : Y3W=some true:=by decide +kernel
end Go.Ph.Pt
end
section
namespace Go.Ph.Pt
open Go.Ph.Pl Go.Ph.Pf
open Go.Ph.Chs (lowB lower vld)
open Go.Ph.Hd (valR readR headB fieldB)
open Go.Ph.Md (prsR parR valM printR mediaT prB tkB tkT paramT pfz pf1 smP)
open Go.Ph.Fd (bk bk_at Y8K sc Y9Y pt pt_lt fl Y5A Y5t)
theorem YaU (s:Bt):∀(f i best:Nat),0<i->0<best->sc s f i best<=max 78 best
 | 0,i,best,E,u=>by rw[sc];omega
 | f + 1,i,best,E,u=>by
   rw[sc];split
   . split
     . have:=YaU s f (i+1) i Om E;omega
     exact YaU s f (i+1) best Om u
   exact YaU s f (i+1) best Om u
theorem Y92 (s:Bt){j:Nat}(hj:bk s j=true):∀(f i best:Nat),0<i->i<=j->j<i+f->best<=max 78 j->sc s f i best<=max 78 j/\sc s f i best≠0
 | 0,i,best,u,J,K,E=>by omega
 | f + 1,i,best,u,J,K,E=>by
   have keep :∀g b,0<b->sc s g (i+1) b≠0:=fun g b hb=>by
    rcases Go.Ph.Fd.sc_le s g (i+1) b with h|⟨h,_⟩ <;> omega
   rw[sc];by_cases hb:bk s i=true
   . rw[l01 hb];split
     . refine⟨?_,keep f i u⟩;by_cases he:i=j
       . subst he;exact YaU s f (i+1) i Om u
       exact(Y92 s hj f (i+1) i Om Om Om Om).1
     rw[Y9Y s f (i+1) best Om Om];exact⟨E,by omega⟩
   rw[l00 hb];have he:i≠j:=fun e=>hb (e ▸ hj)
   exact Y92 s hj f (i+1) best Om Om Om E
def Gap (s:Bt):Prop :=∀i,i+700<s.length->∃j,i<j/\j<=i+700/\bk s j=true
theorem Gap.drop {s:Bt}(h:Gap s)(a:Nat):Gap (s.drop a):=fun i hi=>by
 rw[l08] at hi;obtain⟨j,E,J,u⟩:=h (a+i) Om;refine⟨j-a,by omega,by omega,?_⟩;rw[Y8K s a (j-a) Om,show a+(j-a)=j by omega];exact u
theorem fl_gap :∀(n:Nat) (s:Bt) (k:Nat),0<k->k<=200->s.length<=n->Gap s->∀a∈fl s k,a.length<=998
 | n,s,k,u,hk,hn,hg,a,ha=>by
   have hpt:998<s.length->pt s k<=900/\pt s k≠0:=fun hl=>by
    obtain⟨j,K,N,E⟩:=hg (k-1) Om;obtain⟨q1,J⟩:=Y92 s E (s.length-k) k 0 u Om Om Om;unfold pt;exact⟨by omega,J⟩
   by_cases h:78<s.length/\pt s k≠0
   . have hp:=pt_lt u h.2;rw[Y5A u h] at ha;rcases l0k.1 ha with rfl|ha
     . rw[l0j];by_cases hl:998<s.length
       . have:=(hpt hl).1;omega
       omega
     cases n with
     | zero=>omega
     | succ n=>exact fl_gap n _ 1 Om Om Ox (hg.drop _) a ha
   rw[Y5t h] at ha;rw[l0O.1 ha];by_cases hl:998<s.length
   . exact absurd ⟨by omega,(hpt hl).2⟩ h
   omega
def Bks (l:List Bt):Prop :=∀x∈l,x.length<=300/\∃r,x=59::32::r
theorem Y8s :∀(l:List Bt) (p:Bt),p.length<=300->Bks l->Gap (p++l.flatten)
 | [],p,hp,hl=>fun i hi=>by rw[List.flatten_nil,l0m] at hi;omega
 | x :: l,p,hp,hl=>fun i hi=>by
   obtain⟨E,r,u⟩:=hl x (l0o ..);rw[l1c] at hi ⊢;by_cases h:i<=p.length
   . refine⟨p.length+1,by omega,by omega,?_⟩;rw[bk_at (a:=59) (b:=32) Om (by rw[l3e,l0L (l0b _),l1D,u];rfl) (by rw[l0L Om,l1Y,u];rfl)];decide
   have ih:=Y8s l x E (fun y hy=>hl y (l0t _ hy)) (i-p.length) (by rw[l05] at hi;omega);obtain⟨j,K,N,J⟩:=ih;refine⟨p.length+j,by omega,by omega,?_⟩;rw[<-Y8K _ _ _ Om,l1X];exact J
theorem Y8t (n:Bt)(hn:n.length<=20):∀(A:List Bt) (i:Nat),(∀p∈A,p.length<=60)->∃l,Go.Ph.Md.exT n i A=l.flatten/\Bks l
 | [],i,h=>⟨[],rfl,fun x hx=>by cases hx⟩
 | p :: A,i,h=>by
   obtain⟨l,u,l2⟩:=Y8t n hn A (i+1) (fun q hq=>h q (l0t _ hq));refine⟨Go.Ph.Md.exU n i p::l,by rw[Go.Ph.Md.exT,u];rfl,fun x hx=>?_⟩;rcases l0k.1 hx with rfl|hx
   . have E:=Go.Ph.Md.Ya5 n i p;have J:=h p (l0o ..);exact⟨by omega,n++([42]++itoaP i++[42,61]++p),by unfold Go.Ph.Md.exU;simp⟩
   exact l2 x hx
theorem Y93 {x:Fld}(u:x.1.length<=20)(E:x.2.length<=500):∃l,paramT x=l.flatten/\Bks l:=by
 unfold paramT;split
 . rename_i h;have:=(Go.Ph.Md.Y4R h).2;exact⟨[[59,32]++x.1++[61]++x.2],by simp,fun y hy=>by rw[l0O.1 hy];exact ⟨by simp;omega,x.1++([61]++x.2),by simp⟩⟩
 split
 . rename_i h;unfold Go.Ph.Md.simp60 at h;rw[l0n,decide_eq_true_eq] at h;have hq:=Go.Ph.Md.Y9u x.2;have hc:Go.Ph.Md.cnt x.2<=x.2.length:=l2l;exact⟨[[59,32]++x.1++[61,34]++Go.Ph.Md.qt x.2++[34]],by simp,fun y hy=>by rw[l0O.1 hy];exact ⟨by simp;omega,x.1++([61,34]++Go.Ph.Md.qt x.2++[34]),by simp⟩⟩
 exact Y8t x.1 u _ 0 (Go.Ph.Md.pieces_len x.2).2
theorem Y7Y :∀(l:List Fld),(∀x∈l,x.1.length<=20/\x.2.length<=500)->∃q,l.flatMap paramT=q.flatten/\Bks q
 | [],h=>⟨[],rfl,fun x hx=>by cases hx⟩
 | x::l,h=>by
   obtain⟨a,u,E⟩:=Y93 (h x (l0o ..)).1 (h x (l0o ..)).2;obtain⟨b,J,K⟩:=Y7Y l (fun y hy=>h y (l0t _ hy));exact⟨a++b,by rw[l0v,u,J,List.flatten_append],fun y hy=>(l1m.1 hy).elim (E y) (K y)⟩
theorem Y9L {c:UInt8}(h:tkB c=true):¬Qp.bl c:=by
 unfold tkB at h;rw[l0n,decide_eq_true_eq] at h;unfold Qp.bl;omega
theorem pr_end {c:UInt8}(h:prB c=true):Pf.endB c=false:=by
 unfold prB at h;rw[decide_eq_true_eq] at h;unfold Pf.endB;rw[decide_eq_false_iff_not];omega
theorem Y9R {m:Med}(hv:(valM m).1=0)(hl:(mediaT m).length<=4000)(he :∀c,(mediaT m).getLast? = some c->tkB c=true){n:Bt}(hn:nmL n=true):(faultR n (mediaT m)).1=0:=by
 obtain⟨u,E,_⟩:=Go.Ph.Md.Y43 hv;have hall:=Go.Ph.Md.Y4T hv;have hval:valB (mediaT m)=true:=by
  unfold valB;rw[l0n,decide_eq_true_eq];refine⟨?_,(Y8h _).2 (.inr ⟨fun c hc=>?_,fun c hc=>Y9L (he c hc)⟩)⟩
  . rw[l3i,l1s];intro c hc;rw[pr_end (l0C.1 (Go.Ph.Md.Yc1 hv) c hc)];exact l03
  obtain⟨a,r,ha⟩:=List.exists_cons_of_ne_nil (Go.Ph.Md.YaO u);unfold mediaT at hc;rw[ha] at hc;simp at hc;subst hc;exact Y9L (Go.Ph.Md.Y4S u a (by rw[ha];exact l0o ..))
 have hcode:codeF n (mediaT m)=0:=by
  unfold codeF;rw[l01 hn,l00 Om,l01 hval]
 unfold faultR;rw[l01 hcode];have J:=Pf.Y5B hn;have hg:Gap (fieldS n (mediaT m)):=by
  obtain⟨q,q1,K⟩:=Y7Y m.2.2 (fun x hx=>⟨(hall x hx).2.1,(hall x hx).2.2.1⟩);have N:=Go.Ph.Md.Y4R u;have O:=Go.Ph.Md.Y4R E;have:=Y8s q (n++[58,32]++m.1++[47]++m.2.1) Ow K;unfold fieldS mediaT;rw[q1];rw[show n++[58,32]++(m.1++[47]++m.2.1++q.flatten)=n++[58,32]++m.1++[47]++m.2.1++q.flatten by simp];exact this
 have hf:(fl (fieldS n (mediaT m)) (n.length+2)).findIdx? Pf.bigL=none:=by
  rw[l2m];intro a ha;have:=fl_gap _ _ _ Om Om (l0b _) hg a ha;unfold Pf.bigL;rw[decide_eq_false_iff_not];omega
 rw[hf]
def bN (n:Nat):Bt:=98::itoaP n
theorem Y9M {n:Nat}(h:n<1000000000):tkT (bN n)=true/\2<=(bN n).length/\(bN n).length<=10/\good (bN n)=true/\vld (bN n)=true:=by
 obtain⟨E,J,K⟩:=Go.Ph.Md.Y7b h;have hp:=l0F.2 J;have ht :∀c∈bN n,tkB c=true:=fun c hc=>by
  rcases l0k.1 hc with rfl|hc
  . decide
  exact Go.Ph.Md.dg_tk c (l0C.1 E c hc)
 have hl:(bN n).length=(itoaP n).length+1:=rfl;have u :∀c∈bN n,c.toNat<128:=fun c hc=>by
  have:=ht c hc;unfold tkB at this;simp only[l0n,decide_eq_true_eq] at this;omega
 refine⟨?_,by omega,by omega,?_,?_⟩
 . unfold tkT;rw[l0C.2 ht,l2d,decide_eq_true_eq];omega
 . unfold good;rw[l0f (show bN n≠ [] from fun e=>by cases e),l0f (show(bN n).length<=60 by omega),Go.Ph.Md.Y9w ht,l2d,l2d,l2d,l3i];unfold sfx32;rw[decide_eq_false_iff_not];intro hg;have:=Y9L (ht 32 (List.mem_of_getLast? hg));exact this (by unfold Qp.bl;decide)
 rw[Go.Ph.Chs.vld_asciis (bN n).length (bN n) (l0b _) (fun i hi=>by
  unfold Go.Ph.Utf.nat;rw[l0Q,l06 hi];exact u _ (l0N hi)),l0I]
 rfl
theorem bN_inj {a b:Nat}(ha:a<1000000000)(hb:b<1000000000)(h:bN a=bN b):a=b:=by
 have u:=(Go.Ph.Md.Ya8 a ha).1;rw[(List.cons.inj h).2,(Go.Ph.Md.Ya8 b hb).1] at u;have:=oI u;omega
def withB (m:Med)(b:Bt):Med:=(m.1,m.2.1,m.2.2++[(nBD,b)])
structure CanB (m:Med):Prop where
 val:(valM m).1=0
 free :∀x∈m.2.2,lower x.1≠lower nBD
 few:m.2.2.length<60
 small:(mediaT m).length<=2000
theorem pfz_app : ∀ (l pre : List Fld) (x : Fld), (pfz pre l).1 = 0 → pf1 (pre ++ l) x = 0 → (pfz pre (l ++ [x])).1 = 0
  | [], pre, x, h, h2 => by rw [List.append_nil] at h2; rw [List.nil_append, pfz, if_pos h2, pfz]
  | y :: l, pre, x, h, h2 => by
    rw [pfz] at h
    by_cases hy : pf1 pre y = 0
    · rw [if_pos hy] at h
      rw [List.cons_append, pfz, if_pos hy]
      exact pfz_app l (pre ++ [y]) x h (by rw [List.append_assoc]; exact h2)
    · rw [if_neg hy] at h; exact absurd h hy
theorem YcS {m:Med}(h:CanB m){b:Bt}(hl:b.length<=10)(hv:vld b=true):(valM (withB m b)).1=0:=by
 obtain⟨u,E,K,J,_⟩:=Go.Ph.Md.Y43 h.val;have hp:(pfz [] (m.2.2++[(nBD,b)])).1=0:=by
  refine pfz_app _ _ _ J ?_;unfold pf1;rw[l01 ⟨show tkT nBD=true by decide,show nBD.length<=20 by decide⟩,l07,l00,l00 (by dsimp only;omega),l01 hv];intro hc;obtain⟨x,hx,hs⟩:=l2i.1 hc;unfold smP at hs;exact h.free x hx (of_decide_eq_true hs)
 have hfew:=h.few;unfold valM withB;dsimp only;rw[l01 ⟨u,E⟩,l00 (by rw[l05,l0R];omega)];exact hp
theorem Ybq {m:Med}{b:Bt}(ht:tkT b=true):mediaT (withB m b)=mediaT m++([59,32]++nBD++[61]++b):=by
 unfold mediaT withB;dsimp only;rw[l1P,l0v,l1L,l0m,show paramT (nBD,b)=[59,32]++nBD++[61]++b by unfold paramT;rw [l01 ht],<-l0s]
theorem YaV {m:Med}(hv:(valM m).1=0)(hl:(mediaT m).length<=4000):printR m=(mediaT m,(0,0)):=by
 unfold printR;rw[l01 hv,l00 Om]
theorem prs_of {m:Med}(hv:(valM m).1=0)(hl:(mediaT m).length<=4000):prsR (mediaT m)=(m,(0,0)):=by
 unfold prsR;rw[l00 Om,Go.Ph.Md.Ybl hv];dsimp only;rw[l01 hv]
theorem Y6S {m:Med}(h:CanB m){n:Nat}(hn:n<1000000000):(valM (withB m (bN n))).1=0/\(mediaT (withB m (bN n))).length<=2030/\∀k:Bt,nmL k=true->(faultR k (mediaT (withB m (bN n)))).1=0:=by
 obtain⟨u,K,E,N,J⟩:=Y9M hn;have hv:=YcS h E J;have ht:=Ybq (m:=m) u;have hs:=h.small;have hl:(mediaT (withB m (bN n))).length<=2030:=by rw[ht];simp only[l05,l04,l0d];omega
 refine⟨hv,hl,fun k hk=>Y9R hv Om (fun c hc=>?_) hk⟩;rw[ht,l2D,l2D,List.getLast?_eq_some_getLast (Go.Ph.Md.YaO u),l3B,l3B] at hc;cases hc;exact Go.Ph.Md.Y4S u _ (List.getLast_mem _)
end Go.Ph.Pt
end
section
namespace Go.Ph.Pt
open Go.Ph.Pl Go.Ph.Pf
open Go.Ph.Chs (lowB lower vld)
open Go.Ph.Hd (valR readR headB fieldB linesOf crlf ffz Y4q Y5C Y3s Y7L)
open Go.Ph.Md (prsR parR valM printR mediaT prB tkB tkT paramT)
theorem whole_ok {p:P3}(h:BF p.1)(hw:Y3k p=some 0):p.2.1=[]/\∃(k:Nat) (x:Fld) (m:Med),tyI p.1 0 none=some (some k)/\p.1[k]? = some x/\typR p.1=(m,(k:Int),true)/\lower m.1=lower nMP/\CanB m/\x.2=mediaT m:=by
 have hm:=Y8Y p.1;have ho := @Ycy p.1;unfold Y3k at hw;rw[Y7V _ h.len h.big,bsome] at hw;generalize typR p.1=t at hm ho hw ⊢;obtain⟨⟨u,E,l3⟩,Z,b5⟩:=t;dsimp only at hm ho hw ⊢;by_cases O:(0:Int)<(p.2.1.length:Int)
 . rw[l01 O,bsome,l01 rfl] at hw;cases hw
 rw[l00 O] at hw;refine⟨List.length_eq_zero_iff.1 Om,?_⟩;cases b5 with
 | false=>rw[l00 l03,bsome,l01 rfl] at hw;cases hw
 | true =>
   obtain⟨k,x,hk,hx,hp,he⟩:=ho rfl;have hn:Z=(k:Int):=l02 (fun z=>z.2.1) he;have hmx:(u,E,l3)=(prsR x.2).1:=l02 (fun z=>z.1) he;subst hn;have hv:=(prs_ok hp).1;rw[<-hmx] at hv;rw[l01 rfl,Y3p hm.1.1 Dc,bsome,bsome] at hw;by_cases J:lower u=lower nMP
   . rw [l0f J,l00 Dc,Ycz _ _ hm.1 Dc,bsome] at hw;unfold prmR at hw;rw[l01 hv] at hw;dsimp only at hw;rw[Go.Ph.Md.Y7n _ hm.1,bsome] at hw;have hpr := @Y9H (u,E,l3);generalize printR (u,E,l3)=r at hw hpr;obtain⟨U,r2,r3⟩:=r;dsimp only at hw hpr;rw[Y0t,idx_nat,hx] at hw;cases hb:(parR (u,E,l3) nBD).2 with
     | true=>rw[show (parR (u,E,l3) [98,111,117,110,100,97,114,121]).2=true from hb,l01 rfl,bsome,l01 rfl] at hw;cases hw
     | false =>
       rw[show (parR (u,E,l3) [98,111,117,110,100,97,114,121]).2=false from hb,l00 l03] at hw;by_cases V:(60:Int)<=(l3.length:Int)
       . rw[l01 V,bsome,l01 rfl] at hw;cases hw
       rw[l00 V,bsome] at hw;by_cases K:r2=0
       . rw[l0f K,l00 Dc,bsome] at hw;by_cases N:U=x.2
         . rw[l01 N,bsome] at hw;by_cases c4:(2000:Int)<(U.length:Int)
           . rw[l0f c4,l01 rfl] at hw;cases hw
           obtain⟨q1,q2,Y⟩:=hpr K;refine⟨k,x,(u,E,l3),hk,hx,G,J,⟨hv,?_,by dsimp only;omega,by rw[<-Y];omega⟩,by rw[<-N,Y]⟩;intro y hy hly;unfold parR at hb;cases hf:(u,E,l3).2.2.find? (fun x=>decide (lower x.1=lower nBD)) with
           | some z=>rw[hf] at hb;cases hb
           | none =>
             have:=List.find?_eq_none.1 hf y hy;rw[l0f hly] at this;exact this G
         rw[l00 N,bsome,l01 rfl] at hw;cases hw
       rw[l0g K,l01 Dc,bsome,l01 rfl] at hw;cases hw
   rw[l0g J,l01 Dc] at hw;cases hw
theorem Y94 {α:Type}:∀{l:List α} {k:Nat} {a:α},l[k]? = some a->l.set k a=l
 | [],k,a,h=>by simp at h
 | x::l,0,a,h=>by simp at h;rw [h];rfl
 | x::l,k+1,a,h=>by rw[l1g] at h;rw [List.set_cons_succ,Y94 h]
def jfld (l:List Fld)(k:Nat)(x:Fld)(m:Med)(b:Bt):List Fld:=l.set k (x.1,mediaT (withB m b))
theorem ffz_of :∀{l:List Fld} {i:Nat},(∀x∈l,(faultR x.1 x.2).1=0)->(ffz i l).1=0
 | [],i,h=>rfl
 | x::l,i,h=>by rw[ffz,l01 (h x (l0o ..))];exact ffz_of fun y hy=>h y (l0t _ hy)
theorem valR_of {l:List Fld}(hl:l.length<=60)(h :∀x∈l,(faultR x.1 x.2).1=0):(valR l).1=0:=by
 unfold valR;rw[l00 Om];exact ffz_of h
theorem Y95 {l:List Fld}{k:Nat}{x:Fld}{m:Med}(hk:tyI l 0 none=some (some k))(hx:l[k]? = some x)(hm:CanB m){n:Nat}(hn:n<1000000000):typR (jfld l k x m (bN n))=(withB m (bN n),(k:Int),true):=by
 obtain⟨u,E,_⟩:=Y6S hm hn;have hkl:=(l0c.1 hx).1;have hn':(jfld l k x m (bN n)).map (·.1)=l.map (·.1):=by
  unfold jfld;rw[List.map_set,Y94];rw[l0H,hx];rfl
 unfold typR;rw[Y7U hn',hk];dsimp only;unfold jfld;rw[l2Q hkl];dsimp only;rw[prs_of u Om];rfl
theorem jfld_bd {l:List Fld}{k:Nat}{x:Fld}{m:Med}(hk:tyI l 0 none=some (some k))(hx:l[k]? = some x)(hm:CanB m)(hmp:lower m.1=lower nMP){n:Nat}(hn:n<1000000000):bdR (jfld l k x m (bN n))=(bN n,true):=by
 obtain⟨u,J,_⟩:=Y6S hm hn;obtain⟨_,_,_,E,_⟩:=Y9M hn;have hp:prmR (withB m (bN n)) nBD=(bN n,true,(0,0)):=by
  unfold prmR;rw[l01 u];have:parR (withB m (bN n)) nBD=(bN n,true):=by
   unfold parR withB;dsimp only;rw[List.find?_append,List.find?_eq_none.2 (fun y hy=>by rw[l0g (hm.free y hy)];exact l03),Option.none_or,List.find?_cons_of_pos (by dsimp only;exact l0f rfl)]
  rw[this]
 unfold bdR;rw[Y95 hk hx hm hn];dsimp only;rw[l01 ⟨rfl,hmp⟩,hp];dsimp only;rw[E];rfl
theorem jfld_bar {l:List Fld}{k:Nat}{x:Fld}{m:Med}(hk:tyI l 0 none=some (some k))(hx:l[k]? = some x)(hm:CanB m)(he:x.2=mediaT m){n:Nat}(hn:n<1000000000):barR (jfld l k x m (bN n))=(l,true):=by
 have hkl:=(l0c.1 hx).1;have hs:=hm.small;have hno:noBd (withB m (bN n)).2.2=m.2.2:=by
  unfold noBd withB;dsimp only;rw[l2u,l2J.2 (fun y hy=>by rw[l0g (hm.free y hy)];rfl),l2o (by dsimp only;rw [l0f rfl];decide),List.filter_nil,l0m]
 unfold barR;rw[Y95 hk hx hm hn];dsimp only;rw[hno,show ((withB m (bN n)).1,(withB m (bN n)).2.1,m.2.2)=m from rfl,YaV hm.val Om];dsimp only;rw[l01 rfl,l0q];unfold jfld;rw[l2Q hkl,List.set_set];dsimp only[Option.getD_some];rw[Y94 (by rw[hx,<-he])]
theorem jfld_val {l:List Fld}{k:Nat}{x:Fld}{m:Med}(hv:(valR l).1=0)(hx:l[k]? = some x)(hm:CanB m){n:Nat}(hn:n<1000000000):(valR (jfld l k x m (bN n))).1=0:=by
 obtain⟨_,E,u⟩:=Y4q hv;obtain⟨_,_,J⟩:=Y6S hm hn;unfold jfld;refine valR_of (by rw[l1w];exact E) fun y hy=>?_
 rcases l2C hy with hy|rfl
 . exact u y hy
 exact J x.1 (Y3s (u x (l0S hx))).2.1
theorem pw_L2 (L:List Bt)(o:Bt)(hL :∀a∈L,a.length<=998)(hl:L.length<=5000)(ho:o.length<=1000000):Y1U L FU o 0=some (o++L.flatMap crlf):=by
 rw[Go.Ph.Wd.foldI0 (L:=fun m s i=>Y1U L m s i) L (fun o a=>o++crlf a) id (fun i s=>s.length<=o.length+1000*i) Om ?_ ?_ o Sm,Go.Ph.Wd.Y42]
 . rfl
 . intro m s hs;rw[Y1U,l00 Om];rfl
 intro m s i a ha hs;have hi:=(l0c.1 ha).1;have u:=hL a (l0S ha);refine⟨by unfold crlf;simp only[l05,l04,l0d];omega,?_⟩;rw[Y1U,l01 Om,idx_nat,ha,bsome,app_ok Om,bsome,app_ok Ol,bsome,chk_succ Om,bsome];unfold crlf;rw[l0s]
theorem pw_L1 (l:List Fld)(hl:l.length<=60)(h :∀x∈l,(faultR x.1 x.2).1=0):Y1V l FU [] 0=some (l.flatMap fieldB):=by
 rw[Go.Ph.Wd.foldI0 (L:=fun m s i=>Y1V l m s i) l (fun o x=>o++fieldB x) id (fun i s=>s.length<=13000*i) Om ?_ ?_ [] Sm,Go.Ph.Wd.Y42]
 . rfl
 . intro m s hs;rw[Y1V,l00 Om];rfl
 intro m s i x hx hs;have hi:=(l0c.1 hx).1;have hm:=h x (l0S hx);obtain⟨N,O,U,V⟩:=Y5C hm;obtain⟨u,E,Y,Z,J⟩:=Y3s hm;have K:=Pf.Y5B E;refine⟨by rw[l05];omega,?_⟩;rw[Y1V,l01 Om,idx_nat,hx,bsome,Y50 _ _ (bigL Om) (bigL Om),u,bsome];dsimp only;rw[pw_L2 _ _ J Om Om,bsome,chk_succ Om,bsome];rfl
theorem pw_eq {l:List Fld}(h:(valR l).1=0)(b:Bt)(hb:b.length<=1000000000):Y4I l b=some (headB l++b)/\(headB l).length<=780002:=by
 obtain⟨J,u,E⟩:=Y4q h;have hl:=Y7L u E;unfold Y4I;rw[pw_L1 l u E,bsome,app_ok Ol,bsome,app_ok1 Ol,bsome];refine⟨G,?_⟩;unfold headB;simp only[l05,l04,l0d];omega
end Go.Ph.Pt
end
section
namespace Go.Ph.Pt
open Go.Ph.Pl Go.Ph.Pf
open Go.Ph.Chs (lowB lower vld)
open Go.Ph.Qp (trimR bl)
open Go.Ph.Md (tkB tkT)
theorem Ybr (t:Bt)(ht:t.length<=1000000000):Y2U t [13,10]=some (if crP t<t.length then(crP t:Int) else -1):=by
 unfold Y2U;rw[l01 ⟨by decide,by omega,by decide⟩,YaP]
theorem Y7Z {σ:Type}(Y:σ->(Int × Bt)->Option (σ × Bool))(p:Bt)(hp:p.length<=1000000000):∀(k i m:Nat) (s:σ),p.length-i<=k->k<m->i<=p.length->
 (Y0v Y p m (i:Int) s).map (fun o=>match o with | .inl s=>s | .inr s=>s)=runL Y (lnF k i (p.drop i)) s
 | k,i,0,s,J,K,E=>by omega
 | k, i, m+1,s,J,K,E=>by
   by_cases hi:i<p.length
   . obtain⟨k,rfl⟩ :∃q,k=q+1:=⟨k-1,by omega⟩
     have hne:p.drop i≠ []:=by rw[Ne,l1W];omega
     have hc:=Y7W (p.drop i);have hlen:(p.drop i).length=p.length-i:=l08 ..;have hpos:0<(p.drop i).length:=l0F.2 hne;rw[Y0v,l01 Om,cut_from rfl E,bsome,Ybr _ Om,bsome,lnF,l00 hne,runL];generalize hcp:crP (p.drop i)=c at hc ⊢;by_cases hcl:c<(p.drop i).length
     . obtain⟨N,_⟩:=hc.2 hcl;rw[l01 hcl,l01 Om,show chk ((i:Int)+(c:Int))=some ((i+c:Nat):Int) from chk_addN c Om,bsome,bsome,show ((i+c:Nat):Int)+2=((i+c+2:Nat):Int) by omega,chk_ok Om Om,bsome,bsome];dsimp only;rw[cut_of rfl rfl Om Om,bsome,show (p.take (i+c)).drop i=(p.drop i).take c by rw[l2R];congr 1;omega];cases hy:Y s ((i:Int),(p.drop i).take c) with
       | none=>rfl
       | some r =>
         rw[bsome,bsome];obtain⟨u,b⟩:=r;dsimp only;cases b with
         | true=>rw[l01 rfl,l01 rfl,Y7Z Y p hp k (i+c+2) m u Om Om Om,l0V,l1n i c 2]
         | false=>rw[l00 l03,l00 l03];rfl
     have hce:c=(p.drop i).length:=by omega
     rw[l00 hcl,l00 Dc,bsome];dsimp only;rw[cut_of rfl rfl Om (l0b _),bsome,l0M,hce,l0M];cases hy:Y s ((i:Int),p.drop i) with
     | none=>rfl
     | some r =>
       rw[bsome,bsome];obtain⟨u,b⟩:=r;dsimp only;cases b with
       | true =>
         rw[l01 rfl,l01 rfl,Y7Z Y p hp k p.length m u Om Om (l0b _),l0I,show (p.drop i).drop ((p.drop i).length+2)=[] from l0l Om];cases k with
         | zero=>rfl
         | succ k=>rw[lnF,lnF,l01 rfl,l01 rfl]
       | false=>rw[l00 l03,l00 l03];rfl
   obtain rfl:i=p.length:=by omega
   rw[Y0v,l00 Om,l0I];cases k with
   | zero=>rfl
   | succ k=>rw[lnF,l01 rfl];rfl
theorem YcT {σ:Type}(Y:σ->(Int × Bt)->Option (σ × Bool))(p:Bt)(hp:p.length<=1000000000)(s:σ):Y2w p σ Y s=runL Y (lnL p) s:=by
 have h:=Y7Z Y p hp p.length 0 FU s Om (FU_gt Om) Om;rw[show ((0:Nat):Int)=0 from rfl,l0E] at h;unfold Y2w lnL;rw[<-h];cases Y0v Y p FU 0 s with
 | none=>rfl
 | some o=>cases o <;> rfl
def hasP (s p:Bt):Bool:=decide (s.take p.length=p)
theorem YcU (s p:Bt)(hs:s.length<=1000000000)(hp:p.length<=1000000000):Y1O s p=some (hasP s p):=by
 unfold Y1O Y1t hasP;by_cases h:(p.length:Int)<=(s.length:Int)
 . rw[l01 h,cut_to rfl Om,bsome,bsome,bsome]
 rw[l00 h,bsome,bsome,l0g];intro he;have:=l02 List.length he;rw[l0j] at this;omega
def used (t b:Bt):Bool:=(lnL t).any fun x=>hasP x.2 ([45,45]++b)
theorem YaW (b:Bt)(hb:b.length<=1000):∀ls:List (Int × Bt),(∀x∈ls,x.2.length<=1000000000)->runL (stepY exStop (Y3m b)) ls (false,0)=some (if (ls.any fun x=>hasP x.2 ([45,45]++b))=true then(true,1) else(false,0))
 | [],h=>rfl
 | x :: ls,h=>by
   obtain⟨n,s⟩:=x;have hs:=h _ (l0o ..);rw[runL,stepY,l00 (by simp [exStop]),Y3m];rw[cat_ok Ol,bsome,YcU s _ hs Ol,bsome,l2M];dsimp only;cases hc:hasP s ([45,45]++b) with
   | true=>rfl
   | false =>
     rw[l00 l03,l0Y,bsome];dsimp only;rw[l01 (by simp [exStop]),YaW b hb ls (fun y hy=>h y (l0t _ hy)),l1V]
theorem lnL_len (t:Bt):∀x∈lnL t,x.2.length<=t.length:=fun x hx=>by
 have:=YcC t.length 0 t x hx;omega
theorem used_eq (t b:Bt)(ht:t.length<=1000000000)(hb:b.length<=1000):Y4n t b=some (used t b):=by
 unfold Y4n used;rw[show Y46 t=some t from rfl,bsome,YcT _ t ht,YaW b hb _ (fun x hx=>by have:=lnL_len t x hx;omega),bsome];cases(lnL t).any fun x=>hasP x.2 ([45,45]++b) <;> rfl
theorem usedL_eq (ts:List Bt)(b:Bt)(hl:ts.length<=1000000000)(ht :∀t∈ts,t.length<=1000000000)(hb:b.length<=1000):Y1d ts b=some (ts.any fun t=>used t b):=by
 have hL :∀(d i m:Nat),ts.length-i<=d->d<m->i<=ts.length->∃o,Y0e ts b m (i:Int)=some o/\(((ts.drop i).any fun t=>used t b)=false->o = .inl ())/\(((ts.drop i).any fun t=>used t b)=true->∃k:Nat,o = .inr (k:Int)):=by
  intro d;induction d with
  | zero =>
    intro i m u E J;obtain⟨m,rfl⟩ :∃k,m=k+1:=⟨m-1,by omega⟩
    obtain rfl:i=ts.length:=by omega
    rw[Y0e,l00 Om,l0I];exact⟨_,G,fun _=>G,fun h=>by cases h⟩
  | succ d ih =>
    intro i m u E J;obtain⟨m,rfl⟩ :∃k,m=k+1:=⟨m-1,by omega⟩
    by_cases hi:i<ts.length
    . rw[Y0e,l01 Om,idx_nat,l06 hi,bsome,used_eq _ _ (ht _ (l0N hi)) hb,bsome,l0r hi,l2M];cases hu:used ts[i] b with
      | true=>rw[l01 rfl];exact ⟨_,rfl,fun h=>(by cases h),fun _=>⟨i,rfl⟩⟩
      | false=>rw[l00 l03,chk_succ Om,bsome,l1V];exact ih (i+1) m Om Om Om
    obtain rfl:i=ts.length:=by omega
    rw[Y0e,l00 Om,l0I];exact⟨_,G,fun _=>G,fun h=>by cases h⟩
 obtain⟨o,u,E,J⟩:=hL ts.length 0 FU Om (FU_gt Om) Om;rw[show ((0:Nat):Int)=0 from rfl] at u;rw[l0E] at E J;unfold Y1d Y2r;rw[u,bsome];cases hu:ts.any fun t=>used t b with
 | true =>
   obtain⟨k,rfl⟩:=J hu;dsimp only;rw[bsome,l0f Om]
 | false =>
   rw[E hu];rfl
theorem pigeon {α:Type}[DecidableEq α]:∀(L W:List α),L.Nodup->(∀x∈L,x∈W)->L.length<=W.length
 | [],W,h,hs=>l0x _
 | x::L,W,h,hs=>by
   rw[l3u] at h;have hx:=hs x (l0o ..);have:=pigeon L (W.erase x) h.2 (fun y hy=>(List.mem_erase_of_ne (fun(e:y=x)=>h.1 (e ▸ hy))).2 (hs y (l0t _ hy)));rw[List.length_erase_of_mem hx] at this;have:=List.length_pos_of_mem hx;rw[l04];omega
theorem YcV :∀(k i:Nat) (t:Bt),((lnF k i t).map fun x=>x.2.length+1).sum<=t.length+1
 | 0,i,t=>by rw[lnF];simp
 | k+1,i,t=>by
   rw[lnF];split
   . simp
   have hc:=Y7W t;have ih:=YcV k (i+crP t+2) (t.drop (crP t+2));rw[l0p,l1A];rw[l08] at ih;dsimp only;rw[l0j];by_cases h:crP t<t.length
   . have:=(hc.2 h).1;omega
   rw[l0l Om];cases k with
   | zero=>rw[lnF];simp;omega
   | succ k=>rw[lnF,l01 rfl];simp;omega
def pres (t:Bt):List Bt:=(lnL t).flatMap fun x=>(List.range (x.2.length+1)).map fun j=>x.2.take j
theorem fm_len {α β:Type}(f:α->List β)(g:α->Nat)(hg :∀a,(f a).length=g a):∀l:List α,(l.flatMap f).length=(l.map g).sum
 | []=>rfl
 | a::l=>by rw[l0v,l05,hg,fm_len f g hg l,l0p,l1A]
theorem pres_len (t:Bt):(pres t).length<=t.length+1:=by
 unfold pres;rw[fm_len _ (fun x=>x.2.length+1) (fun x=>by simp)];exact YcV _ _ _
theorem YcW {t b:Bt}(h:used t b=true):[45,45]++b∈pres t:=by
 unfold used at h;obtain⟨x,hx,hp⟩:=l2i.1 h;have hp:=of_decide_eq_true hp;unfold pres;refine l2h.2 ⟨x,hx,l0Z.2 ⟨([45,45]++b).length,?_,hp⟩⟩;rw[l1j];have:=l02 List.length hp;rw[l0j] at this;omega
def tsz (ts:List Bt):Nat:=(ts.map fun t=>t.length+1).sum
theorem YcX {ts:List Bt}{t:Bt}:t∈ts->t.length+1<=tsz ts:=by
 unfold tsz;induction ts with
 | nil=>intro h;cases h
 | cons a ts ih =>
   intro h;rw[l0p,l1A];rcases l0k.1 h with rfl|h
   . omega
   have:=ih h;omega
theorem YcY :∀ts:List Bt,ts.length<=tsz ts
 | []=>l0x _
 | a::ts=>by have:=YcY ts;unfold tsz at this ⊢;rw [l04,l0p,l1A];omega
theorem YaX :∀ts:List Bt,(ts.flatMap pres).length<=tsz ts
 | []=>l0x _
 | a::ts=>by have:=YaX ts;have:=pres_len a;unfold tsz at *;rw [l0v,l05,l0p,l1A];omega
theorem YcZ (ts:List Bt)(h:tsz ts<=900000000):∃n,n<=900000000/\(ts.any fun t=>used t (bN n))=false:=by
 apply Classical.byContradiction;intro hno;have hall :∀n,n<=900000000->∃t∈ts,used t (bN n)=true:=fun n hn=>by
  cases hu:ts.any fun t=>used t (bN n) with
  | false=>exact absurd ⟨n,hn,hu⟩ hno
  | true=>exact l2i.1 hu
 have hn:((List.range (tsz ts+1)).map fun n=>[45,45]++bN n).Nodup:=by
  rw[List.nodup_iff_pairwise_ne,List.pairwise_map];refine List.Pairwise.imp_of_mem ?_ List.nodup_range;intro a b ha hb hab he;rw[l1j] at ha hb;exact hab (bN_inj Om Om (l3h he))
 have:=pigeon _ (ts.flatMap pres) hn (fun x hx=>by
  obtain⟨n,hn,rfl⟩:=l0Z.1 hx;rw[l1j] at hn;obtain⟨t,ht,hu⟩:=hall n Om;exact l2h.2 ⟨t,ht,YcW hu⟩)
 rw[l0w,l2z] at this;have:=YaX ts;omega
theorem Yd0 (ts:List Bt)(h:tsz ts<=900000000):∀(d n m u:Nat),u-n<=d->d<m->n<=u->u<=900000000->(ts.any fun t=>used t (bN u))=false->∃k,k<=900000000/\Y2Y ts m (n:Int)=some (bN k)/\(ts.any fun t=>used t (bN k))=false
 | d,n,0,u,K,N,O,J,E=>by omega
 | d,n,m+1,u,K,N,O,J,E=>by
   have hl:=(Y9M (n:=n) Om).2.2.1;have hil:=Y54 (n:Int);rw[Y2Y,Y6C n Om,bsome,cat_ok Ol,bsome,show ([98]:Bt)++itoaP (n:Int)=bN n from rfl,usedL_eq ts _ (by have:=YcY ts;omega) (fun t ht=>by have:=YcX ht;omega) Om,bsome];cases hu:ts.any fun t=>used t (bN n) with
   | false=>rw[l00 l03];exact ⟨n,by omega,rfl,hu⟩
   | true =>
     have hne:n≠u:=fun e=>by rw[e,E] at hu;cases hu
     obtain⟨d,rfl⟩ :∃q,d=q+1:=⟨d-1,by omega⟩
     rw[l01 rfl,chk_succ Om,bsome];exact Yd0 ts h d (n+1) m u Om Om Om J E
theorem free_ok (ts:List Bt)(h:tsz ts<=900000000):∃n,n<1000000000/\Y5l ts=some (bN n)/\∀t∈ts,used t (bN n)=false:=by
 obtain⟨u,J,K⟩:=YcZ ts h;obtain⟨k,O,E,N⟩:=Yd0 ts h u 0 FU u Om (FU_gt Om) Om J K;rw[show ((0:Nat):Int)=0 from rfl] at E;unfold Y5l;rw[E,bsome];refine⟨k,by omega,G,fun t ht=>?_⟩;have:=l1s.1 N t ht;cases hu:used t (bN k) with
 | false=>rfl
 | true=>exact absurd hu this
def L (i:Nat)(t:Bt):List (Int × Bt):=lnF t.length i t
theorem Y96 :∀(k m i:Nat) (t:Bt),t.length<=k->t.length<=m->lnF k i t=lnF m i t
 | 0,0,i,t,u,E=>rfl
 | 0,m+1,i,t,u,E=>by obtain rfl:t=[]:=l0e Om;rw [lnF,lnF,l01 rfl]
 | k+1,0,i,t,u,E=>by obtain rfl:t=[]:=l0e Om;rw [lnF,lnF,l01 rfl]
 | k+1,m+1,i,t,u,E=>by
   rw[lnF,lnF];by_cases h:t=[]
   . rw[l01 h,l01 h]
   rw[l00 h,l00 h,Y96 k m _ _ Ox Ox]
theorem L_cons {t:Bt}(h:t≠ [])(i:Nat):L i t=((i:Int),t.take (crP t))::L (i+crP t+2) (t.drop (crP t+2)):=by
 have hp:=l0F.2 h;unfold L;rw[Y96 t.length (t.length-1+1) i t (l0b _) Om,lnF,l00 h,Y96 (t.length-1) (t.drop (crP t+2)).length _ _ Ox (l0b _)]
theorem Yap (r:Bt):∀t:Bt,crP (t++13::10::r)=if crP t<t.length then crP t else t.length
 | []=>by rw[l07,Y64,l01 ⟨rfl,rfl⟩];rfl
 | [a]=>by
   rw[show [a]++13::10::r=a::13::10::r from rfl,Y64,l00 (fun h=>absurd h.2 Dc),Y64,l01 ⟨rfl,rfl⟩];rfl
 | a::b::t=>by
   have ih:=Yap r (b::t);rw[show (a::b::t)++13::10::r=a::b::(t++13::10::r) from rfl,Y64,Y64];by_cases h:a=13/\b=10
   . rw[l01 h,l01 h,l01 Sm]
   rw[l00 h,l00 h,show b::(t++13::10::r)=(b::t)++13::10::r from rfl,ih];simp only[l04];split <;> split <;> omega
theorem YaY :∀t:Bt,10∉t->crP t=t.length
 | [],h=>rfl
 | [a],h=>rfl
 | a::b::t,h=>by
   rw[Y64,l00 (fun e=>h (by rw[e.2];simp)),YaY (b::t) (fun e=>h (l0t _ e))];rfl
theorem L_line {a:Bt}(h:10∉a)(r:Bt)(i:Nat):L i (a++13::10::r)=((i:Int),a)::L (i+a.length+2) r:=by
 rw[L_cons Sm,Yap,YaY a h,l00 Om,l1p,show (a++13::10::r).drop (a.length+2)=r by rw[l2g];simp]
theorem L_app {P:Bt->Prop}(hP:P []):∀(n:Nat) (t r:Bt) (i j:Nat),t.length<=n->(∀x∈L j t,P x.2)->∃pre,L i (t++13::10::r)=pre++L (i+t.length+2) r/\∀x∈pre,P x.2
 | n,t,r,i,j,hn,h=>by
   have hc:=Y7W t;rw[L_cons Sm,Yap];by_cases hl:crP t<t.length
   . obtain⟨u,_⟩:=hc.2 hl;have hne:t≠ []:=fun e=>by rw[e] at hl;exact absurd hl (Nat.not_lt_zero _)
     rw[L_cons hne] at h;cases n with
     | zero=>omega
     | succ n =>
       obtain⟨pre,E,J⟩:=L_app hP n (t.drop (crP t+2)) r (i+crP t+2) (j+crP t+2) Ox (fun x hx=>h x (l0t _ hx));rw[l01 hl,l1T Om,List.drop_append_of_le_length u,E,l08,show i+crP t+2+(t.length-(crP t+2))+2=i+t.length+2 by omega];refine⟨_::pre,G,fun x hx=>?_⟩;rcases l0k.1 hx with rfl|hx
       . exact h ((j:Int),t.take (crP t)) (l0o ..)
       exact J x hx
   rw[l00 hl,l1p,show (t++13::10::r).drop (t.length+2)=r by rw[l2g];simp];refine⟨[((i:Int),t)],G,fun x hx=>?_⟩;rw[l0O.1 hx];by_cases hne:t=[]
   . rw[hne];exact hP
   rw[L_cons hne] at h;have:=h (_,t.take (crP t)) (l0o ..);rwa [show crP t=t.length by omega,l0M] at this
theorem Yd1 (l:Bt):trimR l <+: l:=by
 unfold trimR;have:=List.dropWhile_suffix (l:=l.reverse) (fun c=>decide (bl c));have:=List.reverse_prefix.2 this;rwa [List.reverse_reverse] at this
theorem Yd2 {line b:Bt}(h:hasP line ([45,45]++b)=false):knd line b=0:=by
 have key :∀r:Bt,trimR line=([45,45]++b)++r->False:=fun r e=>by
  obtain⟨z,hz⟩:=Yd1 line;have:hasP line ([45,45]++b)=true:=by
   unfold hasP;rw[decide_eq_true_eq,<-hz,e,l0s,l1p]
  rw[h] at this;cases this
 unfold knd sepB Pt.endB;rw[l00 (fun e=>key [] (by rw[e,l0m])),l00 (fun e=>key [45,45] e)]
theorem Y9N (body b:Bt):∀(pre ls:List (Int × Bt)) (st:List Bt × Int),(∀x∈pre,knd x.2 b=0)->cnG body b (pre++ls) st=cnG body b ls st
 | [],ls,st,h=>rfl
 | x::pre,ls,st,h=>by
   have hx:=h x (l0o ..);rw[l09,cnG];have:cnS body b st x=(st,0):=by unfold cnS;rw [l01 hx]
   rw[this,l01 rfl];exact Y9N body b pre ls st fun y hy=>h y (l0t _ hy)
theorem Y8u {l:Bt}(h :∀c,l.getLast? = some c->¬bl c):trimR l=l:=by
 rcases Y35 l with rfl|⟨a,c,rfl⟩
 . rfl
 exact Y53 (h c Sm)
def blk1 (b t:Bt):Bt:=[45,45]++b++[13,10]++t++[13,10]
def endl (b:Bt):Bt:=[45,45]++b++[45,45,13,10]
theorem Yd3 {n:Nat}(hn:n<1000000000):knd ([45,45]++bN n) (bN n)=1/\knd ([45,45]++bN n++[45,45]) (bN n)=2/\10∉bN n:=by
 have ht:=Go.Ph.Md.Y4S (Y9M hn).1;refine⟨?_,?_,fun h=>by have:=ht 10 h;exact absurd this Dc⟩
 . unfold knd sepB;rw[Y8u,l01 rfl];intro c hc;rw[l2D,List.getLast?_eq_some_getLast (fun e=>by cases e),l3B] at hc;cases hc;exact Y9L (ht _ (List.getLast_mem _))
 unfold knd sepB Pt.endB;rw[Y8u,l00 (fun e=>by have:=l02 List.length e;simp at this),l01 rfl];intro c hc;rw[l2D] at hc;have:c=45:=by simpa using hc.symm
 subst this;exact Y9L Dc
theorem Yd4 {n:Nat}(hn:n<1000000000)(body:Bt):∀(ts:List Bt) (done:List Bt) (pre:Bt) (out:List Bt) (fr:Int),(∀t∈ts,used t (bN n)=false)->body=pre++(ts.flatMap (blk1 (bN n))++endl (bN n))->
 ((fr = -1/\out=done)∨(0<=fr/\fr+2<=pre.length/\out++[(body.take (pre.length-2)).drop fr.toNat]=done))->
 (cnG body (bN n) (L pre.length (ts.flatMap (blk1 (bN n))++endl (bN n))) (out,fr)).2=1/\(cnG body (bN n) (L pre.length (ts.flatMap (blk1 (bN n))++endl (bN n))) (out,fr)).1.1=done++ts
 | [],done,pre,out,fr,hu,hb,hst=>by
   obtain⟨K,N,u⟩:=Yd3 hn;have hl:L pre.length (endl (bN n))=[((pre.length:Int),[45,45]++bN n++[45,45])]:=by
    have:=L_line (a:=[45,45]++bN n++[45,45]) (by simp [u]) [] pre.length;rw[show [45,45]++bN n++[45,45]++[13,10]=endl (bN n) by unfold endl;simp] at this;rw[this];rfl
   rw[l1L,l07,hl,cnG];have hs:cnS body (bN n) (out,fr) ((pre.length:Int),[45,45]++bN n++[45,45])=((done,fr),1):=by
    unfold cnS;rw[N,l00 Dc,l01 rfl];dsimp only;rcases hst with ⟨rfl,rfl⟩|⟨E,O,J⟩
    . rw[l00 Dc]
    rw[l01 E,show (max fr ((pre.length:Int)-2)).toNat=pre.length-2 by omega,J]
   rw[hs,l00 (show ¬(1:Nat)=0 by decide),l0m];exact⟨G,G⟩
 | t :: ts,done,pre,out,fr,hu,hb,hst=>by
   obtain⟨K,N,u⟩:=Yd3 hn;have hut:=hu t (l0o ..);have hplain :∀x∈L 0 t,hasP x.2 ([45,45]++bN n)=false:=fun x hx=>by
    have:=l1s.1 hut x hx;cases hc:hasP x.2 ([45,45]++bN n) with
    | false=>rfl
    | true=>exact absurd hc this
   rw[l0v];generalize hR:ts.flatMap (blk1 (bN n))++endl (bN n)=R;have hlen:(blk1 (bN n) t).length=(bN n).length+4+t.length+2:=by unfold blk1;simp;omega
   obtain⟨pl,U,V⟩:=L_app (P:=fun s=>hasP s ([45,45]++bN n)=false) (by simp [hasP]) t.length t R (pre.length+([45,45]++bN n).length+2) 0 (l0b _) hplain;have hpl:(pre++blk1 (bN n) t).length=pre.length+([45,45]++bN n).length+2+t.length+2:=by rw[l05,hlen];simp only[l05,l04,l0d];omega
   have hlines:L pre.length (blk1 (bN n) t++ts.flatMap (blk1 (bN n))++endl (bN n))=((pre.length:Int),[45,45]++bN n)::(pl++L (pre++blk1 (bN n) t).length R):=by
    have:=L_line (a:=[45,45]++bN n) (by simp [u]) (t++13::10::R) pre.length;rw[show blk1 (bN n) t++ts.flatMap (blk1 (bN n))++endl (bN n)=[45,45]++bN n++13::10::(t++13::10::R) by rw[<-hR];unfold blk1;simp,this,U,hpl]
   have hbody:body=pre++blk1 (bN n) t++R:=by rw[hb,l0v,<-hR];simp
   have hbl:body.length=pre.length+((bN n).length+4+t.length+2)+R.length:=by rw[hbody,l05,l05,hlen]
   have hs:cnS body (bN n) (out,fr) ((pre.length:Int),[45,45]++bN n)=((done,((pre.length+(bN n).length+4:Nat):Int)),0):=by
    unfold cnS;rw[K,l00 Dc,l00 Dc];dsimp only;have hm:min ((pre.length:Int)+(([45,45]++bN n:Bt).length:Int)+2) (body.length:Int)=((pre.length+(bN n).length+4:Nat):Int):=by
     rw[hbl];simp only[l05,l04,l0d];omega
    rw[hm];rcases hst with ⟨rfl,rfl⟩|⟨E,O,J⟩
    . rw[l00 Dc]
    rw[l01 E,show (max fr ((pre.length:Int)-2)).toNat=pre.length-2 by omega,J]
   rw[hlines,cnG,hs,l01 rfl,Y9N _ _ _ _ _ (fun x hx=>Yd2 (V x hx)),<-hR];dsimp only;have ih:=Yd4 hn body ts (done++[t]) (pre++blk1 (bN n) t) done ((pre.length+(bN n).length+4:Nat):Int) (fun x hx=>hu x (l0t _ hx)) (by rw[hbody,<-hR]) (.inr ⟨by omega,by rw[l05,hlen];omega,?_⟩)
   . rw[l0s] at ih;exact ih
   congr 2;rw[l05,hlen,l0q,hbody,show pre.length+((bN n).length+4+t.length+2)-2=(pre++([45,45]++bN n++[13,10])++t).length by simp;omega];rw[show pre++blk1 (bN n) t++R=(pre++([45,45]++bN n++[13,10])++t)++([13,10]++R) by unfold blk1;simp,l1p,show pre.length+(bN n).length+4=(pre++([45,45]++bN n++[13,10])).length by simp;omega,l1X]
def bodyOf (b:Bt)(ts:List Bt):Bt:=ts.flatMap (blk1 b)++endl b
theorem Ybs {n:Nat}(hn:n<1000000000)(ts:List Bt)(hu :∀t∈ts,used t (bN n)=false):conR (bodyOf (bN n) ts) (bN n)=ts:=by
 have h:=Yd4 hn (bodyOf (bN n) ts) ts [] [] [] (-1) hu rfl (.inl ⟨rfl,rfl⟩);unfold conR;have hl:lnL (bodyOf (bN n) ts)=L ([]:Bt).length (ts.flatMap (blk1 (bN n))++endl (bN n)):=rfl;rw[hl];dsimp only;rw[l00 (by rw[h.1];decide),h.2];rfl
end Go.Ph.Pt
end
section
namespace Go.Ph.Pt
open Go.Ph.Pl Go.Ph.Pf
open Go.Ph.Chs (lowB lower vld)
open Go.Ph.Hd (valR readR headB fieldB)
open Go.Ph.Md (prsR parR valM printR mediaT)
structure Jn (k:Nat)(p:P3)(f:List Fld)(B:Bt):Prop where
 run :∀m,k<m->Y0V m p=some (f,B)
 val:(valR f).1=0
 size:(headB f++B).length<=800000*sz k p
 back:B.length<=12000->∀(mn:Nat) (f1 f2:Int) (m:Nat),k<m->mn+sz k p<=40->Y0a m ((mn:Int),f1,f2) f B (8-(k:Int))=some (p,true,((mn+sz k p:Nat):Int),f1,f2)
theorem Y80 {l:List Fld}(h:(valR l).1=0):(headB l).length<=780002:=(pw_eq h [] Sm).2
theorem Yd5 {k:Nat}(hk:k<=8){l:List Fld}{b:Bt}(hl:BF l)(hb:b.length<=12000)(hc:Y1C (l,b,[],8-(k:Int))=some 0):Jn k (l,b,[]) l b:=by
 obtain⟨E,u,_⟩:=Y7d (v:=(l,b,[],8-(k:Int))) hl hb hc;have u:=u rfl;dsimp only at E u;have hs:=(Tr.leaf hl hb k).2;have hh:=Y80 E;refine⟨fun m hm=>?_,E,by rw[hs,l05];omega,fun _ mn N O m hm J=>?_⟩
 . obtain⟨m,rfl⟩ :∃q,m=q+1:=⟨m-1,by omega⟩
   rw[Y0V,Y3A];exact l01 G
 obtain⟨m,rfl⟩ :∃q,m=q+1:=⟨m-1,by omega⟩
 have K:=hl.1;rw[hs] at J;rw[Y0a,Y1s];dsimp only;unfold Y0r Y1k;rw[show (mn:Int)+1=((mn+1:Nat):Int) by omega,chk_ok Om Om,bsome,app_ok Ol,bsome,app_ok Ol,bsome,(Y9G l b _ hl.len hl.big Om).1,bsome,l07,l07,u,hs];exact l01 G
theorem YaZ {f:Int->P3->Option (List V4)}{d:Int}:∀{qs:List BT38} {y:List V4},Y1G f d qs=some y->∀q∈qs,∃l,f d q.out=some l/\∀v∈l,v∈y
 | [],y,h,q,hq=>by cases hq
 | a::qs,y,h,q,hq=>by
   rw[Y1G] at h;obtain⟨x,u,h⟩:=bnd h;obtain⟨z,E,h⟩:=bnd h;cases h;rcases l0k.1 hq with rfl|hq
   . exact⟨x,u,fun v hv=>l1m.2 (.inl hv)⟩
   obtain⟨l,J,l2⟩:=YaZ E q hq;exact⟨l,J,fun v hv=>l1m.2 (.inr (l2 v hv))⟩
abbrev GF : Type:=BT38->List Fld × Bt
def tOf (g:GF)(q:BT38):Bt:=headB (g q).1++(g q).2
theorem Y9O {α β:Type}(f:α->β):∀(l:List α) (o:List β),l.foldl (fun o a=>o++[f a]) o=o++l.map f
 | [],o=>by simp
 | a::l,o=>by rw[l1H,Y9O f l];simp
theorem Yd6 {k:Nat}{qs:List BT38}{q:BT38}:q∈qs->sz k q.out<=(qs.map fun q=>sz k q.out).sum:=by
 induction qs with
 | nil=>intro h;cases h
 | cons a qs ih =>
   intro h;rw[l0p,l1A];rcases l0k.1 h with rfl|h
   . omega
   have:=ih h;omega
theorem Yd7 {k:Nat}{qs:List BT38}{g:GF}(hg :∀q∈qs,Jn k q.out (g q).1 (g q).2)(hs:(qs.map fun q=>sz k q.out).sum<=40){m:Nat}(hm:k<m):Y2M (Y0V m) qs=some (qs.map (tOf g)):=by
 have hlen:=Y7X k qs;unfold Y2M;rw[Go.Ph.Wd.foldI0 (L:=fun n s i=>Y0L (Y0V m) qs n s i) qs (fun o q=>o++[tOf g q]) id (fun i s=>s.length=i) Om ?_ ?_ [] rfl,Y9O,bsome]
 . rfl
 . intro n s hn;rw[Y0L,l00 Om];rfl
 intro n s i q hq hn;have hi:=(l0c.1 hq).1;have hmem:=l0S hq;have hj:=hg q hmem;have hz:=Yd6 (k:=k) hmem;have hsz:=hj.size;rw[l05] at hsz;refine⟨by rw[l05,hn];rfl,?_⟩;have hone:Y3z (Y0V m) (q.out.1,q.out.2.1,q.out.2.2)=some (tOf g q):=by
  unfold Y3z;rw[show Y0V m (q.out.1,q.out.2.1,q.out.2.2)=some ((g q).1,(g q).2) from hj.run m hm,bsome];dsimp only;rw[(pw_eq hj.val _ Om).1,bsome];rfl
 rw[Y0L,l01 Om,idx_nat,hq,bsome,hone,bsome,app_ok Ol,bsome,chk_succ Om,bsome]
theorem Yd8 {k:Nat}{g:GF}:∀{qs:List BT38},(∀q∈qs,Jn k q.out (g q).1 (g q).2)->tsz (qs.map (tOf g))<=800001*(qs.map fun q=>sz k q.out).sum
 | [],h=>l0x _
 | q::qs,h=>by
   have ih:=Yd8 (qs:=qs) fun x hx=>h x (l0t _ hx)
   have u:=(h q (l0o ..)).size;have E:=YcE k q.out;unfold tsz at ih ⊢;rw[l0p,l0p,l1A,l0p,l1A];unfold tOf at ih ⊢;omega
theorem Yb0 (b t:Bt):(blk1 b t).length=t.length+b.length+6:=by unfold blk1;simp;omega
theorem Yb1 (b:Bt)(hb:b.length<=10):∀ts:List Bt,(ts.flatMap (blk1 b)).length+ts.length<=tsz ts+16*ts.length
 | []=>by simp
 | t::ts=>by
   have:=Yb1 b hb ts;have:=Yb0 b t;unfold tsz at *;rw[l0v,l05,l0p,l1A,l04];omega
theorem Ybt (ts:List Bt)(b:Bt)(hb:b.length<=10)(ht:tsz ts<=900000000)(hl:ts.length<=40):Y1E ts b FU [] 0=some (ts.flatMap (blk1 b)):=by
 rw[Go.Ph.Wd.foldI0 (L:=fun m s i=>Y1E ts b m s i) ts (fun o t=>o++blk1 b t) id (fun i s=>s.length<=1000000000*i) Om ?_ ?_ [] Sm,Go.Ph.Wd.Y42]
 . rfl
 . intro m s hs;rw[Y1E,l00 Om];rfl
 intro m s i t hi hs;have hil:=(l0c.1 hi).1;have hm:=YcX (l0S hi);have u:=Yb0 b t;refine⟨by rw[l05];omega,?_⟩;rw[Y1E,l01 Om,idx_nat,hi,bsome,cat_ok Ol,bsome,cat_ok Ol,bsome,app_ok1 Ol,bsome,app_ok1 Ol,bsome,app_ok1 Ol,bsome,chk_succ Om,bsome];unfold blk1;simp only[l0s]
theorem Ybu {k:Nat}(hk:k<=8){q:BT38}{f:List Fld}{B:Bt}(hj:Jn k q.out f B)(hs:(headB f++B).length<=12000)(mn:Nat)(u E:Int){m:Nat}(hm:k<m)(J:mn+sz k q.out<=40):
 Y1i (Y0a m) ((mn:Int),u,E) (headB f++B) (8-(k:Int))=some (q.out,true,((mn+sz k q.out:Nat):Int),u,E):=by
 have hz:=YcE k q.out;unfold Y1i;rw[Go.Ph.Hd.Y8P,Go.Ph.Hd.Y9s hj.val B hs,bsome];dsimp only;rw[Y0t,bsome,l00 Dc,l00 Om,cut_from rfl (by rw[l05];omega),bsome,l1X,hj.back (by rw[l05] at hs;omega) mn u E m hm J,bsome]
theorem Y9P {k:Nat}(hk:k+1<=8){qs:List BT38}{g:GF}(hg :∀q∈qs,Jn k q.out (g q).1 (g q).2)(hs :∀q∈qs,(tOf g q).length<=12000){m:Nat}(hm:k<m)(O U:Int)(u:List Fld)(E:Bt)(J:List BT38)(K:List Fld)(N:Bt):
 ∀(d i n mn:Nat) (acc:List BT38),qs.length-i<=d->d<n->i<=qs.length->acc.length<=i->qs.length<=40->mn+((qs.drop i).map fun q=>sz k q.out).sum<=40->
 Y0c (Y0a m) (8-((k+1:Nat):Int)) (qs.map (tOf g)) n (mn:Int) O U u E J K N acc (i:Int)=some (.inl (u,E,J,K,N,acc++qs.drop i,((mn+((qs.drop i).map fun q=>sz k q.out).sum:Nat):Int),O,U))
 | d,i,0,mn,acc,Z,h2,h3,h4,V,Y=>by omega
 | d,i,n+1,mn,acc,Z,h2,h3,h4,V,Y=>by
   have hml:(qs.map (tOf g)).length=qs.length:=l0w ..;by_cases hi:i<qs.length
   . obtain⟨d,rfl⟩ :∃q,d=q+1:=⟨d-1,by omega⟩
     have hq:=l0N hi;rw[drop_cons hi,l0p,l1A] at Y ⊢;have hr:=Ybu (k:=k) Om (hg _ hq) (hs _ hq) mn O U hm Om;rw[Y0c,l01 Om,idx_nat,l0H,l06 hi,l0Y,bsome,show (8:Int)-((k+1:Nat):Int)+1=8-(k:Int) by omega,chk_ok Om Om,bsome,show tOf g qs[i]=headB (g qs[i]).1++(g qs[i]).2 from rfl,hr,bsome];dsimp only;rw[l01 rfl,app_ok Ol,bsome,chk_succ Om,bsome];have hout:BT38.of (qs[i].out.1,qs[i].out.2.1,qs[i].out.2.2)=qs[i]:=by cases qs[i];rfl
     rw[hout,Y9P hk hg hs hm O U u E J K N d (i+1) n (mn+sz k qs[i].out) (acc++[qs[i]]) Om Om Om (by rw[l05,l0R];omega) V Om,l0s,l1z,l1n]
   obtain rfl:i=qs.length:=by omega
   rw[Y0c,l00 Om,l0I];simp
theorem jn_node {k:Nat}(hk:k+1<=8){l:List Fld}{b:Bt}{qs:List BT38}(hne:qs≠ [])(hl:BF l)(hb:b.length<=12000)(hs:(qs.map fun q=>sz k q.out).sum<=39){d:Int}(hc:Y1C (l,b,qs,d)=some 0){g:GF}(hg :∀q∈qs,Jn k q.out (g q).1 (g q).2):∃f B,Jn (k+1) (l,b,qs) f B:=by
 obtain⟨O,_,c3⟩:=Y7d (v:=(l,b,qs,d)) hl hb hc;obtain⟨U,kk,x,K,N,E,V,Y,u,Z⟩:=whole_ok (p:=(l,b,qs)) hl (c3 hne);dsimp only at U N E V Y u Z O;subst U;have hlen:=Y7X k qs;have hpos:=l0F.2 hne;have htz:=Yd8 hg;obtain⟨n,J,n2,n3⟩:=free_ok (qs.map (tOf g)) Om;obtain⟨t1,t2,t3,t4,t5⟩:=Y9M J;obtain⟨v1,v2,v3⟩:=Y6S u J;have ab:=Yag u.val;have a2:=Yag v1;have hml:(qs.map (tOf g)).length=qs.length:=l0w ..;have hbl:=Yb1 (bN n) t3 (qs.map (tOf g));have hel:(endl (bN n)).length=(bN n).length+6:=by unfold endl;simp
 have hfew:=u.few;have hBl:(bodyOf (bN n) (qs.map (tOf g))).length<=800001*(qs.map fun q=>sz k q.out).sum+15*qs.length+16:=by
  unfold bodyOf;rw[l05];omega
 have hkl:=(l0c.1 E).1;have ac:=hl.1;have hval:=jfld_val O E u J;have hBF:BF (jfld l kk x K (bN n)):=BF.of hval;have hh:=Y80 hval;have hszp:sz (k+1) (l,[],qs)=1+(qs.map fun q=>sz k q.out).sum:=rfl;refine⟨jfld l kk x K (bN n),bodyOf (bN n) (qs.map (tOf g)),fun m hm=>?_,hval,by rw[hszp,l05];omega,fun hB mn f1 f2 m hm a3=>?_⟩
 . obtain⟨m,rfl⟩ :∃q,m=q+1:=⟨m-1,by omega⟩
   obtain⟨s1,s2,l3⟩:=K;dsimp only at hfew;rw[Y0V,Y3A];dsimp only;rw[l00 Om,Yd7 hg Om Om,bsome,n2,bsome,Y7V _ hl.len hl.big,V,bsome];dsimp only;unfold Y38 Y0r;rw[app_ok Ol,bsome,app_ok (by simp only[l07,l04,l0d];omega),bsome,app_ok Ol,bsome,l07,l07,show (s1,s2,l3++[(([98,111,117,110,100,97,114,121]:Bt),bN n)])=withB (s1,s2,l3) (bN n) from rfl,Go.Ph.Md.Y7n _ a2.1,YaV v1 Om,bsome];dsimp only;rw[idx_nat,E,bsome,put_ok Om Om,bsome,l0q,Ybt _ _ t3 Om Om,bsome,cat_ok Ol,bsome,cat_ok Ol,bsome,app_ok1 Ol,bsome];rfl
 obtain⟨m,rfl⟩ :∃q,m=q+1:=⟨m-1,by omega⟩
 have hbd:=jfld_bd N E u Y J;have htyp:=Y95 N E u J;have hcon:=Ybs J _ n3;have hce:=(con_eq (bodyOf (bN n) (qs.map (tOf g))) (bN n) Om Om).2.2;have hinn:innR (jfld l kk x K (bN n)) (bodyOf (bN n) (qs.map (tOf g))) (8-((k+1:Nat):Int))=qs.map (tOf g):=by
  unfold innR;rw[hbd,l01 ⟨rfl,by omega⟩];exact hcon
 have hsm :∀q∈qs,(tOf g q).length<=12000:=fun q hq=>by
  have:=hce (tOf g q) (by rw[hcon];exact List.mem_map_of_mem hq);omega
 have hjl:=hBF.1;rw[hszp] at a3 ⊢;rw[Y0a,Y1s];dsimp only;unfold Y0r Y1k;rw[show (mn:Int)+1=((mn+1:Nat):Int) by omega,chk_ok Om Om,bsome,app_ok Ol,bsome,app_ok Ol,bsome,(Y9G _ _ _ hBF.len hBF.big Om).1,bsome,hinn,l00 Om,bar_eq _ hBF.len hBF.big (by rw[htyp]),bsome,jfld_bar N E u Z J];dsimp only;have hloop:=Y9P hk hg hsm (m:=m) Om f1 f2 [] [] [] l [] qs.length 0 FU (mn+1) [] Om (FU_gt Om) Om Sm Om (by rw[l0E];omega);rw[show ((0:Nat):Int)=0 from rfl,l0E,l07] at hloop;rw[l01 rfl,hloop,bsome];dsimp only;rw[l1n]
theorem Y9Q :∀(k:Nat) (p:P3),k<=8->Tr k p->sz k p<=40->(∀l,Y0i (k+1) (8-(k:Int)) p=some l->∀v∈l,Y1C v=some 0)->∃f B,Jn k p f B
 | 0,p,hk,ht,hs,hc=>by
   obtain⟨l,b,qs⟩:=p;obtain⟨u,E,J⟩:=ht;dsimp only at u E J;subst J;exact⟨l,b,Yd5 hk u E (hc _ (by rw[Y0i,Y1G,bsome]) _ (l0o ..))⟩
 | k + 1,p,hk,ht,hs,hc=>by
   obtain⟨Z,K,_,_⟩:=Yai (k+1) (8-((k+1:Nat):Int)) p ht;have hc:=hc _ K;obtain⟨l,b,qs⟩:=p;obtain⟨u,E,J,N⟩:=ht;dsimp only at u E J N;rw[Y0i] at K;obtain⟨y,O,V⟩:=bnd K;cases V;have hroot:=hc _ (l0o ..);dsimp only at O hroot;by_cases hne:qs=[]
   . subst hne;exact⟨l,b,Yd5 hk u E hroot⟩
   have hsz:sz (k+1) (l,b,qs)=1+(qs.map fun q=>sz k q.out).sum:=rfl;have hch :∀q:BT38,∃fb:List Fld × Bt,q∈qs->Jn k q.out fb.1 fb.2:=fun q=>by
    by_cases hq:q∈qs
    . have hz:=Yd6 (k:=k) hq;obtain⟨f,B,hj⟩:=Y9Q k q.out Om (N q hq) Om (fun l' hl' v hv=>by
       obtain⟨l2,U,Y⟩:=YaZ O q hq;rw[show (8:Int)-((k+1:Nat):Int)+1=8-(k:Int) by omega,hl'] at U;cases U;exact hc v (l0t _ (Y v hv)))
      exact⟨(f,B),fun _=>hj⟩
    exact⟨([],[]),fun h=>absurd h hq⟩
   obtain⟨g,hg⟩:=Classical.axiomOfChoice hch;exact jn_node hk hne u E Om hroot (fun q hq=>hg q hq)
theorem join_tot {p:P3}(ht:Tr 8 p)(hz:sz 8 p<=40)(hv:Y1T p=some (0,0)):(∃c i:Int,c≠0/\Y3r p=some (([],[]),(c,i)))∨(∃n,Y3r p=some (n,(0,0))/\Y2D n=some (p,(0,0))):=by
 obtain⟨l,N,l2,l3,E⟩:=Y6E ht hz hv;obtain⟨f,B,hj⟩:=Y9Q 8 p (l0b _) ht hz (fun l' hl' v hvl=>by
  rw[show (8:Int)-((8:Nat):Int)=0 by decide,l2] at hl';cases hl';exact(E v hvl).2.2.2.2.1)
 have hfu:(8:Nat)<FU:=by unfold FU;omega
 have hBF:=BF.of hj.val;have hsz:=hj.size;rw[l05] at hsz;have K:=hBF.1;obtain⟨a,b,u,J⟩:=Go.Ph.Sg.mvalid (f,B) hBF.big (by dsimp only;omega);have hJ:Y3r p=if a=0 then some ((f,B),(0,0)) else some (([],[]),(a,-3)):=by
  unfold Y3r Y0r Y1k;rw[show (p.1,p.2.1,p.2.2)=p from rfl,hv,bsome];dsimp only;rw[Y0t,bsome,l00 Dc,show Y5R p=some (f,B) from hj.run FU hfu,bsome];dsimp only;rw[app_ok Ol,bsome,app_ok1 Ol,bsome,l07,l07,u,bsome];dsimp only;rw[Y0t,bsome];by_cases ha:a=0
  . rw[l0f ha,l00 Dc,l01 ha,Y2Q,bsome]
  rw[l0g ha,l01 Dc,l00 ha,Y0Z,bsome]
 by_cases ha:a=0
 . subst ha;rw[l01 rfl] at hJ;refine .inr ⟨(f,B),hJ,?_⟩;obtain⟨q1,O,U,rfl,_⟩:=Y91 (m:=(f,B)) hBF.big (by dsimp only;omega) u;have hb:=hj.back (J rfl).2 0 0 0 FU hfu Om;rw[show (8:Int)-((8:Nat):Int)=0 by decide,show ((0:Nat):Int)=0 from rfl] at hb;unfold Y2D;rw[u,bsome];dsimp only;rw[Y0t,bsome,l00 Dc,show Y2X (0,0,0) f B 0=_ from hb,bsome];obtain⟨V,Y,Z⟩:=p;dsimp only;rw[l01 rfl,hv,bsome];dsimp only;rw[Y0t,bsome,l00 Dc,Y2Q,bsome]
 rw[l00 ha] at hJ;exact .inl ⟨a,-3,ha,hJ⟩
theorem sameF (l:List Fld)(hl:l.length<=1000000):Y4o l l=some true:=by
 have hL :∀(d i m:Nat),l.length-i<=d->d<m->i<=l.length->Y1F l l m (i:Int)=some (.inl ()):=by
  intro d;induction d with
  | zero =>
    intro i m u E J;obtain⟨m,rfl⟩ :∃k,m=k+1:=⟨m-1,by omega⟩
    rw[Y1F,l00 Om]
  | succ d ih =>
    intro i m u E J;obtain⟨m,rfl⟩ :∃k,m=k+1:=⟨m-1,by omega⟩
    by_cases hi:i<l.length
    . rw[Y1F,l01 Om,idx_nat,l06 hi,bsome,bsome,l01 ⟨rfl,rfl⟩,chk_succ Om,bsome];exact ih (i+1) m Om Om Om
    rw[Y1F,l00 Om]
 have h:=hL l.length 0 FU Om (FU_gt Om) Om;rw[show ((0:Nat):Int)=0 from rfl] at h;unfold Y4o;rw[l01 rfl,h,bsome]
theorem Y81 :∀(k m:Nat) (p:P3),Tr k p->k<m->Y0h m p p=some true
 | k,0,p,ht,hm=>by omega
 | k, m + 1,p,ht,hm=>by
   obtain⟨u,N,O⟩:=ht.bf;have hL :∀(d i n:Nat),p.2.2.length-i<=d->d<n->i<=p.2.2.length->Y0f (Y0h m) p p n (i:Int)=some (.inl ()):=by
    intro d;induction d with
    | zero =>
      intro i n E J K;obtain⟨n,rfl⟩ :∃k,n=k+1:=⟨n-1,by omega⟩
      rw[Y0f,l00 Om]
    | succ d ih =>
      intro i n E J K;obtain⟨n,rfl⟩ :∃k,n=k+1:=⟨n-1,by omega⟩
      by_cases hi:i<p.2.2.length
      . have hq:Y0h m (p.2.2[i].out.1,p.2.2[i].out.2.1,p.2.2[i].out.2.2) (p.2.2[i].out.1,p.2.2[i].out.2.1,p.2.2[i].out.2.2)=some true:=by
         cases k with
         | zero=>have:=ht.2.2;rw [this] at hi;exact absurd hi (Nat.not_lt_zero _)
         | succ k=>exact Y81 k m p.2.2[i].out (ht.2.2.2 _ (l0N hi)) Om
        rw[Y0f,l01 Om,idx_nat,l06 hi,bsome,bsome,hq,bsome,l01 rfl,chk_succ Om,bsome];exact ih (i+1) n Om Om Om
      rw[Y0f,l00 Om]
   have h:=hL p.2.2.length 0 FU Om (FU_gt Om) Om;rw[show ((0:Nat):Int)=0 from rfl] at h;rw[Y0h,Y20,sameF _ u.len,bsome,l01 rfl,R_Bytes,bsome,l01 (l0f rfl),l0f rfl,bsome,l00 Dc,h,bsome]
theorem Ybv :∃n f,Y3r ([],[],[])=some (n,f):=by
 have:(Y3r ([],[],[])).isSome=true:=by decide +kernel
 obtain⟨⟨n,f⟩,h⟩:=l2I.1 this;exact⟨n,f,h⟩
theorem divided_law (m:List Fld × Bt)(hb:BigF m.1)(hm:m.2.length<=140737488355328):Y3b m=some true:=by
 obtain⟨p,c,i,J,Y,Z⟩:=Y9J m hb hm;have hfu:(8:Nat)<FU:=by unfold FU;omega
 unfold Y3b;rw[ml_ex,bsome,l01 rfl,show (m.1,m.2)=m from rfl,J,bsome];by_cases hc:c=0
 . obtain⟨rfl,_,_,E,_,K,N⟩:=Z hc;subst hc;obtain⟨l,O,_,l2,l3⟩:=Y6E E K N;obtain⟨r,U,e2⟩:=Yal l [] (fun v hv=>by obtain⟨a,b,c,d,_⟩:=l3 v hv;exact ⟨a,b,c,d⟩) Ow;have hF:=Yam J O Om;rw[U,l0Y] at hF;have hsame:=Y81 8 FU p E hfu;have hsame':Y1J p p=some true:=hsame;rcases join_tot E K N with ⟨c',i',u,hj⟩|⟨n,hj,hs⟩
   . obtain⟨p1,p2,V⟩:=p;dsimp only;rw[hj,bsome];dsimp only;rw[l01 rfl,l0g u,bsome,l01 Dc,l01 rfl,bsome]
   have hG:=Yam hs O Om;rw[U,l0Y] at hG;obtain⟨p1,p2,V⟩:=p;dsimp only;rw[hj,bsome];obtain⟨n1,n2⟩:=n;dsimp only;rw[l01 rfl,l0f rfl,bsome,l00 Dc,hF,bsome];dsimp only;rw[hG,bsome];dsimp only;unfold R_Bytes;by_cases u:(V.length:Int)=(0:Int)
   . rw[l01 u,l01 rfl,l01 rfl,bsome,bsome,l0f rfl]
   rw[l00 u,hs,bsome];dsimp only;rw[l01 rfl,l01 rfl,l01 rfl,hsame',bsome,l01 rfl,bsome,bsome,l0f rfl]
 obtain rfl:=Y hc;obtain⟨n,f,hj⟩:=Ybv;obtain⟨n1,n2⟩:=n;obtain⟨f1,f2⟩:=f;have hsame:Y1J ([],[],[]) ([],[],[])=some true:=Y81 0 FU ([],[],[]) ⟨⟨l0x _,fun x hx=>by cases hx⟩,l0x _,rfl⟩ Om;dsimp only;rw[hj,bsome];dsimp only;rw[l00 hc,bsome,l01 rfl,l00 hc,hsame,bsome,bsome]
end Go.Ph.Pt
end
