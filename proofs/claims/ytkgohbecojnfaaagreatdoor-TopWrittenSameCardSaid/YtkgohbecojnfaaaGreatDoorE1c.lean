/-
  Twf, Twt1, Twt2: own texts of this repository (wip/tpl, wip/plans), merged and shaken by wip/tools/pack.py.
-/
import Derived.Test.YtkgohbecojnfaaaGreatDoorProg
import Derived.KernelRfl
import Derived.Test.YtkgohbecojnfaaaGreatDoorE1b
set_option maxRecDepth 100000
set_option linter.unusedVariables false
set_option linter.unusedSimpArgs false
section
namespace Go.Ph.Pf
open Go.Ph.Pl
inductive BT38 where
 | mk (a0:List (Ls × Ls)) (a1:Ls) (a2:List BT38):BT38
abbrev BT38.out : BT38->(List (Ls × Ls) × Ls × List BT38)
 | .mk u E J=>(u,E,J)
abbrev BT38.of (x:(List (Ls × Ls) × Ls × List BT38)):BT38 := .mk x.1 x.2.1 x.2.2
def Y1a (p0:Ls)(u:UInt8):Option Int :=
 some (ixB p0 u)
def Y1k (p0:Ls)(u:UInt8):Option Int :=
 some (ixB p0 u)
def Y3j (p0:Ls)(u:Ls):Option Int :=
 if 2<=u.length/\p0.length<4294967281/\u.length<4294967281 then some (Lib.index p0 u) else none
def strconv_Itoa (p0:Int):Option Ls :=
 if -9223372036854775808<=p0/\p0<=9223372036854775807 then some (itoaP p0) else none
def Y2f (p0:Ls)(u:Int):Option Ls :=
 if 0<=u/\u<=9223372036854775807/\p0.length*u.toNat<=140737488355328 then some (Lib.repeatL p0 u.toNat) else none
def strconv_Atoi (p0:Ls):Option (Int × Bool) :=
 if p0.length<=281474976710656 then some (atoiP p0) else none
def Y0M (p0:Ls)(u:Ls):Option Int :=
 if p0.length<4294967281 then some (Lib.index p0 u) else none
def Y0f (p0:Ls):Option (Int × Int) :=
 if p0≠ [] then some (((Utf.dr p0).1:Int),((Utf.dr p0).2:Int)) else none
def Y1N (p0:Ls)(u:Ls):Option Int :=
 if u.length=1/\p0.length<=1000000 then some ((p0.countP fun c=>decide (u=[c]):Nat):Int) else none
def Y0l (p0:Ls)(u:Ls):Option (Int × Bool × Ls) :=
 (app 1 p0 u).bind fun l2=>some ((u.length:Int),true,l2)
def Y0U (p0:Ls)(u:UInt8):Option (Bool × Ls) :=
 (app 1 p0 ([u]:Ls)).bind fun l2=>some (true,l2)
def Y26 (p0:Ls):Option Ls :=
 some p0
def Y0m (O:Ls)(E:Ls):Nat->Ls->Bool->Int->Option Ls
 | 0,_,_,_=>none
 | K+1,J,V,u=>(if u<(E.length:Int) then(idx E u).bind fun U=>(if U.toNat<128 then(chk (u+1)).bind fun Y=>(Y0U J U).bind fun(a9,Z)=>Y0m O E K Z false Y else(cut E u (E.length:Int)).bind fun a0=>(Y0f a0).bind fun(aa,N)=>(if N=(1:Int) then(chk (u+1)).bind fun a1=>((if V=true then some (J,true) else(Y0l J O).bind fun(ab,ac,a2)=>some (a2,true))).bind fun(a3,a4)=>Y0m O E K a3 a4 a1 else(chk (u+N)).bind fun a5=>(cut E u a5).bind fun a6=>(Y0l J a6).bind fun(ad,ae,a7)=>(chk (u+N)).bind fun a8=>Y0m O E K a7 false a8)) else some J)
def tvL1 (p0:Ls):Nat->Nat->Option (Option Nat)
 | 0,_=>none
 | m+1,i=>if i<p0.length then(if ((Utf.dr (p0.drop i)).1:Int)=(65533:Int) then(if ((Utf.dr (p0.drop i)).2:Int)=(1:Int) then some (some i) else tvL1 p0 m (i+(Utf.dr (p0.drop i)).2)) else tvL1 p0 m (i+(Utf.dr (p0.drop i)).2)) else some none
def Y21 (p0 u:Ls):Option Ls :=
 if p0.length<=1000000/\1<=u.length/\u.length<=1000 then(tvL1 p0 FU 0).bind fun o=>(match o with|none=>some p0|some i=>(Y0m u (p0.drop i) FU (p0.take i) false 0).bind fun l=>(Y26 l).bind fun s=>some s) else none
def Y3f (p0:Ls):Option Bool :=
 if p0.length<=4611686018427387904 then some (Chs.vld p0) else none
def rpb (c:UInt8):UInt8:=if c=0∨c=13 then 32 else c
def tabR : Ls:=(List.range 256).map fun n=>rpb (UInt8.ofNat n)
def Y0C (p0:List Ls):Nat->Bool->Int->Option (Bool ⊕ (Ls × List Ls))
 | 0,_,_=>none
 | E+1,J,u=>(if u<(p0.length:Int) then(idx p0 u).bind fun K=>(if (K.length:Int)=(1:Int) then(chk (u+1)).bind fun N=>(idx p0 N).bind fun O=>(if (O.length:Int)=(1:Int) then(chk (u+2)).bind fun U=>Y0C p0 E J U else(chk (u+2)).bind fun V=>Y0C p0 E false V) else none) else some (.inl J))
def Y0V  : Nat->Ls->Int->Option Ls
 | 0,_,_=>none
 | J+1,E,u=>(if u<(256:Int) then(idxA 256 E u).bind fun O=>(putA 256 E u (ub8 u)).bind fun K=>(chk (u+1)).bind fun N=>Y0V  J K N else some E)
def Y0W (p0:List Ls):Nat->Ls->Int->Option Ls
 | 0,_,_=>none
 | K+1,E,u=>(if (0:Int)<=u then(idx p0 u).bind fun N=>(idx N 0).bind fun J=>(chk (u+1)).bind fun O=>(idx p0 O).bind fun U=>(idx U 0).bind fun V=>(idxA 256 E (J.toNat:Int)).bind fun a0=>(putA 256 E (J.toNat:Int) V).bind fun Y=>(chk (u-2)).bind fun Z=>Y0W p0 K Y Z else some E)
def Y2J (p0:List Ls):Option (Ls × List Ls) :=
 ((if (p0.length:Int)=(2:Int) then(idx p0 0).bind fun U=>some (decide ((1:Int)<(U.length:Int))) else some false)).bind fun V=>(if V=true then none else((Y0C p0 FU true 0:Option (Bool ⊕ (Ls × List Ls)))).bind fun u=>(match u with | .inl E=>(if E=true then(chkA 256 (List.replicate 256 0:Ls)).bind fun Y=>(chkA 256 ([0,0,0,0,0,0,0,0,0,0,0,0,0,0,0,0,0,0,0,0,0,0,0,0,0,0,0,0,0,0,0,0,0,0,0,0,0,0,0,0,0,0,0,0,0,0,0,0,0,0,0,0,0,0,0,0,0,0,0,0,0,0,0,0,0,0,0,0,0,0,0,0,0,0,0,0,0,0,0,0,0,0,0,0,0,0,0,0,0,0,0,0,0,0,0,0,0,0,0,0,0,0,0,0,0,0,0,0,0,0,0,0,0,0,0,0,0,0,0,0,0,0,0,0,0,0,0,0,0,0,0,0,0,0,0,0,0,0,0,0,0,0,0,0,0,0,0,0,0,0,0,0,0,0,0,0,0,0,0,0,0,0,0,0,0,0,0,0,0,0,0,0,0,0,0,0,0,0,0,0,0,0,0,0,0,0,0,0,0,0,0,0,0,0,0,0,0,0,0,0,0,0,0,0,0,0,0,0,0,0,0,0,0,0,0,0,0,0,0,0,0,0,0,0,0,0,0,0,0,0,0,0,0,0,0,0,0,0,0,0,0,0,0,0,0,0,0,0,0,0,0,0,0,0,0,0]:Ls)).bind fun Z=>(Y0V  FU ([0,0,0,0,0,0,0,0,0,0,0,0,0,0,0,0,0,0,0,0,0,0,0,0,0,0,0,0,0,0,0,0,0,0,0,0,0,0,0,0,0,0,0,0,0,0,0,0,0,0,0,0,0,0,0,0,0,0,0,0,0,0,0,0,0,0,0,0,0,0,0,0,0,0,0,0,0,0,0,0,0,0,0,0,0,0,0,0,0,0,0,0,0,0,0,0,0,0,0,0,0,0,0,0,0,0,0,0,0,0,0,0,0,0,0,0,0,0,0,0,0,0,0,0,0,0,0,0,0,0,0,0,0,0,0,0,0,0,0,0,0,0,0,0,0,0,0,0,0,0,0,0,0,0,0,0,0,0,0,0,0,0,0,0,0,0,0,0,0,0,0,0,0,0,0,0,0,0,0,0,0,0,0,0,0,0,0,0,0,0,0,0,0,0,0,0,0,0,0,0,0,0,0,0,0,0,0,0,0,0,0,0,0,0,0,0,0,0,0,0,0,0,0,0,0,0,0,0,0,0,0,0,0,0,0,0,0,0,0,0,0,0,0,0,0,0,0,0,0,0,0,0,0,0,0,0]:Ls) 0).bind fun J=>(chk ((p0.length:Int)-2)).bind fun K=>(Y0W p0 FU J K).bind fun N=>some (N,p0) else none) | .inr O=>some O))
def Y2B (p0:List Ls):Option Unit :=
 if p0=[[0],[32],[13],[32]] then some () else none
def Y0G (p0:Ls):Option Ls :=
 if p0.length<=1000000 then some (p0.map rpb) else none
def tabk (k:Nat):List (Option Ls):=(List.range 256).map fun n=>if n=34/\1<=k then some [92,34] else if n=92/\2<=k then some [92,92] else none
def trk (k:Nat):List Ls:=[[34],[92]].take k
def Y0s (p0:List Ls):Nat->Bool->Int->Option (Bool ⊕ ((List (Option Ls) × List Ls) × List Ls))
 | 0,_,_=>none
 | E+1,J,u=>(if u<(p0.length:Int) then(idx p0 u).bind fun K=>(if (K.length:Int)=(1:Int) then(chk (u+1)).bind fun N=>(idx p0 N).bind fun O=>(if (O.length:Int)=(1:Int) then(chk (u+2)).bind fun U=>Y0s p0 E J U else(chk (u+2)).bind fun V=>Y0s p0 E false V) else none) else some (.inl J))
def Y2o (p0:List Ls):Option ((List (Option Ls) × List Ls) × List Ls) :=
 ((if (p0.length:Int)=(2:Int) then(idx p0 0).bind fun K=>some (decide ((1:Int)<(K.length:Int))) else some false)).bind fun N=>(if N=true then none else((Y0s p0 FU true 0:Option (Bool ⊕ ((List (Option Ls) × List Ls) × List Ls)))).bind fun u=>(match u with | .inl E=>(if E=true then none else(if p0=[[92],[92,92],[34],[92,34]] then some ((tabk 2,trk 2),p0) else none)) | .inr J=>some J))
def Y00 (p0:(List (Option Ls) × List Ls))(U:Ls):Nat->Int->Bool->Int->Option (Int × Bool)
 | 0,_,_,_=>none
 | J+1,E,K,u=>(if u<(p0.2.length:Int) then(idx p0.2 u).bind fun N=>(Y1N U N).bind fun O=>(if O=(0:Int) then(chk (u+1)).bind fun V=>Y00 p0 U J E K V else(idx N 0).bind fun Y=>(idxO p0.1 (Y.toNat:Int)).bind fun Z=>(chk (((Z.getD []).length:Int)-1)).bind fun a0=>(chk (O*a0)).bind fun a1=>(chk (E+a1)).bind fun a2=>(chk (u+1)).bind fun a3=>Y00 p0 U J a2 true a3) else some (E,K))
def Y04 (p0:(List (Option Ls) × List Ls))(J:Ls):Nat->Int->Bool->Int->Option (Int × Bool)
 | 0,_,_,_=>none
 | K+1,E,N,u=>(if u<(J.length:Int) then(idx J u).bind fun O=>(idxO p0.1 (O.toNat:Int)).bind fun U=>(if U.isSome=true then(idxO p0.1 (O.toNat:Int)).bind fun V=>(chk (((V.getD []).length:Int)-1)).bind fun Y=>(chk (E+Y)).bind fun Z=>(chk (u+1)).bind fun a0=>Y04 p0 J K Z true a0 else(chk (u+1)).bind fun a1=>Y04 p0 J K E N a1) else some (E,N))
def Y05 (p0:(List (Option Ls) × List Ls))(N:Ls):Nat->Ls->Int->Int->Option Ls
 | 0,_,_,_=>none
 | O+1,u,E,J=>(if J<(N.length:Int) then(idx N J).bind fun K=>(idxO p0.1 (K.toNat:Int)).bind fun U=>(if U.isSome=true then(frm u E).bind fun V=>(idxO p0.1 (K.toNat:Int)).bind fun Y=>(cpyO u V (Y.getD [])).bind fun(Z,a0)=>(chk (E+a0)).bind fun a1=>(chk (J+1)).bind fun a2=>Y05 p0 N O Z a1 a2 else(idx u E).bind fun a6=>(put u E K).bind fun a3=>(chk (E+1)).bind fun a4=>(chk (J+1)).bind fun a5=>Y05 p0 N O a3 a4 a5) else some u)
def Y0B (p0:(List (Option Ls) × List Ls))(u:Ls):Option Ls :=
 (chk ((p0.2.length:Int)*8)).bind fun V=>((if V<=(u.length:Int) then(Y00 p0 u FU (u.length:Int) false 0).bind fun(Y,E)=>some (Y,E) else(Y04 p0 u FU (u.length:Int) false 0).bind fun(J,K)=>some (J,K))).bind fun(N,Z)=>(if Z=true then(mkS 1 N N (0:UInt8)).bind fun O=>(Y05 p0 u FU O 0 0).bind fun U=>some U else some u)
def Y2c (p0:List Ls):Option Unit :=
 if p0=[[92],[92,92],[34],[92,34]] then some () else none
def Y0P (p0:Ls):Option Ls :=
 Y0B (tabk 2,trk 2) p0
def Y0Q (p0:List (Ls × Ls)):Option (List (Ls × Ls)) :=
 app 32 [] p0
def Y2p (p0:Ls):Option Ls :=
 app 1 [] p0
def idxL (l:List (Ls × Ls))(g:(Ls × Ls)->Option Bool):Nat->Int->Option (Unit ⊕ Int)
 | 0,_=>none
 | m+1,n=>if n<(l.length:Int) then(idx l n).bind fun a=>(g a).bind fun b=>(if b=true then some (.inr n) else(chk (n+1)).bind fun u=>idxL l g m u) else some (.inl ())
def idxFunc (l:List (Ls × Ls))(g:(Ls × Ls)->Option Bool):Option Int:=(idxL l g FU 0).bind fun o=>match o with | .inl _=>some (-1) | .inr i=>some i
def delL (g:(Ls × Ls)->Option Bool):Nat->List (Ls × Ls)->Int->Int->Option (List (Ls × Ls) × Int)
 | 0,_,_,_=>none
 | m+1,q,i,j=>if j<(q.length:Int) then(idx q j).bind fun a=>(g a).bind fun b=>(if b=true then(chk (j+1)).bind fun u=>delL g m q i u else(put q i a).bind fun E=>(chk (i+1)).bind fun J=>(chk (j+1)).bind fun u=>delL g m E J u) else some (q,i)
def delFunc (l:List (Ls × Ls))(g:(Ls × Ls)->Option Bool):Option (List (Ls × Ls)):=(idxFunc l g).bind fun i=>if i = -1 then some l else(chk (i+1)).bind fun j=>(delL g FU l i j).bind fun(q,u)=>cut q 0 u
def Y2C (p0:List (Ls × Ls))(u:(Ls × Ls)->Option Bool):Option (List (Ls × Ls)):=delFunc p0 u
def Y1X (f:Int->(List (Ls × Ls) × Ls × List BT38)->Option (List (List (Ls × Ls) × Ls × List BT38 × Int)))(d:Int):List BT38->Option (List (List (Ls × Ls) × Ls × List BT38 × Int))
 | []=>some []
 | q::l=>(f d q.out).bind fun x=>(Y1X f d l).bind fun y=>some (x++y)
def Y0n : Nat->Int->(List (Ls × Ls) × Ls × List BT38)->Option (List (List (Ls × Ls) × Ls × List BT38 × Int))
 | 0,_,_=>none
 | m+1,d,p=>(Y1X (Y0n m) (d+1) p.2.2).bind fun y=>some ((p.1,p.2.1,p.2.2,d)::y)
def Y0t : Int->List (List (Ls × Ls) × Ls × List BT38 × Int)->List (Int × (List (Ls × Ls) × Ls × List BT38 × Int))
 | _,[]=>[]
 | n,x::l=>(n,x)::Y0t (n+1) l
theorem Y5i {m:List (List (Ls × Ls) × Ls × List BT38 × Int)}:∀{l:List (List (Ls × Ls) × Ls × List BT38 × Int)} {n:Int},Y0t n (l++m)=Y0t n l++Y0t (n+l.length) m
 | [],n=>by simp [Y0t]
 | x::l,n=>by rw[l02,Y0t,Y0t,Y5i,l02,l01,show n+1+(l.length:Int)=n+((l.length+1:Nat):Int) by omega]
theorem Y6p {m:Nat}{d:Int}{p:(List (Ls × Ls) × Ls × List BT38)}{l:List (List (Ls × Ls) × Ls × List BT38 × Int)}(h:Y0n m d p=some l):1<=l.length:=by
 cases m with
 | zero=>rw[Y0n] at h;cases h
 | succ m =>
   rw[Y0n] at h;obtain⟨y,_,h⟩:=bnd h;rw[<-oI h,l01];omega
theorem Y5j {m:Nat}{d:Int}:∀{l:List BT38} {y:List (List (Ls × Ls) × Ls × List BT38 × Int)},Y1X (Y0n m) d l=some y->l.length<=y.length
 | [],y,_=>l0o _
 | q::l,y,h=>by
   rw[Y1X] at h;obtain⟨a,ha,h⟩:=bnd h;obtain⟨b,hb,h⟩:=bnd h;have u:=Y6p ha;have E:=Y5j hb;rw[<-oI h,l05,l01];omega
def Y2P (u:(List (Ls × Ls) × Ls × List BT38))(σ:Type)(Y:σ->(Int × (List (Ls × Ls) × Ls × List BT38 × Int))->Option (σ × Bool))(E:σ):Option σ :=
 (Y0n FU 0 u).bind fun l=>if (l.length:Int)<4611686018427387904 then runL Y (Y0t 0 l) E else none
def Y3M (u:(List (Ls × Ls) × Ls × List BT38))(σ:Type)(Y:σ->(Int × (List (Ls × Ls) × Ls × List BT38))->Option (σ × Bool))(E:σ):Option σ :=
 (Y2P u (σ × Nat) (stepY exStop fun s x=>(Y s.1 (x.1,(x.2.1,x.2.2.1,x.2.2.2.1))).bind fun r=>some (r.1,if r.2=true then 0 else 1)) (E,0)).bind fun s=>some s.1
def Y4A (p0:(List (Ls × Ls) × Ls × List BT38)):Option (List (Ls × Ls) × Ls × List BT38) :=
 some (p0.1,p0.2.1,p0.2.2)
def Y0e  : Option (Int × Int) :=
 some (0,0)
def transfer_copied (p0:Ls):Option (Ls × (Int × Int)) :=
 (app 1 ([]:Ls) p0).bind fun l2=>(Y0e).bind fun(u,E)=>some (l2,(u,E))
def Y03 (p0:Int)(u:Int):Option (Int × Int) :=
 some (p0,u)
def Y0u (p0:Ls):Nat->Ls->Int->Int->Int->Option Ls
 | 0,_,_,_,_=>none
 | J+1,u,U,V,E=>(if E<(p0.length:Int) then(idx p0 E).bind fun Y=>(if Y=61 then some u else(Y1k ([65,66,67,68,69,70,71,72,73,74,75,76,77,78,79,80,81,82,83,84,85,86,87,88,89,90,97,98,99,100,101,102,103,104,105,106,107,108,109,110,111,112,113,114,115,116,117,118,119,120,121,122,48,49,50,51,52,53,54,55,56,57,43,47]:Ls) Y).bind fun Z=>(if Z<(0:Int) then(chk (E+1)).bind fun a0=>Y0u p0 J u U V a0 else(shlI U 6).bind fun a1=>(orI a1 Z).bind fun K=>(chk (V+6)).bind fun N=>(if (8:Int)<=N then(chk (N-8)).bind fun O=>(shrI K O).bind fun a2=>(app 1 u ([(ub8 a2)]:Ls)).bind fun a3=>(shlI 1 O).bind fun a4=>(chk (a4-1)).bind fun a5=>(andI K a5).bind fun a6=>(chk (E+1)).bind fun a7=>Y0u p0 J a3 a6 O a7 else(chk (E+1)).bind fun a8=>Y0u p0 J u K N a8))) else some u)
def Y38 (p0:Ls):Option (Ls × (Int × Int)) :=
 (if (24000:Int)<(p0.length:Int) then(Y03 1 (-1)).bind fun(J,K)=>some ([],(J,K)) else(Y0u p0 FU [] 0 0 0).bind fun N=>(Y0e).bind fun(u,E)=>some (N,(u,E)))
def Y2Q (p0:Ls)(u:Ls):Option Bool :=
 some (decide (p0=u))
def Y1l (p0:Ls)(u:Ls):Option Bool :=
 ((if (u.length:Int)<=(p0.length:Int) then(chk ((p0.length:Int)-(u.length:Int))).bind fun E=>(cut p0 E (p0.length:Int)).bind fun J=>(Y2Q J u).bind fun K=>some K else some false)).bind fun N=>some N
def Y0r (p0:Ls)(u:Ls):Option Ls :=
 (Y1l p0 u).bind fun E=>(if E=true then(chk ((p0.length:Int)-(u.length:Int))).bind fun J=>(cut p0 0 J).bind fun K=>some K else some p0)
def Y1t (E:UInt8):Nat->Ls->Option Ls
 | 0,_=>none
 | V+1,u=>((if (0:Int)<(u.length:Int) then(chk ((u.length:Int)-1)).bind fun J=>(idx u J).bind fun K=>some (decide (K=E)) else some false)).bind fun N=>(if N=true then(chk ((u.length:Int)-1)).bind fun O=>(cut u 0 O).bind fun U=>Y1t E V U else some u)
def Y3k (p0:Ls)(u:UInt8):Option Ls :=
 (Y1t u FU p0).bind fun l3=>some l3
def Y1B (p0:Ls):Nat->List Bool->Int->Option (List Bool ⊕ (List Bool × Bool))
 | 0,_,_=>none
 | V+1,u,J=>(if J<(p0.length:Int) then(idx p0 J).bind fun K=>(if 128<=K.toNat then(chkA 256 u).bind fun E=>(chkA 256 u).bind fun Y=>(chkA 256 E).bind fun Z=>(chkA 256 E).bind fun N=>some (.inr (N,false)) else(idxA 256 u (K.toNat:Int)).bind fun a0=>(putA 256 u (K.toNat:Int) true).bind fun O=>(chk (J+1)).bind fun U=>Y1B p0 V O U) else some (.inl u))
def Y2N (p0:Ls):Option (List Bool × Bool) :=
 ((Y1B p0 FU (List.replicate 256 false:List Bool) 0:Option (List Bool ⊕ (List Bool × Bool)))).bind fun E=>(match E with | .inl l3=>(chkA 256 l3).bind fun u=>(chkA 256 l3).bind fun N=>(chkA 256 u).bind fun O=>(chkA 256 u).bind fun J=>some (J,true) | .inr K=>some K)
def Y1m (p0:List Bool)(u:UInt8):Option Bool :=
 (idxA 256 p0 (u.toNat:Int)).bind fun E=>some E
def Y0z (E:List Bool):Nat->Ls->Option Ls
 | 0,_=>none
 | V+1,u=>(if (0:Int)<(u.length:Int) then(chk ((u.length:Int)-1)).bind fun J=>(idx u J).bind fun K=>(Y1m E K).bind fun N=>(if N=true then(chk ((u.length:Int)-1)).bind fun O=>(cut u 0 O).bind fun U=>Y0z E V U else some u) else some u)
def Y2l (p0:Ls)(u:List Bool):Option Ls :=
 (Y0z u FU p0).bind fun l3=>some l3
def Y2R (p0:Ls)(u:Ls):Option Ls :=
 ((if (p0.length:Int)=(0:Int) then some true else some (decide (u=[])))).bind fun V=>(if V=true then some p0 else((if (u.length:Int)=(1:Int) then(idx u 0).bind fun J=>some (decide (J.toNat<128)) else some false)).bind fun Y=>(if Y=true then(idx u 0).bind fun K=>(Y3k p0 K).bind fun N=>some N else(Y2N u).bind fun(E,O)=>(chkA 256 (List.replicate 256 false:List Bool)).bind fun Z=>(chkA 256 E).bind fun a0=>(if O=true then(Y2l p0 E).bind fun U=>some U else none)))
def Y3N (p0:UInt8):Option (UInt8 × Bool) :=
 ((if 48<=p0.toNat then some (decide (p0.toNat<=57)) else some false)).bind fun E=>(if E=true then some ((p0-(48:UInt8)),true) else((if 65<=p0.toNat then some (decide (p0.toNat<=70)) else some false)).bind fun J=>(if J=true then some (((p0-(65:UInt8))+(10:UInt8)),true) else((if 97<=p0.toNat then some (decide (p0.toNat<=102)) else some false)).bind fun u=>(if u=true then some (((p0-(97:UInt8))+(10:UInt8)),true) else some (0,false))))
def Y2q (p0:Ls):Option (UInt8 × Bool) :=
 (if (p0.length:Int)<(2:Int) then some (0,false) else(idx p0 0).bind fun N=>(Y3N N).bind fun(u,O)=>(idx p0 1).bind fun U=>(Y3N U).bind fun(E,V)=>((if O=true then some (((UInt8.ofNat (u.toNat*2 ^ 4)) ||| E),V) else some (((UInt8.ofNat (u.toNat*2 ^ 4)) ||| E),false))).bind fun(J,K)=>some (J,K))
def quoted_plain_L1 (p0:Ls):Nat->Ls->Int->Option Ls
 | 0,_,_=>none
 | J+1,E,u=>(if u<(p0.length:Int) then(idx p0 u).bind fun N=>(((if N=61 then(chk (u+1)).bind fun O=>(chk (u+3)).bind fun U=>(cut p0 O (min U (p0.length:Int))).bind fun V=>(Y2q V).bind fun(Y,Z)=>(if Z=true then(app 1 E ([Y]:Ls)).bind fun a0=>(chk (u+2)).bind fun a1=>some (.inr (a0,a1)) else some (.inl (E,u))) else some (.inl (E,u))):Option ((Ls × Int) ⊕ (Ls × Int)))).bind fun a2=>(match a2 with | .inl (a3,K)=>(idx p0 K).bind fun a4=>(app 1 a3 ([a4]:Ls)).bind fun a5=>(chk (K+1)).bind fun a6=>quoted_plain_L1 p0 J a5 a6 | .inr (a7,a8)=>(chk (a8+1)).bind fun a9=>quoted_plain_L1 p0 J a7 a9) else some E)
def quoted_plain (p0:Ls):Option Ls :=
 (quoted_plain_L1 p0 FU [] 0).bind fun u=>some u
def quoted_Lenient_L1  : Nat->Ls->Ls->Option Ls
 | 0,_,_=>none
 | V+1,u,N=>(if (0:Int)<(u.length:Int) then(Y1k u 10).bind fun Y=>(chk (Y+1)).bind fun O=>((if O=(0:Int) then some (u.length:Int) else some O)).bind fun E=>(cut u 0 E).bind fun Z=>(Y0r Z ([10]:Ls)).bind fun K=>((if (K.length:Int)<E then(Y0r K ([13]:Ls)).bind fun a0=>some a0 else some K)).bind fun U=>(cut u (U.length:Int) E).bind fun a1=>(Y2R U [32,9]).bind fun J=>(Y1l J ([61]:Ls)).bind fun a2=>((if a2=true then(chk ((J.length:Int)-1)).bind fun a3=>(cut J 0 a3).bind fun a4=>some (a4,[]) else some (J,a1))).bind fun(a5,a6)=>(quoted_plain a5).bind fun a7=>(app 1 N a7).bind fun a8=>(app 1 a8 a6).bind fun a9=>(cut u E (u.length:Int)).bind fun aa=>quoted_Lenient_L1  V aa a9 else some N)
def quoted_Lenient (p0:Ls):Option (Ls × (Int × Int)) :=
 (if (48000:Int)<(p0.length:Int) then(Y03 1 (-1)).bind fun(J,K)=>some ([],(J,K)) else(quoted_Lenient_L1  FU p0 []).bind fun N=>(Y0e).bind fun(u,E)=>some (N,(u,E)))
def Y1j (N:Ls):Nat->Ls->Int->Option Ls
 | 0,_,_=>none
 | K+1,E,u=>(if u<(N.length:Int) then(idx E u).bind fun J=>((if 65<=J.toNat then some (decide (J.toNat<=90)) else some false)).bind fun O=>(if O=true then(idx E u).bind fun Z=>(put E u ((J+(97:UInt8))-(65:UInt8))).bind fun U=>(chk (u+1)).bind fun V=>Y1j N K U V else(chk (u+1)).bind fun Y=>Y1j N K E Y) else some E)
def Y3l (p0:Ls):Option Ls :=
 (toB p0).bind fun u=>(Y1j u FU u 0).bind fun E=>some E
def Y0N (p0:Ls)(u:Ls):Option Bool :=
 ((if (p0.length:Int)=(u.length:Int) then(Y3l p0).bind fun E=>(Y3l u).bind fun J=>some (decide (E=J)) else some false)).bind fun K=>some K
def Y08 (p0:(Int × Int)):Option Bool :=
 some (!decide (p0.1=(0:Int)))
def transfer_findL (p0:Ls):List (Ls × Nat)->Option (Ls × Nat × Bool)
 | []=>some ([],0,false)
 | c::l=>(Y0N c.1 p0).bind fun b=>if b=true then some (c.1,c.2,true) else transfer_findL p0 l
def transfer_find (p0:Ls):Option (Ls × Nat × Bool) :=
 transfer_findL p0 [([55,98,105,116],1),([56,98,105,116],1),([98,97,115,101,54,52],2),([113,117,111,116,101,100,45,112,114,105,110,116,97,98,108,101],3)]
def transfer_valid (p0:Ls)(J:Ls):Option ((Ls × Nat) × (Int × Int)) :=
 (transfer_find J).bind fun(s,k,ok)=>if ok=true then(if (12000:Int)<(p0.length:Int) then(Y03 1 (-1)).bind fun(u,E)=>some ((s,k),(u,E)) else(Y0e).bind fun(u,E)=>some ((s,k),(u,E))) else(Y03 18 (-3)).bind fun(u,E)=>some ((s,k),(u,E))
def transfer_dec (k:Nat)(p0:Ls):Option (Ls × (Int × Int)) :=
 if k=1 then transfer_copied p0 else if k=2 then Y38 p0 else if k=3 then quoted_Lenient p0 else none
def transfer_Decode (p0:Ls)(J:Ls):Option (Ls × (Int × Int)) :=
 (transfer_valid p0 J).bind fun((s,k),(u,E))=>(Y08 (u,E)).bind fun b=>if b=true then some ([],(u,E)) else transfer_dec k p0
def Y1C (p0:Ls)(E:(UInt8->Option Bool)):Nat->Int->Option (Unit ⊕ Bool)
 | 0,_=>none
 | K+1,u=>(if u<(p0.length:Int) then(idx p0 u).bind fun N=>(E N).bind fun O=>(if O=true then(chk (u+1)).bind fun J=>Y1C p0 E K J else some (.inr false)) else some (.inl ()))
def Y2S (p0:Ls)(J:(UInt8->Option Bool)):Option Bool :=
 ((Y1C p0 J FU 0:Option (Unit ⊕ Bool))).bind fun u=>(match u with | .inl _=>some true | .inr E=>some E)
def Y44 (p0:UInt8):Option Bool :=
 ((if 33<=p0.toNat then(if p0.toNat<=126 then some (!decide (p0=58)) else some false) else some false)).bind fun u=>some u
def Y50 (p0:Ls):Option Bool :=
 ((if p0=[] then some false else(if (p0.length:Int)<=(60:Int) then(Y2S p0 Y44).bind fun u=>some u else some false))).bind fun E=>some E
def Y2g (p0:Int):Option Bool :=
 ((if (0:Int)<=p0 then some (decide (p0<(55296:Int))) else some false)).bind fun u=>(if u=true then some true else((if (57343:Int)<p0 then some (decide (p0<=(1114111:Int))) else some false)).bind fun E=>(if E=true then some true else some false))
def Y1I (p0:Ls):Nat->Nat->Option (Unit ⊕ Int)
 | 0,_=>none
 | E+1,u=>(if u<p0.length then(if ((Utf.dr (p0.drop u)).1:Int)=(65533:Int) then some (.inr (u:Int)) else Y1I p0 E (u+(Utf.dr (p0.drop u)).2)) else some (.inl ()))
def Y1J (p0:Ls)(K:Int)(E:Int)(J:Int):Nat->Int->Option Unit
 | 0,_=>none
 | N+1,u=>(if u<((Chs.utf8 K).length:Int) then(chk (J-u)).bind fun O=>(idx p0 O).bind fun U=>(chk (E-u)).bind fun V=>(idx (Chs.utf8 K) V).bind fun Y=>(if U=Y then(chk (u+1)).bind fun Z=>Y1J p0 K E J N Z else none) else some ())
def Y1K (p0:Ls)(N:Int)(E:Int):Nat->Int->Option (Unit ⊕ Int)
 | 0,_=>none
 | a5+1,u=>(if u<(p0.length:Int) then(idx p0 u).bind fun O=>(idx (Chs.utf8 N) E).bind fun U=>(((if O=U then some (.inl u) else(chk (u+1)).bind fun V=>(cut p0 V (p0.length:Int)).bind fun Y=>(idx (Chs.utf8 N) E).bind fun Z=>(Y1a Y Z).bind fun J=>(if J<(0:Int) then some (.inr (-1)) else(chk (J+1)).bind fun a0=>(chk (u+a0)).bind fun a1=>some (.inl a1))):Option (Int ⊕ Int))).bind fun a2=>(match a2 with | .inl K=>(Y1J p0 N E K FU 1).bind fun _=>(chk (K-E)).bind fun a3=>some (.inr a3) | .inr a4=>some (.inr a4)) else some (.inl ()))
def Y1Y (p0:Ls)(u:Int):Option Int :=
 ((if (0:Int)<=u then some (decide (u<(128:Int))) else some false)).bind fun V=>(if V=true then(Y1a p0 (ub8 u)).bind fun Y=>some Y else(if u=(65533:Int) then((Y1I p0 FU 0:Option (Unit ⊕ Int))).bind fun J=>(match J with | .inl _=>some (-1) | .inr K=>some K) else(Y2g u).bind fun N=>(if N=true then(chk (((Chs.utf8 u).length:Int)-1)).bind fun E=>((Y1K p0 u E FU E:Option (Unit ⊕ Int))).bind fun O=>(match O with | .inl _=>some (-1) | .inr U=>some U) else some (-1))))
def Y0D (p0:Int):Option Bool :=
 some (decide ((8:Int)<p0))
def Y1n (p0:Ls):Nat->List Bool->Int->Option (List Bool ⊕ (List Bool × Bool))
 | 0,_,_=>none
 | V+1,u,J=>(if J<(p0.length:Int) then(idx p0 J).bind fun K=>(if 128<=K.toNat then(chkA 256 u).bind fun E=>(chkA 256 u).bind fun Y=>(chkA 256 E).bind fun Z=>(chkA 256 E).bind fun N=>some (.inr (N,false)) else(idxA 256 u (K.toNat:Int)).bind fun a0=>(putA 256 u (K.toNat:Int) true).bind fun O=>(chk (J+1)).bind fun U=>Y1n p0 V O U) else some (.inl u))
def Y0d (p0:Ls):Option (List Bool × Bool) :=
 ((Y1n p0 FU (List.replicate 256 false:List Bool) 0:Option (List Bool ⊕ (List Bool × Bool)))).bind fun E=>(match E with | .inl l3=>(chkA 256 l3).bind fun u=>(chkA 256 l3).bind fun N=>(chkA 256 u).bind fun O=>(chkA 256 u).bind fun J=>some (J,true) | .inr K=>some K)
def Y0b (p0:List Bool)(u:UInt8):Option Bool :=
 (idxA 256 p0 (u.toNat:Int)).bind fun E=>some E
def Y0H (p0:Ls)(E:List Bool):Nat->Int->Option (Unit ⊕ Int)
 | 0,_=>none
 | J+1,u=>(if u<(p0.length:Int) then(idx p0 u).bind fun K=>(Y0b E K).bind fun N=>(if N=true then some (.inr u) else(chk (u+1)).bind fun O=>Y0H p0 E J O) else some (.inl ()))
def Y0I (p0:Ls)(E:Ls):Nat->Nat->Option (Unit ⊕ Int)
 | 0,_=>none
 | J+1,u=>(if u<p0.length then(Y1Y E ((Utf.dr (p0.drop u)).1:Int)).bind fun K=>(if (0:Int)<=K then some (.inr (u:Int)) else Y0I p0 E J (u+(Utf.dr (p0.drop u)).2)) else some (.inl ()))
def Y29 (p0:Ls)(u:Ls):Option Int :=
 (if u=[] then some (-1) else(if (u.length:Int)=(1:Int) then(idx u 0).bind fun J=>((if (128:Int)<=(IntKind.i32.wrap (J.toNat:Int)) then some 65533 else some (IntKind.i32.wrap (J.toNat:Int)))).bind fun n6=>(Y1Y p0 n6).bind fun n9=>some n9 else(Y0D (p0.length:Int)).bind fun K=>(((if K=true then(Y0d u).bind fun(E,N)=>(chkA 256 (List.replicate 256 false:List Bool)).bind fun a3=>(chkA 256 E).bind fun a4=>(if N=true then((Y0H p0 E FU 0:Option (Unit ⊕ Int))).bind fun O=>(match O with | .inl _=>some (.inr (-1)) | .inr U=>some (.inr U)) else some (.inl ())) else some (.inl ())):Option (Unit ⊕ Int))).bind fun V=>(match V with | .inl _=>((Y0I p0 u FU 0:Option (Unit ⊕ Int))).bind fun Y=>(match Y with | .inl _=>some (-1) | .inr Z=>some Z) | .inr a0=>some a0)))
def Y1u (p0:Ls)(u:Ls):Option Bool :=
 (Y29 p0 u).bind fun E=>some (decide ((0:Int)<=E))
def Y51 (p0:Ls):Option Bool :=
 (Y1u p0 [13,10,0]).bind fun u=>some u
def Y1H (p0:UInt8):Option Bool :=
 ((if p0=32 then some true else some (decide (p0=9)))).bind fun u=>some u
def Y4B (p0:Ls):Option Bool :=
 ((Y51 p0).bind fun K=>(if K=true then some false else(if p0=[] then some true else(idx p0 0).bind fun N=>(Y1H N).bind fun O=>(if O=true then some false else(chk ((p0.length:Int)-1)).bind fun u=>(idx p0 u).bind fun E=>(Y1H E).bind fun J=>some (!J))))).bind fun U=>some U
def Y1O (p0:Ls):Nat->Int->Int->Option Int
 | 0,_,_=>none
 | J+1,E,u=>(if u<(p0.length:Int) then((idx p0 u).bind fun K=>(Y1H K).bind fun N=>(if N=true then(chk (u-1)).bind fun O=>(idx p0 O).bind fun U=>(Y1H U).bind fun V=>some V else some true)).bind fun Y=>(if Y=true then(chk (u+1)).bind fun Z=>Y1O p0 J E Z else((if (0:Int)<E then some (decide ((78:Int)<u)) else some false)).bind fun a0=>(if a0=true then some E else(chk (u+1)).bind fun a1=>Y1O p0 J u a1)) else some E)
def Y4C (p0:Ls)(u:Int):Option Int :=
 (Y1O p0 FU 0 (max u 1)).bind fun E=>some E
def Y2y  : Nat->Ls->Int->List Ls->Option (Ls × List Ls)
 | 0,_,_,_=>none
 | K+1,u,N,E=>(if (78:Int)<(u.length:Int) then(Y4C u N).bind fun J=>(if J=(0:Int) then some (u,E) else(cut u 0 J).bind fun O=>(app 16 E ([O]:List Ls)).bind fun U=>(cut u J (u.length:Int)).bind fun V=>Y2y  K V 0 U) else some (u,E))
def Y2z (E:List Ls):Nat->Int->Int->Int->Option ((Int × Int) ⊕ (List Ls × (Int × Int)))
 | 0,_,_,_=>none
 | N+1,J,K,u=>(if u<(E.length:Int) then(idx E u).bind fun O=>(if (998:Int)<(O.length:Int) then(Y03 1 u).bind fun(U,V)=>some (.inr ([],(U,V))) else(chk (u+1)).bind fun Y=>Y2z E N J K Y) else some (.inl (J,K)))
def Y3O (p0:Ls)(E:Ls):Option (List Ls × (Int × Int)) :=
 (Y50 p0).bind fun b1=>(if b1=true then(if (4000:Int)<(E.length:Int) then(Y03 1 (-1)).bind fun(n8,n9)=>some ([],(n8,n9)) else(Y4B E).bind fun J=>(if J=true then(cat p0 [58,32]).bind fun K=>(cat K E).bind fun N=>(chk ((p0.length:Int)+2)).bind fun O=>(Y2y  FU N O []).bind fun(U,V)=>(app 16 V ([U]:List Ls)).bind fun u=>((Y2z u FU 0 0 0:Option ((Int × Int) ⊕ (List Ls × (Int × Int))))).bind fun Y=>(match Y with | .inl (a9,aa)=>(Y0e).bind fun(Z,a0)=>some (u,(Z,a0)) | .inr a1=>some a1) else(Y03 11 (-1)).bind fun(a2,a3)=>some ([],(a2,a3)))) else(Y03 10 (-1)).bind fun(n4,n5)=>some ([],(n4,n5)))
def Y0F (p0:List (Ls × Ls)):Nat->Int->Int->Int->Option ((Int × Int) ⊕ (Int × Int))
 | 0,_,_,_=>none
 | N+1,O,E,u=>(if u<(p0.length:Int) then(idx p0 u).bind fun J=>(Y3O J.1 J.2).bind fun(a1,(K,U))=>(Y08 (K,U)).bind fun V=>(if V=true then(Y03 K u).bind fun(Y,Z)=>some (.inr (Y,Z)) else(chk (u+1)).bind fun a0=>Y0F p0 N O E a0) else some (.inl (O,E)))
def Y2r (p0:List (Ls × Ls)):Option (Int × Int) :=
 (if (60:Int)<(p0.length:Int) then(Y03 2 (-1)).bind fun(N,O)=>some (N,O) else((Y0F p0 FU 0 0 0:Option ((Int × Int) ⊕ (Int × Int)))).bind fun u=>(match u with | .inl (U,V)=>(Y0e).bind fun(E,J)=>some (E,J) | .inr K=>some K))
def Y15 (u:List Ls):Nat->Ls->Int->Option Ls
 | 0,_,_=>none
 | K+1,J,E=>(if E<(u.length:Int) then(idx u E).bind fun N=>(app 1 J N).bind fun O=>(app 1 O ([13,10]:Ls)).bind fun U=>(chk (E+1)).bind fun V=>Y15 u K U V else some J)
def Y16 (p0:(List (Ls × Ls) × Ls)):Nat->Ls->Int->Option Ls
 | 0,_,_=>none
 | J+1,K,E=>(if E<(p0.1.length:Int) then(idx p0.1 E).bind fun u=>(Y3O u.1 u.2).bind fun(N,(V,Y))=>(Y15 N FU K 0).bind fun O=>(chk (E+1)).bind fun U=>Y16 p0 J O U else some K)
def Y1P (p0:(List (Ls × Ls) × Ls)):Option Ls :=
 (Y16 p0 FU [] 0).bind fun J=>(app 1 J ([13,10]:Ls)).bind fun u=>(app 1 u p0.2).bind fun E=>some E
def Y0c (p0:Ls):Nat->Int->Int->Option (Unit ⊕ Int)
 | 0,_,_=>none
 | K+1,n3,u=>(if u<(p0.length:Int) then(idx p0 u).bind fun J=>((if J=13 then(chk (u+1)).bind fun N=>(if N<(p0.length:Int) then(chk (u+1)).bind fun O=>(idx p0 O).bind fun U=>some (decide (U=10)) else some false) else some false)).bind fun V=>(if V=true then(chk (u+1)).bind fun Y=>(chk (Y+1)).bind fun Z=>Y0c p0 K 0 Z else((if J=13 then some true else some (decide (J=10)))).bind fun a0=>(if a0=true then some (.inr 11) else(chk (n3+1)).bind fun E=>(if (998:Int)<E then some (.inr 1) else(chk (u+1)).bind fun a1=>Y0c p0 K E a1))) else some (.inl ()))
def Y2s (p0:Ls):Option Int :=
 ((Y0c p0 FU 0 0:Option (Unit ⊕ Int))).bind fun u=>(match u with | .inl _=>some 0 | .inr E=>some E)
def Y2T (p0:Ls):Option (Int × Int) :=
 (Y2s p0).bind fun u=>(if u=(11:Int) then(Y03 11 (-5)).bind fun(K,N)=>some (K,N) else(if u=(1:Int) then(Y03 1 (-6)).bind fun(O,U)=>some (O,U) else(Y0e).bind fun(E,J)=>some (E,J)))
def Y0A (p0:(List (Ls × Ls) × Ls)):Option (Int × Int) :=
 (Y2r p0.1).bind fun(u,E)=>(Y08 (u,E)).bind fun U=>(if U=true then some (u,E) else(Y1P (p0.1,p0.2)).bind fun V=>(if (12000:Int)<(V.length:Int) then(Y03 1 (-4)).bind fun(J,K)=>some (J,K) else(Y2T p0.2).bind fun(N,O)=>some (N,O)))
def Y32 (p0:(List (Ls × Ls) × Ls)):Option (Ls × (Int × Int)) :=
 (Y0A (p0.1,p0.2)).bind fun(u,E)=>(Y08 (u,E)).bind fun K=>(if K=true then some ([],(u,E)) else(Y1P (p0.1,p0.2)).bind fun N=>(Y0e).bind fun(O,J)=>some (N,(O,J)))
def Y45 (p0:Ls):Option (Ls × Int) :=
 (Y1k p0 10).bind fun u=>(if u<(0:Int) then some (p0,(p0.length:Int)) else(cut p0 0 u).bind fun E=>(Y0r E ([13]:Ls)).bind fun J=>(chk (u+1)).bind fun K=>some (J,K))
def Y22 (p0:Ls)(E:Ls):Option (Ls × Ls × Bool) :=
 (Y0M p0 E).bind fun u=>(if (0:Int)<=u then(cut p0 0 u).bind fun J=>(chk (u+(E.length:Int))).bind fun K=>(cut p0 K (p0.length:Int)).bind fun N=>some (J,N,true) else some (p0,[],false))
def Y2h (p0:Ls)(u:Ls):Option (Ls × Ls × Bool) :=
 (Y22 p0 u).bind fun(E,J,K)=>some (E,J,K)
def Y1b (E:UInt8):Nat->Ls->Option Ls
 | 0,_=>none
 | U+1,u=>((if (0:Int)<(u.length:Int) then(chk ((u.length:Int)-1)).bind fun J=>(idx u J).bind fun K=>some (decide (K=E)) else some false)).bind fun V=>(if V=true then(chk ((u.length:Int)-1)).bind fun N=>(cut u 0 N).bind fun O=>Y1b E U O else some u)
def Y1c (p0:Ls)(u:UInt8):Option Ls :=
 (Y1b u FU p0).bind fun E=>some E
def Y0g (E:List Bool):Nat->Ls->Option Ls
 | 0,_=>none
 | N+1,u=>(if (0:Int)<(u.length:Int) then(chk ((u.length:Int)-1)).bind fun O=>(idx u O).bind fun U=>(Y0b E U).bind fun V=>(if V=true then(chk ((u.length:Int)-1)).bind fun J=>(cut u 0 J).bind fun K=>Y0g E N K else some u) else some u)
def Y0S (p0:Ls)(u:List Bool):Option Ls :=
 (Y0g u FU p0).bind fun E=>some E
def Y1Z (p0:Ls)(u:Ls):Option Ls :=
 ((if p0=[] then some true else some (decide (u=[])))).bind fun V=>(if V=true then some p0 else((if (u.length:Int)=(1:Int) then(idx u 0).bind fun J=>some (decide (J.toNat<128)) else some false)).bind fun Y=>(if Y=true then(idx u 0).bind fun K=>(Y1c p0 K).bind fun N=>some N else(Y0d u).bind fun(E,O)=>(chkA 256 (List.replicate 256 false:List Bool)).bind fun Z=>(chkA 256 E).bind fun a0=>(if O=true then(Y0S p0 E).bind fun U=>some U else none)))
def Y46 (p0:Ls):Option Bool :=
 (Y3O p0 []).bind fun(K,(u,E))=>(Y08 (u,E)).bind fun J=>some (!J)
def Y3v (p0:Ls):Option ((Ls × Ls) × Bool) :=
 (Y2h p0 [58]).bind fun(O,E,U)=>(Y1Z O [32,9]).bind fun u=>((if U=true then(Y46 u).bind fun J=>some (u,E,J) else some (u,E,false))).bind fun(V,K,N)=>some ((V,K),N)
def Y1o (E:UInt8):Nat->Ls->Option Ls
 | 0,_=>none
 | N+1,u=>((if (0:Int)<(u.length:Int) then(idx u 0).bind fun J=>some (decide (J=E)) else some false)).bind fun O=>(if O=true then(cut u 1 (u.length:Int)).bind fun K=>Y1o E N K else some u)
def Y1s (p0:Ls)(u:UInt8):Option Ls :=
 (Y1o u FU p0).bind fun E=>some E
def Y09 (E:List Bool):Nat->Ls->Option Ls
 | 0,_=>none
 | K+1,u=>(if (0:Int)<(u.length:Int) then(idx u 0).bind fun N=>(Y0b E N).bind fun O=>(if O=true then(cut u 1 (u.length:Int)).bind fun J=>Y09 E K J else some u) else some u)
def Y1d (p0:Ls)(u:List Bool):Option Ls :=
 (Y09 u FU p0).bind fun E=>some E
def Y3P (p0:Ls)(u:Ls):Option Ls :=
 ((if p0=[] then some true else some (decide (u=[])))).bind fun b3=>(if b3=true then some p0 else((if (u.length:Int)=(1:Int) then(idx u 0).bind fun J=>some (decide (J.toNat<128)) else some false)).bind fun b9=>(if b9=true then(idx u 0).bind fun K=>(Y1c p0 K).bind fun N=>(idx u 0).bind fun O=>(Y1s N O).bind fun U=>some U else(Y0d u).bind fun(E,V)=>(chkA 256 (List.replicate 256 false:List Bool)).bind fun a2=>(chkA 256 E).bind fun a3=>(if V=true then(Y0S p0 E).bind fun Y=>(Y1d Y E).bind fun Z=>some Z else none)))
def Y1y (p0:Ls):Nat->List (Ls × Ls)->Int->Option (List (Ls × Ls) × Int)
 | 0,_,_=>none
 | O+1,u,E=>(if E<(p0.length:Int) then(cut p0 E (p0.length:Int)).bind fun U=>(Y45 U).bind fun(J,K)=>(if J=[] then(chk (E+K)).bind fun V=>some (u,V) else((idx J 0).bind fun Y=>(Y1H Y).bind fun Z=>(if Z=true then some (decide ((0:Int)<(u.length:Int))) else some false)).bind fun a0=>(if a0=true then(chk ((u.length:Int)-1)).bind fun N=>(idx u N).bind fun a1=>(cat a1.2 J).bind fun a2=>(idx u N).bind fun a3=>(put u N (a3.1,a2)).bind fun a4=>(chk (E+K)).bind fun a5=>Y1y p0 O a4 a5 else(Y3v J).bind fun((a6,a7),a8)=>(if a8=true then(app 32 u ([(a6,a7)]:List (Ls × Ls))).bind fun a9=>(chk (E+K)).bind fun aa=>Y1y p0 O a9 aa else some (u,E)))) else some (u,E))
def Y1z (O:List (Ls × Ls)):Nat->Int->Int->List (Ls × Ls)->Int->Option ((Int × Int × List (Ls × Ls)) ⊕ (List (Ls × Ls) × Int × (Int × Int)))
 | 0,_,_,_,_=>none
 | U+1,J,K,E,u=>(if u<(O.length:Int) then(idx E u).bind fun V=>(Y0G V.2).bind fun Y=>(Y3P Y [32,9]).bind fun N=>(if (4000:Int)<(N.length:Int) then(Y03 1 u).bind fun(Z,a0)=>some (.inr ([],0,(Z,a0))) else(idx E u).bind fun a1=>(put E u (a1.1,N)).bind fun a2=>(chk (u+1)).bind fun a3=>Y1z O U J K a2 a3) else some (.inl (J,K,E)))
def Y3E (p0:Ls):Option (List (Ls × Ls) × Int × (Int × Int)) :=
 (if (12000:Int)<(p0.length:Int) then(Y03 1 (-1)).bind fun(Z,n3)=>some ([],0,(Z,n3)) else(Y1y p0 FU [] 0).bind fun(u,E)=>(if (60:Int)<(u.length:Int) then(Y03 2 (-2)).bind fun(J,K)=>some ([],0,(J,K)) else(Y2B ([[0],[32],[13],[32]]:List Ls)).bind fun _=>((Y1z u FU 0 0 u 0:Option ((Int × Int × List (Ls × Ls)) ⊕ (List (Ls × Ls) × Int × (Int × Int))))).bind fun N=>(match N with | .inl (a1,a2,O)=>(Y0e).bind fun(U,V)=>some (O,E,(U,V)) | .inr Y=>some Y)))
def Y0K (p0:Ls):Nat->Ls->Int->Option Ls
 | 0,_,_=>none
 | E+1,J,u=>(if u<(p0.length:Int) then((idx p0 u).bind fun K=>(if K=13 then(chk (u+1)).bind fun N=>(if N<(p0.length:Int) then(chk (u+1)).bind fun O=>(idx p0 O).bind fun U=>some (decide (U=10)) else some false) else some false)).bind fun V=>(if V=true then(chk (u+1)).bind fun Y=>(app 1 J ([13,10]:Ls)).bind fun Z=>(chk (Y+1)).bind fun a0=>Y0K p0 E Z a0 else((idx p0 u).bind fun a1=>(if a1=13 then some true else(idx p0 u).bind fun a2=>some (decide (a2=10)))).bind fun a3=>(if a3=true then(app 1 J ([13,10]:Ls)).bind fun a4=>(chk (u+1)).bind fun a5=>Y0K p0 E a4 a5 else(idx p0 u).bind fun a6=>(app 1 J ([a6]:Ls)).bind fun a7=>(chk (u+1)).bind fun a8=>Y0K p0 E a7 a8)) else some J)
def Y3w (p0:Ls):Option Ls :=
 (Y0K p0 FU [] 0).bind fun u=>some u
def Y3p (p0:Ls):Option ((List (Ls × Ls) × Ls) × (Int × Int)) :=
 (Y3E p0).bind fun(K,Z,(N,O))=>(Y08 (N,O)).bind fun b6=>(if b6=true then some (([],[]),(N,O)) else(cut p0 Z (p0.length:Int)).bind fun l9=>(Y3w l9).bind fun u=>(Y0A (K,u)).bind fun(E,J)=>(Y08 (E,J)).bind fun U=>(if U=true then some (([],[]),(E,J)) else(Y0e).bind fun(V,Y)=>some ((K,u),(V,Y))))
def Y3g (p0:Ls)(u:Ls):Option Ls :=
 ((if p0=[] then some true else some (decide (u=[])))).bind fun V=>(if V=true then some p0 else((if (u.length:Int)=(1:Int) then(idx u 0).bind fun J=>some (decide (J.toNat<128)) else some false)).bind fun Y=>(if Y=true then(idx u 0).bind fun K=>(Y1s p0 K).bind fun N=>some N else(Y0d u).bind fun(E,O)=>(chkA 256 (List.replicate 256 false:List Bool)).bind fun Z=>(chkA 256 E).bind fun a0=>(if O=true then(Y1d p0 E).bind fun U=>some U else none)))
def Y19 (p0:Ls):Option Ls :=
 (Y3g p0 [32,9]).bind fun u=>some u
def Y0E (J:(UInt8->Option Bool))(E:Ls):Nat->Int->Option Int
 | 0,_=>none
 | V+1,u=>((if u<(E.length:Int) then(idx E u).bind fun K=>(J K).bind fun N=>some N else some false)).bind fun O=>(if O=true then(chk (u+1)).bind fun U=>Y0E J E V U else some u)
def Y1e (p0:Ls)(N:(UInt8->Option Bool)):Option (Ls × Ls) :=
 (Y19 p0).bind fun u=>(Y0E N u FU 0).bind fun E=>(cut u 0 E).bind fun J=>(cut u E (u.length:Int)).bind fun K=>some (J,K)
def Y0X (p0:UInt8):Option Bool :=
 ((if 33<=p0.toNat then(if p0.toNat<=126 then(Y1a [40,41,60,62,64,44,59,58,92,34,47,91,93,63,61,42,37,39] p0).bind fun u=>some (decide (u<(0:Int))) else some false) else some false)).bind fun E=>some E
def Y1f (p0:Ls)(J:UInt8):Option (Bool × Ls) :=
 (Y19 p0).bind fun u=>((if u=[] then some true else(idx u 0).bind fun K=>some (!decide (K=J)))).bind fun N=>(if N=true then some (false,u) else(cut u 1 (u.length:Int)).bind fun E=>some (true,E))
def Y23 (p0:UInt8):Option Bool :=
 ((Y0X p0).bind fun u=>(if u=true then some true else some (decide (p0=42)))).bind fun E=>some E
def Y1L (p0:UInt8):Option Bool :=
 ((Y0X p0).bind fun u=>(if u=true then some true else(if p0=37 then some true else(if p0=39 then some true else some (decide (p0=42)))))).bind fun E=>some E
def Y0x  : Nat->Ls->Ls->Int->Option (Ls ⊕ (Ls × Bool × Ls))
 | 0,_,_,_=>none
 | O+1,u,J,E=>(if E<(u.length:Int) then(idx u E).bind fun K=>(if K=34 then(chk (E+1)).bind fun U=>(cut u U (u.length:Int)).bind fun V=>some (.inr (J,true,V)) else(if K=92 then(chk (E+1)).bind fun N=>(if N=(u.length:Int) then some (.inr ([],false,u)) else(idx u N).bind fun Y=>(app 1 J ([Y]:Ls)).bind fun Z=>(chk (N+1)).bind fun a0=>Y0x  O u Z a0) else(app 1 J ([K]:Ls)).bind fun a1=>(chk (E+1)).bind fun a2=>Y0x  O u a1 a2)) else some (.inl u))
def Y1E (p0:Ls):Option (Ls × Bool × Ls) :=
 (Y1f p0 34).bind fun(N,u)=>(if N=true then((Y0x  FU u [] 0:Option (Ls ⊕ (Ls × Bool × Ls)))).bind fun E=>(match E with | .inl J=>some ([],false,J) | .inr K=>some K) else(Y1e u Y1L).bind fun(O,U)=>some (O,true,U))
def Y0h (p0:Ls)(u:Ls):Option Bool :=
 ((if (u.length:Int)<=(p0.length:Int) then(chk ((p0.length:Int)-(u.length:Int))).bind fun E=>(cut p0 E (p0.length:Int)).bind fun J=>some (decide (J=u)) else some false)).bind fun K=>some K
def Y1g (p0:Ls)(u:Ls):Option (Ls × Bool) :=
 (Y0h p0 u).bind fun E=>(if E=true then(chk ((p0.length:Int)-(u.length:Int))).bind fun J=>(cut p0 0 J).bind fun K=>some (K,true) else some (p0,false))
def Y1v (p0:Ls)(u:Ls):Option (Ls × Bool) :=
 (Y1g p0 u).bind fun(E,J)=>some (E,J)
def Y3Q (p0:Ls)(E:Int):Option (Int × Bool) :=
 (strconv_Atoi p0).bind fun(u,J)=>((if J=true then(strconv_Itoa u).bind fun K=>(if K=p0 then(if u<(0:Int) then some true else some (decide (E<u))) else some true) else some true)).bind fun N=>(if N=true then some (0,false) else some (u,true))
def Y2t (p0:Ls):Option ((Ls × Int × Bool × Ls) × Bool × Ls) :=
 (Y1e p0 Y23).bind fun(s1,o2)=>(Y1f o2 61).bind fun(b4,O)=>(if b4=true then(Y1E O).bind fun(U,V,Y)=>(Y2h s1 [42]).bind fun(u,Z,a0)=>((if a0=true then(Y1v Z [42]).bind fun(a1,a2)=>(Y3Q a1 1099511627776).bind fun(a3,a4)=>((if V=true then some a4 else some false)).bind fun a5=>some (a5,u,a3,a2,U) else some (V,u,(-1),false,U))).bind fun(a6,E,J,K,N)=>((if a6=true then some (E,J,K,N,!decide (u=[])) else some (E,J,K,N,false))).bind fun(a7,a8,a9,aa,ab)=>some ((a7,a8,a9,aa),ab,Y) else some (([],0,false,[]),false,O))
def Y0i (p0:List (Ls × Int × Bool × Ls))(J:((Ls × Int × Bool × Ls)->Option Bool)):Nat->Int->Option (Unit ⊕ Int)
 | 0,_=>none
 | N+1,u=>(if u<(p0.length:Int) then(idx p0 u).bind fun E=>(J (E.1,E.2.1,E.2.2.1,E.2.2.2)).bind fun O=>(if O=true then some (.inr u) else(chk (u+1)).bind fun K=>Y0i p0 J N K) else some (.inl ()))
def Y27 (p0:List (Ls × Int × Bool × Ls))(J:((Ls × Int × Bool × Ls)->Option Bool)):Option Int :=
 ((Y0i p0 J FU 0:Option (Unit ⊕ Int))).bind fun u=>(match u with | .inl _=>some (-1) | .inr E=>some E)
def Y0Y (p0:List (Ls × Int × Bool × Ls))(u:((Ls × Int × Bool × Ls)->Option Bool)):Option Bool :=
 (Y27 p0 u).bind fun E=>some (decide ((0:Int)<=E))
def Y2i (p0:(Ls × Int × Bool × Ls))(u:(Ls × Int × Bool × Ls)):Option Bool :=
 (Y0N p0.1 u.1).bind fun E=>some E
def Y0p (u:Ls):Nat->Ls->Int->Option Ls
 | 0,_,_=>none
 | K+1,J,E=>(if E<(u.length:Int) then(idx u E).bind fun O=>(((if O=37 then(chk (E+1)).bind fun U=>(cut u U (u.length:Int)).bind fun V=>(Y2q V).bind fun(Y,Z)=>(if Z=true then(app 1 J ([Y]:Ls)).bind fun a0=>(chk (E+2)).bind fun a1=>some (.inr (a0,a1)) else some (.inl (J,E))) else some (.inl (J,E))):Option ((Ls × Int) ⊕ (Ls × Int)))).bind fun a2=>(match a2 with | .inl (a3,N)=>(idx u N).bind fun a4=>(app 1 a3 ([a4]:Ls)).bind fun a5=>(chk (N+1)).bind fun a6=>Y0p u K a5 a6 | .inr (a7,a8)=>(chk (a8+1)).bind fun a9=>Y0p u K a7 a9) else some J)
def Y2E (p0:(Ls × Int × Bool × Ls)):Option Ls :=
 (if p0.2.2.1=true then((if p0.2.1=(0:Int) then(if (6:Int)<=(p0.2.2.2.length:Int) then(cut p0.2.2.2 0 6).bind fun K=>(Y0N K [117,116,102,56,39,39]).bind fun N=>some N else some false) else some false)).bind fun O=>((if O=true then(cut p0.2.2.2 6 (p0.2.2.2.length:Int)).bind fun u=>some u else some p0.2.2.2)).bind fun E=>(Y0p E FU [] 0).bind fun J=>some J else some p0.2.2.2)
def Y1p (U:List (Ls × Int × Bool × Ls)):Nat->Ls->Ls->Ls->Ls->Int->Option ((Ls × Ls × Ls × Ls) ⊕ ((Ls × Ls) × Bool))
 | 0,_,_,_,_,_=>none
 | V+1,N,O,J,K,E=>(if E<(U.length:Int) then(idx U E).bind fun u=>(if u.2.1=E then(Y2E (u.1,u.2.1,u.2.2.1,u.2.2.2)).bind fun Y=>(cat K Y).bind fun Z=>(chk (E+1)).bind fun a0=>Y1p U V N O J Z a0 else some (.inr ((J,K),false))) else some (.inl (N,O,J,K)))
def Y3R (p0:List (Ls × Int × Bool × Ls)):Option ((Ls × Ls) × Bool) :=
 (idx p0 0).bind fun u=>(idx p0 0).bind fun U=>(idx p0 0).bind fun V=>(if V.2.1<(0:Int) then some ((u.1,U.2.2.2),decide ((p0.length:Int)=(1:Int))) else(Y0w p0).bind fun Y=>((Y1p Y FU [] [] u.1 [] 0:Option ((Ls × Ls × Ls × Ls) ⊕ ((Ls × Ls) × Bool)))).bind fun E=>(match E with | .inl (s9,Z,J,K)=>(Y21 K [239,191,189]).bind fun N=>some ((J,N),true) | .inr O=>some O))
def Y0Z (p0:List (Ls × Int × Bool × Ls))(E:(Ls × Int × Bool × Ls)):Nat->List (Ls × Int × Bool × Ls)->Int->Option (List (Ls × Int × Bool × Ls))
 | 0,_,_=>none
 | N+1,K,J=>(if J<(p0.length:Int) then(idx p0 J).bind fun u=>(Y2i (u.1,u.2.1,u.2.2.1,u.2.2.2) (E.1,E.2.1,E.2.2.1,E.2.2.2)).bind fun O=>(if O=true then(app 48 K ([(u.1,u.2.1,u.2.2.1,u.2.2.2)]:List (Ls × Int × Bool × Ls))).bind fun U=>(chk (J+1)).bind fun V=>Y0Z p0 E N U V else(chk (J+1)).bind fun Y=>Y0Z p0 E N K Y) else some K)
def Y10 (p0:List (Ls × Int × Bool × Ls)):Nat->List (Ls × Ls)->Int->Option (List (Ls × Ls) ⊕ (List (Ls × Ls) × Bool))
 | 0,_,_=>none
 | J+1,K,E=>(if E<(p0.length:Int) then(idx p0 E).bind fun u=>(cut p0 0 E).bind fun N=>(Y0Y N (fun z0=>Y2i z0 (u.1,u.2.1,u.2.2.1,u.2.2.2))).bind fun O=>(if O=true then(chk (E+1)).bind fun U=>Y10 p0 J K U else(Y0Z p0 u FU [] 0).bind fun V=>(Y3R V).bind fun((a2,Y),Z)=>(if Z=true then(app 32 K ([(u.1,Y)]:List (Ls × Ls))).bind fun a0=>(chk (E+1)).bind fun a1=>Y10 p0 J a0 a1 else some (.inr ([],false)))) else some (.inl K))
def Y3S (p0:List (Ls × Int × Bool × Ls)):Option (List (Ls × Ls) × Bool) :=
 ((Y10 p0 FU [] 0:Option (List (Ls × Ls) ⊕ (List (Ls × Ls) × Bool)))).bind fun u=>(match u with | .inl J=>some (J,true) | .inr E=>some E)
def Y1T (O:Ls)(U:Ls):Nat->Ls->Ls->List (Ls × Ls)->Ls->List (Ls × Int × Bool × Ls)->Option ((Ls × Ls × List (Ls × Ls) × Ls × List (Ls × Int × Bool × Ls)) ⊕ ((Ls × Ls × List (Ls × Ls)) × Bool))
 | 0,_,_,_,_,_=>none
 | V+1,u,E,J,Y,K=>(Y1f Y 59).bind fun(Z,N)=>(if Z=true then(Y2t N).bind fun((a0,a1,a2,a3),a4,a5)=>(if a4=true then(app 48 K ([(a0,a1,a2,a3)]:List (Ls × Int × Bool × Ls))).bind fun a6=>Y1T O U V u E J a5 a6 else some (.inr ((O,U,[]),false))) else some (.inl (u,E,J,N,K)))
def Y47 (p0:Ls):Option ((Ls × Ls × List (Ls × Ls)) × Bool) :=
 (Y1e p0 Y0X).bind fun(u,o2)=>(Y1f o2 47).bind fun(b4,o5)=>(Y1e o5 Y0X).bind fun(E,o8)=>((if u=[] then some true else(if b4=true then some (decide (E=[])) else some true))).bind fun K=>(if K=true then some ((u,E,[]),false) else((Y1T u E FU [] [] [] o8 []:Option ((Ls × Ls × List (Ls × Ls) × Ls × List (Ls × Int × Bool × Ls)) ⊕ ((Ls × Ls × List (Ls × Ls)) × Bool)))).bind fun N=>(match N with | .inl (a8,a9,aa,O,U)=>(Y19 O).bind fun V=>(Y3S U).bind fun(J,Y)=>((if Y=true then some (u,E,J,decide (V=[])) else some (u,E,J,false))).bind fun(Z,a0,a1,a2)=>some ((Z,a0,a1),a2) | .inr a3=>some a3))
def Y2U (p0:Ls):Option Bool :=
 ((if p0=[] then some false else(if (p0.length:Int)<=(60:Int) then(Y2S p0 Y0X).bind fun u=>some u else some false))).bind fun E=>some E
def Y0j (p0:List (Ls × Ls))(E:((Ls × Ls)->Option Bool)):Nat->Int->Option (Unit ⊕ Int)
 | 0,_=>none
 | N+1,u=>(if u<(p0.length:Int) then(idx p0 u).bind fun J=>(E (J.1,J.2)).bind fun O=>(if O=true then some (.inr u) else(chk (u+1)).bind fun K=>Y0j p0 E N K) else some (.inl ()))
def Y28 (p0:List (Ls × Ls))(J:((Ls × Ls)->Option Bool)):Option Int :=
 ((Y0j p0 J FU 0:Option (Unit ⊕ Int))).bind fun u=>(match u with | .inl _=>some (-1) | .inr E=>some E)
def Y11 (p0:List (Ls × Ls))(u:((Ls × Ls)->Option Bool)):Option Bool :=
 (Y28 p0 u).bind fun E=>some (decide ((0:Int)<=E))
def Y3h (p0:(Ls × Ls))(u:(Ls × Ls)):Option Bool :=
 (Y0N p0.1 u.1).bind fun E=>some E
def Y0O (p0:(Ls × Ls × List (Ls × Ls))):Nat->Int->Int->Int->Option ((Int × Int) ⊕ (Int × Int))
 | 0,_,_,_=>none
 | N+1,J,K,u=>(if u<(p0.2.2.length:Int) then(idx p0.2.2 u).bind fun E=>((Y2U E.1).bind fun O=>(if O=true then some (decide ((20:Int)<(E.1.length:Int))) else some true)).bind fun U=>(if U=true then(Y03 10 u).bind fun(V,Y)=>some (.inr (V,Y)) else(cut p0.2.2 0 u).bind fun Z=>(Y11 Z (fun z0=>Y3h z0 (E.1,E.2))).bind fun a0=>(if a0=true then(Y03 7 u).bind fun(a1,a2)=>some (.inr (a1,a2)) else(if (500:Int)<(E.2.length:Int) then(Y03 1 u).bind fun(a3,a4)=>some (.inr (a3,a4)) else(Y3f E.2).bind fun a5=>(if a5=true then(chk (u+1)).bind fun a6=>Y0O p0 N J K a6 else(Y03 5 u).bind fun(a7,a8)=>some (.inr (a7,a8)))))) else some (.inl (J,K)))
def Y2j (p0:(Ls × Ls × List (Ls × Ls))):Option (Int × Int) :=
 ((Y2U p0.1).bind fun Y=>(if Y=true then(Y2U p0.2.1).bind fun Z=>some (!Z) else some true)).bind fun b3=>(if b3=true then(Y03 10 (-2)).bind fun(u,E)=>some (u,E) else(if (60:Int)<(p0.2.2.length:Int) then(Y03 2 (-3)).bind fun(J,K)=>some (J,K) else((Y0O p0 FU 0 0 0:Option ((Int × Int) ⊕ (Int × Int)))).bind fun N=>(match N with | .inl (a1,a2)=>(Y0e).bind fun(O,U)=>some (O,U) | .inr V=>some V)))
def Y48 (p0:Ls):Option ((Ls × Ls × List (Ls × Ls)) × (Int × Int)) :=
 (if (4000:Int)<(p0.length:Int) then(Y03 1 (-1)).bind fun(n2,n3)=>some (([],[],[]),(n2,n3)) else(Y47 p0).bind fun((E,J,K),b9)=>(if b9=true then(Y2j (E,J,K)).bind fun(u,N)=>(Y08 (u,N)).bind fun O=>(if O=true then(Y03 u (-6)).bind fun(U,V)=>some (([],[],[]),(U,V)) else(Y0e).bind fun(Y,Z)=>some ((E,J,K),(Y,Z))) else(Y03 11 (-5)).bind fun(a0,a1)=>some (([],[],[]),(a0,a1))))
def Y1Q (p0:List (Ls × Ls)):Nat->Ls->Ls->List (Ls × Ls)->Int->Int->Option ((Ls × Ls × List (Ls × Ls) × Int) ⊕ ((Ls × Ls × List (Ls × Ls)) × Int × Bool))
 | 0,_,_,_,_,_=>none
 | N+1,O,E,J,K,u=>(if u<(p0.length:Int) then(idx p0 u).bind fun U=>(Y0N U.1 [67,111,110,116,101,110,116,45,84,121,112,101]).bind fun V=>(if V=true then(if (0:Int)<=K then some (.inr (([],[],[]),0,false)) else(chk (u+1)).bind fun Y=>Y1Q p0 N O E J u Y) else(chk (u+1)).bind fun Z=>Y1Q p0 N O E J K Z) else some (.inl (O,E,J,K)))
def Y3q (p0:List (Ls × Ls)):Option ((Ls × Ls × List (Ls × Ls)) × Int × Bool) :=
 ((Y1Q p0 FU [] [] [] (-1) 0:Option ((Ls × Ls × List (Ls × Ls) × Int) ⊕ ((Ls × Ls × List (Ls × Ls)) × Int × Bool)))).bind fun E=>(match E with | .inl (s3,s4,l6,u)=>(if u<(0:Int) then some (([],[],[]),0,false) else(idx p0 u).bind fun J=>(Y48 J.2).bind fun((K,N,O),(U,V))=>(Y08 (U,V)).bind fun Y=>some ((K,N,O),u,!Y)) | .inr Z=>some Z)
def Y1U (p0:(Ls × Ls × List (Ls × Ls)))(N:Ls):Nat->Int->Int->Int->Option ((Int × Int) ⊕ (Ls × Bool × (Int × Int)))
 | 0,_,_,_=>none
 | O+1,E,J,u=>(if u<(p0.2.2.length:Int) then(idx p0.2.2 u).bind fun K=>(Y0N K.1 N).bind fun U=>(if U=true then(Y0e).bind fun(V,Y)=>some (.inr (K.2,true,(V,Y))) else(chk (u+1)).bind fun Z=>Y1U p0 N O E J Z) else some (.inl (E,J)))
def Y3F (p0:(Ls × Ls × List (Ls × Ls)))(U:Ls):Option (Ls × Bool × (Int × Int)) :=
 (Y2j (p0.1,p0.2.1,p0.2.2)).bind fun(u,E)=>(Y08 (u,E)).bind fun V=>(if V=true then some ([],false,(u,E)) else((Y1U p0 U FU 0 0 0:Option ((Int × Int) ⊕ (Ls × Bool × (Int × Int))))).bind fun J=>(match J with | .inl (Z,Y)=>(Y0e).bind fun(K,N)=>some ([],false,(K,N)) | .inr O=>some O))
def Y2F (p0:UInt8):Option Bool :=
 ((if 32<=p0.toNat then some (decide (p0.toNat<=126)) else some false)).bind fun u=>some u
def Y1h (p0:Ls)(u:Ls):Option Bool :=
 (Y0h p0 u).bind fun E=>some E
def Y39 (p0:List (Ls × Ls)):Option (Ls × Bool) :=
 (Y3q p0).bind fun((E,s2,l3),n4,b5)=>((if b5=true then(Y0N E [109,117,108,116,105,112,97,114,116]).bind fun J=>some (!J) else some true)).bind fun K=>(if K=true then some ([],false) else(Y3F (E,s2,l3) [98,111,117,110,100,97,114,121]).bind fun(u,N,(a2,a3))=>((if u=[] then some false else(if (u.length:Int)<=(60:Int) then(Y2S u Y2F).bind fun O=>(if O=true then(Y1h u [32]).bind fun U=>some (!U) else some false) else some false))).bind fun V=>((if N=true then some (u,V) else some (u,false))).bind fun(Y,Z)=>some (Y,Z))
def Y49 (p0:Ls):Option Ls :=
 some p0
def Y17 {σ:Type}(Y:σ->(Int × Ls)->Option (σ × Bool))(u:Ls):Nat->Int->σ->Option (σ ⊕ σ)
 | 0,_,_=>none
 | m6+1,E,K=>(if E<(u.length:Int) then(cut u E (u.length:Int)).bind fun l8=>(Y3j l8 ([13,10]:Ls)).bind fun N=>((if (0:Int)<=N then(chk (E+N)).bind fun O=>(chk (E+N)).bind fun U=>(chk (U+2)).bind fun V=>some (O,V,K) else some ((u.length:Int),(u.length:Int),K))).bind fun(Z,a0,a1)=>(cut u E Z).bind fun a2=>(Y a1 (E,a2)).bind fun(J,a3)=>(if a3=true then Y17 Y u m6 a0 J else some (.inr J)) else some (.inl K))
def Y33 (J:Ls)(σ:Type)(Y:σ->(Int × Ls)->Option (σ × Bool))(K:σ):Option σ :=
 ((Y17 Y J FU 0 K:Option (σ ⊕ σ))).bind fun u=>(match u with | .inl N=>some N | .inr E=>some E)
def Y4D (p0:Ls)(u:Ls):Option Int :=
 (Y1Z p0 [32,9]).bind fun E=>(cat [45,45] u).bind fun J=>(if E=J then some 1 else(cat [45,45] u).bind fun K=>(cat K [45,45]).bind fun N=>(if E=N then some 2 else some 0))
def Y1w (p0:Ls)(p1:Ls)(s:((List Ls × Int) × Nat))(x:(Int × Ls)):Option ((List Ls × Int) × Nat) :=
 match s,x with
 |((O,u),_),(E,J)=>(Y4D J p1).bind fun K=>(if K=(0:Int) then some ((O,u),0) else((if (0:Int)<=u then(chk (E-2)).bind fun U=>(cut p0 u (max u U)).bind fun V=>(app 24 O ([V]:List Ls)).bind fun Y=>some Y else some O)).bind fun N=>(if K=(2:Int) then some ((N,u),1) else(chk (E+(J.length:Int))).bind fun Z=>(chk (Z+2)).bind fun a0=>some ((N,(min a0 (p0.length:Int))),0)))
def Y2V (p0:Ls)(O:Ls):Option (List Ls) :=
 (Y49 p0).bind fun l2=>(Y33 l2 ((List Ls × Int) × Nat) (stepY exStop (Y1w p0 O)) (([],(-1)),0)).bind fun((J,E),u)=>(if u=0 then(if (0:Int)<=E then(cut p0 E (p0.length:Int)).bind fun K=>(app 24 J ([K]:List Ls)).bind fun N=>some N else some J) else(if u=1 then some J else none))
def Y3G (p0:List (Ls × Ls))(u:Ls)(E:Int):Option (List Ls) :=
 (Y39 p0).bind fun(J,K)=>((if K=true then some (decide ((8:Int)<=E)) else some true)).bind fun N=>(if N=true then some [] else(Y2V u J).bind fun O=>some O)
def Y3T (p0:(Ls × Ls)):Option Bool :=
 (Y0N p0.1 [98,111,117,110,100,97,114,121]).bind fun u=>some u
def Y3x (p0:UInt8):Option Bool :=
 ((if 32<=p0.toNat then some (decide (p0.toNat<=126)) else some false)).bind fun u=>some u
def Y2W (p0:UInt8):Option UInt8 :=
 (idx [48,49,50,51,52,53,54,55,56,57,65,66,67,68,69,70] ((p0 &&& (15:UInt8)).toNat:Int)).bind fun u=>some u
def Y1q (p0:Ls):Nat->List Ls->Int->Option (List Ls)
 | 0,_,_=>none
 | N+1,E,u=>(if u<(p0.length:Int) then(chk (u+1)).bind fun O=>(cut p0 u O).bind fun U=>(idx p0 u).bind fun V=>(Y0X V).bind fun Y=>((if Y=true then some U else(idx p0 u).bind fun Z=>(Y2W (UInt8.ofNat (Z.toNat / 2 ^ 4))).bind fun a0=>(idx p0 u).bind fun a1=>(Y2W a1).bind fun a2=>some ([37,a0,a2]:Ls))).bind fun K=>(chk ((E.length:Int)-1)).bind fun J=>(idx E J).bind fun a3=>(chk ((a3.length:Int)+(K.length:Int))).bind fun a4=>(if a4<=(60:Int) then(idx E J).bind fun a5=>(cat a5 K).bind fun a6=>(idx E J).bind fun ab=>(put E J a6).bind fun a7=>(chk (u+1)).bind fun a8=>Y1q p0 N a7 a8 else(app 16 E ([K]:List Ls)).bind fun a9=>(chk (u+1)).bind fun aa=>Y1q p0 N a9 aa) else some E)
def Y3U (p0:Ls):Option (List Ls) :=
 (Y1q p0 FU ([[117,116,102,56,39,39]]:List Ls) 0).bind fun u=>some u
def Y1A (p0:(Ls × Ls))(E:List Ls):Nat->Ls->Int->Option Ls
 | 0,_,_=>none
 | K+1,J,u=>(if u<(E.length:Int) then(idx E u).bind fun N=>(cat [59,32] p0.1).bind fun O=>(cat O [42]).bind fun U=>(strconv_Itoa u).bind fun V=>(cat U V).bind fun Y=>(cat Y [42,61]).bind fun Z=>(cat Z N).bind fun a0=>(cat J a0).bind fun a1=>(chk (u+1)).bind fun a2=>Y1A p0 E K a1 a2 else some J)
def Y4a (p0:(Ls × Ls)):Option Ls :=
 (Y2U p0.2).bind fun Y=>(if Y=true then(cat [59,32] p0.1).bind fun Z=>(cat Z [61]).bind fun s5=>(cat s5 p0.2).bind fun s6=>some s6 else((if (p0.2.length:Int)<=(60:Int) then(Y2S p0.2 Y3x).bind fun u=>some u else some false)).bind fun b9=>(if b9=true then(cat [59,32] p0.1).bind fun E=>(cat E [61,34]).bind fun J=>(Y2c ([[92],[92,92],[34],[92,34]]:List Ls)).bind fun _=>(Y0P p0.2).bind fun K=>(cat J K).bind fun N=>(cat N [34]).bind fun O=>some O else(Y3U p0.2).bind fun U=>(Y1A p0 U FU [] 0).bind fun V=>some V))
def Y1V (p0:(Ls × Ls × List (Ls × Ls))):Nat->Ls->Int->Option Ls
 | 0,_,_=>none
 | K+1,E,u=>(if u<(p0.2.2.length:Int) then(idx p0.2.2 u).bind fun J=>(Y4a (J.1,J.2)).bind fun N=>(cat E N).bind fun O=>(chk (u+1)).bind fun U=>Y1V p0 K O U else some E)
def Y3m (p0:(Ls × Ls × List (Ls × Ls))):Option (Ls × (Int × Int)) :=
 (Y2j (p0.1,p0.2.1,p0.2.2)).bind fun(E,J)=>(Y08 (E,J)).bind fun V=>(if V=true then some ([],(E,J)) else(cat p0.1 [47]).bind fun Y=>(cat Y p0.2.1).bind fun Z=>(Y1V p0 FU Z 0).bind fun u=>(if (4000:Int)<(u.length:Int) then(Y03 1 (-4)).bind fun(K,N)=>some ([],(K,N)) else(Y0e).bind fun(O,U)=>some (u,(O,U))))
def Y4E (p0:List (Ls × Ls)):Option (List (Ls × Ls) × Bool) :=
 (Y3q p0).bind fun((Y,Z,l3),E,b5)=>(Y2C l3 Y3T).bind fun l8=>(Y3m (Y,Z,l8)).bind fun(J,(K,N))=>(Y08 (K,N)).bind fun O=>(if O=true then some ([],false) else(Y0Q p0).bind fun u=>(idx u E).bind fun U=>(put u E (U.1,J)).bind fun V=>some (V,true))
def Y24 (self:(Int × Int × Int)->(List (Ls × Ls))->Ls->Int->Option ((List (Ls × Ls) × Ls × List BT38) × Bool × (Int × Int × Int)))(p0:(Int × Int × Int))(E:Ls)(p2:Int):Option ((List (Ls × Ls) × Ls × List BT38) × Bool × (Int × Int × Int)) :=
 (Y3E E).bind fun(l1,n2,(J,n4))=>(Y08 (J,n4)).bind fun b6=>(if b6=true then(Y03 J (-8)).bind fun(n9,K)=>some (([],[],[]),false,(p0.1,n9,K)) else(if p0.1=(40:Int) then(Y03 2 (-7)).bind fun(N,O)=>some (([],[],[]),false,(p0.1,N,O)) else(cut E n2 (E.length:Int)).bind fun U=>(self (p0.1,p0.2.1,p0.2.2) l1 U p2).bind fun((V,Y,Z),a0,u)=>some ((V,Y,Z),a0,(u.1,u.2.1,u.2.2))))
def Y0q (self:(Int × Int × Int)->(List (Ls × Ls))->Ls->Int->Option ((List (Ls × Ls) × Ls × List BT38) × Bool × (Int × Int × Int)))(p3:Int)(E:List Ls):Nat->Int->Int->Int->List (Ls × Ls)->Ls->List BT38->List (Ls × Ls)->Ls->List BT38->Int->Option ((List (Ls × Ls) × Ls × List BT38 × List (Ls × Ls) × Ls × List BT38 × Int × Int × Int) ⊕ ((List (Ls × Ls) × Ls × List BT38) × Bool × (Int × Int × Int)))
 | 0,_,_,_,_,_,_,_,_,_,_=>none
 | a3+1,K,N,O,U,V,Y,Z,a0,a1,J=>(if J<(E.length:Int) then(idx E J).bind fun a4=>(chk (p3+1)).bind fun a5=>(Y24 self (K,N,O) a4 a5).bind fun((a6,a7,a8),a9,u)=>(if a9=true then(app 72 a1 ([(BT38.of (a6,a7,a8))]:List BT38)).bind fun aa=>(chk (J+1)).bind fun ab=>Y0q self p3 E a3 u.1 u.2.1 u.2.2 U V Y Z a0 aa ab else some (.inr (([],[],[]),false,(u.1,u.2.1,u.2.2)))) else some (.inl (U,V,Y,Z,a0,a1,K,N,O)))
def Y2d (self:(Int × Int × Int)->(List (Ls × Ls))->Ls->Int->Option ((List (Ls × Ls) × Ls × List BT38) × Bool × (Int × Int × Int)))(p0:(Int × Int × Int))(E:List (Ls × Ls))(K:Ls)(N:Int):Option ((List (Ls × Ls) × Ls × List BT38) × Bool × (Int × Int × Int)) :=
 (chk (p0.1+1)).bind fun J=>(Y0Q E).bind fun l2=>(Y2p K).bind fun O=>(Y3G E K N).bind fun u=>(if (u.length:Int)=(0:Int) then some ((l2,O,[]),true,(J,p0.2.1,p0.2.2)) else(Y4E E).bind fun(U,V)=>(if V=true then((Y0q self N u FU J p0.2.1 p0.2.2 [] [] [] U [] [] 0:Option ((List (Ls × Ls) × Ls × List BT38 × List (Ls × Ls) × Ls × List BT38 × Int × Int × Int) ⊕ ((List (Ls × Ls) × Ls × List BT38) × Bool × (Int × Int × Int))))).bind fun Y=>(match Y with | .inl (a6,a7,a8,Z,a0,a1,a2,a3,a4)=>some ((Z,a0,a1),true,(a2,a3,a4)) | .inr a5=>some a5) else some ((l2,O,[]),true,(J,p0.2.1,p0.2.2))))
def Y0y : Nat->(Int × Int × Int)->(List (Ls × Ls))->Ls->Int->Option ((List (Ls × Ls) × Ls × List BT38) × Bool × (Int × Int × Int))
 | 0,_,_,_,_=>none
 | m+1,p0,u,E,J=>Y2d (Y0y m) p0 u E J
def Y3n (p0:(Int × Int × Int))(u:List (Ls × Ls))(E:Ls)(J:Int):Option ((List (Ls × Ls) × Ls × List BT38) × Bool × (Int × Int × Int)):=Y0y FU p0 u E J
def Y3H (p0:(List (Ls × Ls) × Ls × List BT38)):Option Int :=
 (Y3q p0.1).bind fun((E,J,l3),n4,b5)=>((if (0:Int)<(p0.2.1.length:Int) then some true else(if b5=true then(Y0N E [109,117,108,116,105,112,97,114,116]).bind fun K=>some (!K) else some true))).bind fun N=>(if N=true then some 5 else(Y3F (E,J,l3) [98,111,117,110,100,97,114,121]).bind fun(a3,O,(a4,a5))=>(Y3m (E,J,l3)).bind fun(u,(U,V))=>((if O=true then some true else(if (60:Int)<=(l3.length:Int) then some true else(Y08 (U,V)).bind fun Y=>(if Y=true then some true else(idx p0.1 n4).bind fun Z=>(if u=Z.2 then some (decide ((2000:Int)<(u.length:Int))) else some true))))).bind fun a0=>(if a0=true then some 5 else some 0))
def Y25 (p0:(List (Ls × Ls) × Ls × List BT38 × Int)):Option Int :=
 (Y2r p0.1).bind fun(E,K)=>(Y08 (E,K)).bind fun N=>(if N=true then some E else(if (0:Int)<(p0.2.2.1.length:Int) then(Y3H (p0.1,p0.2.1,p0.2.2.1)).bind fun O=>some O else(if (12000:Int)<(p0.2.1.length:Int) then some 1 else(Y2s p0.2.1).bind fun u=>(if u=(0:Int) then(Y3G p0.1 p0.2.1 p0.2.2.2).bind fun J=>(if (0:Int)<(J.length:Int) then some 5 else some 0) else some u))))
def Y20  (s:((Int × Int × Bool) × Nat)) (x:(Int × (List (Ls × Ls) × Ls × List BT38 × Int))):Option ((Int × Int × Bool) × Nat) :=
 match s,x with
 |((U,V,u),_),(E,(Y,Z,a0,J))=>(if (40:Int)<=E then(Y03 2 (-1)).bind fun(K,N)=>some ((K,N,u),1) else((if u=true then some true else some (decide ((8:Int)<J)))).bind fun O=>some ((U,V,O),0))
def Y0R  (s:((Int × Int) × Nat)) (x:(Int × (List (Ls × Ls) × Ls × List BT38 × Int))):Option ((Int × Int) × Nat) :=
 match s,x with
 |((E,J),_),(K,(N,O,U,V))=>(Y25 (N,O,U,V)).bind fun u=>(if u=(0:Int) then some ((E,J),0) else(Y03 u K).bind fun(Y,Z)=>some ((Y,Z),1))
def Y1W (p0:(List (Ls × Ls) × Ls × List BT38)):Option (Int × Int) :=
 (Y4A (p0.1,p0.2.1,p0.2.2)).bind fun(l2,l3,l4)=>(Y2P (l2,l3,l4) ((Int × Int × Bool) × Nat) (stepY exStop (Y20)) ((0,0,false),0)).bind fun((J,K,b8),u)=>(if u=0 then(if b8=true then(Y03 2 (-2)).bind fun(N,O)=>some (N,O) else(Y4A (p0.1,p0.2.1,p0.2.2)).bind fun(U,V,Y)=>(Y2P (U,V,Y) ((Int × Int) × Nat) (stepY exStop (Y0R)) ((J,K),0)).bind fun((Z,a0),E)=>(if E=0 then(Y0e).bind fun(a1,a2)=>some (a1,a2) else(if E=1 then some (Z,a0) else none))) else(if u=1 then some (J,K) else none))
def Y2X (p0:(List (Ls × Ls) × Ls)):Option ((List (Ls × Ls) × Ls × List BT38) × (Int × Int)) :=
 (Y0A (p0.1,p0.2)).bind fun(J,K)=>(Y08 (J,K)).bind fun b4=>(if b4=true then some (([],[],[]),(J,K)) else(Y3n (0,0,0) p0.1 p0.2 0).bind fun((N,O,U),V,u)=>(if V=true then(Y1W (N,O,U)).bind fun(E,Y)=>(Y08 (E,Y)).bind fun Z=>(if Z=true then(Y03 E (-9)).bind fun(a0,a1)=>some (([],[],[]),(a0,a1)) else(Y0e).bind fun(a2,a3)=>some ((N,O,U),(a2,a3))) else some (([],[],[]),(u.2.1,u.2.2))))
def Y5b (p0:(List (Ls × Ls) × Ls × List BT38)):Option (List (Ls × Ls) × Ls × List BT38) :=
 some (p0.1,p0.2.1,p0.2.2)
def Y0T (p0:Ls)(u:Ls):Option Ls :=
 (Y0h p0 u).bind fun E=>(if E=true then(chk ((p0.length:Int)-(u.length:Int))).bind fun J=>(cut p0 0 J).bind fun K=>some K else some p0)
def Y1r (p0:Ls)(u:Ls):Option Ls :=
 (Y0T p0 u).bind fun E=>some E
def Y0k (p0:Ls):Nat->Ls->Int->Option Ls
 | 0,_,_=>none
 | J+1,E,u=>(if u<(p0.length:Int) then(idx p0 u).bind fun K=>(Y1H K).bind fun N=>(((if N=true then((if (0:Int)<(E.length:Int) then(chk ((E.length:Int)-1)).bind fun O=>(idx E O).bind fun U=>some (decide (U=32)) else some false)).bind fun V=>(if V=true then some (.inr ()) else some (.inl 32)) else some (.inl K)):Option (UInt8 ⊕ Unit))).bind fun Y=>(match Y with | .inl Z=>(app 1 E ([Z]:Ls)).bind fun a0=>(chk (u+1)).bind fun a1=>Y0k p0 J a0 a1 | .inr _=>(chk (u+1)).bind fun a2=>Y0k p0 J E a2) else some E)
def Y1F (p0:Ls):Option Ls :=
 (Y0k p0 FU [] 0).bind fun E=>(Y1r E [32]).bind fun u=>some u
def Y2Y (p0:(Ls × Ls)):Option Ls :=
 (Y3l p0.1).bind fun u=>(cat u [58]).bind fun E=>(Y1F p0.2).bind fun J=>(cat E J).bind fun K=>(cat K [13,10]).bind fun N=>some N
def view_Content_L1 (p0:(List (Ls × Ls) × Ls × List BT38)):Nat->Int->Option (Unit ⊕ Ls)
 | 0,_=>none
 | E+1,u=>(if u<(p0.1.length:Int) then(idx p0.1 u).bind fun J=>(Y0N J.1 [67,111,110,116,101,110,116,45,84,114,97,110,115,102,101,114,45,69,110,99,111,100,105,110,103]).bind fun V=>(if V=true then(transfer_Decode p0.2.1 J.2).bind fun(K,(N,Y))=>(if N=(18:Int) then(chk (u+1)).bind fun O=>view_Content_L1 p0 E O else some (.inr K)) else(chk (u+1)).bind fun U=>view_Content_L1 p0 E U) else some (.inl ()))
def view_Content (p0:(List (Ls × Ls) × Ls × List BT38)):Option Ls :=
 ((view_Content_L1 p0 FU 0:Option (Unit ⊕ Ls))).bind fun u=>(match u with | .inl _=>(transfer_Decode p0.2.1 [55,98,105,116]).bind fun(E,(K,N))=>some E | .inr J=>some J)
def Y0J {σ:Type}(Y:σ->Ls->Option (σ × Bool))(O:Ls)(U:Int):Nat->Ls->σ->Option ((Ls × σ) ⊕ σ)
 | 0,_,_=>none
 | V+1,u,J=>(Y3j u O).bind fun E=>(if E<(0:Int) then some (.inl (u,J)) else(chk (E+U)).bind fun Z=>(cut u 0 Z).bind fun K=>(cut K 0 (K.length:Int)).bind fun a0=>(Y J a0).bind fun(N,a1)=>(if a1=true then(chk (E+(O.length:Int))).bind fun a2=>(cut u a2 (u.length:Int)).bind fun a3=>Y0J Y O U V a3 N else some (.inr N)))
def Y3i (u:Ls)(U:Ls)(V:Int)(σ:Type)(Y:σ->Ls->Option (σ × Bool))(Z:σ):Option σ :=
 (if (u.length:Int)=(0:Int) then none else((Y0J Y u V FU U Z:Option ((Ls × σ) ⊕ σ))).bind fun E=>(match E with | .inl (J,s7)=>(cut J 0 (J.length:Int)).bind fun K=>(Y s7 K).bind fun(N,a1)=>some N | .inr O=>some O))
def Y1x  (s:(Ls × Int)) (E:Ls):Option (Ls × Int) :=
 match s with
 |(l2,J)=>(Y1F E).bind fun u=>(if u=[] then(chk (J+1)).bind fun K=>some (l2,K) else(Y2f [13,10] J).bind fun N=>(cat N u).bind fun O=>(cat O [13,10]).bind fun U=>(app 1 l2 U).bind fun V=>some (V,0))
def Y2G (p0:Ls):Option Ls :=
 (Y3i ([13,10]:Ls) p0 0 (Ls × Int) (stepY goOn (Y1x)) ([],0)).bind fun(l2,u)=>some l2
def Y0v (u:List (Ls × Ls)):Nat->Ls->Int->Option Ls
 | 0,_,_=>none
 | N+1,K,E=>(if E<(u.length:Int) then(idx u E).bind fun J=>((Y0N J.1 [82,101,99,101,105,118,101,100]).bind fun O=>(if O=true then some false else(Y0N J.1 [67,111,110,116,101,110,116,45,84,114,97,110,115,102,101,114,45,69,110,99,111,100,105,110,103]).bind fun U=>some (!U))).bind fun V=>(if V=true then(Y2Y (J.1,J.2)).bind fun Y=>(app 1 K Y).bind fun Z=>(chk (E+1)).bind fun a0=>Y0v u N Z a0 else(chk (E+1)).bind fun a1=>Y0v u N K a1) else some K)
def Y0o  (s:Ls) (x:(Int × (List (Ls × Ls) × Ls × List BT38))):Option Ls :=
 match s,x with
 | N,(a9,(E,O,u))=>(Y0v E FU [] 0).bind fun J=>((if (u.length:Int)=(0:Int) then(view_Content (E,O,u)).bind fun U=>(Y2G U).bind fun V=>some V else some [])).bind fun K=>(strconv_Itoa (u.length:Int)).bind fun Y=>(cat Y [32]).bind fun Z=>(strconv_Itoa (J.length:Int)).bind fun a0=>(cat Z a0).bind fun a1=>(cat a1 [32]).bind fun a2=>(strconv_Itoa (K.length:Int)).bind fun a3=>(cat a2 a3).bind fun a4=>(cat a4 [13,10]).bind fun a5=>(app 1 N a5).bind fun a6=>(app 1 a6 J).bind fun a7=>(app 1 a7 K).bind fun a8=>some a8
def Y12 (p0:(List (Ls × Ls) × Ls)):Option (Ls × (Int × Int)) :=
 (Y2X (p0.1,p0.2)).bind fun((Y,l2,l3),(u,E))=>(Y08 (u,E)).bind fun Z=>(if Z=true then some ([],(u,E)) else(Y5b (Y,l2,l3)).bind fun(J,K,N)=>(Y3M (J,K,N) Ls (stepY goOn (Y0o)) []).bind fun O=>(Y0e).bind fun(U,V)=>some (O,(U,V)))
def Y4p (p0:(List (Ls × Ls) × Ls))(u:(List (Ls × Ls) × Ls)):Option (Bool × (Int × Int)) :=
 (Y12 (p0.1,p0.2)).bind fun(l1,(E,J))=>(Y08 (E,J)).bind fun b5=>(if b5=true then some (false,(E,J)) else(Y12 (u.1,u.2)).bind fun(l8,(K,N))=>(Y08 (K,N)).bind fun O=>(if O=true then(Y03 K (-10)).bind fun(U,V)=>some (false,(U,V)) else(Y2Q l1 l8).bind fun Y=>(Y0e).bind fun(Z,a0)=>some (Y,(Z,a0))))
def Y3y  : Option Bool :=
 (Y32 (([([65],[98])]:List (Ls × Ls)),([99,13,10]:Ls))).bind fun(u,(O,Z))=>(Y3p u).bind fun((E,U),(V,n8))=>(Y4p (([([65],[98])]:List (Ls × Ls)),([99,13,10]:Ls)) (E,U)).bind fun(J,(K,Y))=>((if O=(0:Int) then(if V=(0:Int) then(if K=(0:Int) then(if J=true then(if u=[65,58,32,98,13,10,13,10,99,13,10] then some (decide ((E.length:Int)=(1:Int))) else some false) else some false) else some false) else some false) else some false)).bind fun N=>some N
def Y0L (p0:Ls):Nat->Int->Int->Option Int
 | 0,_,_=>none
 | J+1,E,u=>(if u<(p0.length:Int) then(idx p0 u).bind fun K=>(chk (u+1)).bind fun N=>Y0L p0 J (IntKind.u64.wrap ((xorU E (IntKind.u64.wrap (K.toNat:Int)))*1099511628211)) N else some E)
def Y3z (p0:Ls):Option Int :=
 (Y0L p0 FU 14695981039346656037 0).bind fun u=>some u
def Y2a (p0:(List (Ls × Ls) × Ls)):Option (Int × (Int × Int)) :=
 (Y12 (p0.1,p0.2)).bind fun(N,(u,E))=>(Y08 (u,E)).bind fun O=>(if O=true then some (0,(u,E)) else(Y3z N).bind fun U=>(Y0e).bind fun(J,K)=>some (U,(J,K)))
def Y2O (p0:(List (Ls × Ls) × Ls)):Option Bool :=
 (Y3y).bind fun b1=>(if b1=true then(Y32 (p0.1,p0.2)).bind fun(u,(n5,n6))=>(if n5=(0:Int) then(Y3p u).bind fun((l9,E),(J,a3))=>(Y2a (p0.1,p0.2)).bind fun(K,(N,O))=>(Y2a (l9,E)).bind fun(U,(V,Y))=>((if J=(0:Int) then(if N=V/\O=Y then some (decide (K=U)) else some false) else some false)).bind fun Z=>some Z else some (decide ((u.length:Int)=(0:Int)))) else some false)
end Go.Ph.Pf
end
section
namespace Go.Proofs.YtkgohbecojnfaaaGreatDoor
open Go Go.RowKit Go.Ph Go.Ph.Pl Go.Ph.Pf
abbrev xenc239 (x:(Ls × Int × Bool × Ls)):List Value:=[S x.1,I x.2.1,Value.bool x.2.2.1,S x.2.2.2]
abbrev xenc46 (x:(Ls × Ls)):List Value:=[S x.1,S x.2]
abbrev xenc109 (x:(Ls × Ls)):List Value:=[S x.1,S x.2]
theorem xty23 : ElemTy Tryz.prog 23 5 (.int .u8 0) 1 1:=q1h Tu23 Kr rfl Dc
theorem xty77 : ElemTy Tryz.prog 77 9 (.string ⟨#[]⟩) 1 16:=q1h Tu77 Kr rfl Dc
theorem xone1_5 :(Tryz.prog.info? 5).map (·.size)=some 1:=by kernel_rfl
theorem xty22 : ElemTy Tryz.prog 22 46 (.agg #[.string ⟨#[]⟩, .string ⟨#[]⟩]) 2 32:=q1h Tu22 Kr rfl Dc
theorem xone46 :∀(a:(Ls × Ls)),∀u∈xenc46 a,u.oneCell'=true:=by
 intro a u hu;simp only[xenc46,l0S,l0T,or_false] at hu;rcases hu with rfl|rfl <;> rfl
theorem xty103 : ElemTy Tryz.prog 103 109 (.agg #[.string ⟨#[]⟩, .string ⟨#[]⟩]) 2 32:=q1h Tu103 Kr rfl Dc
theorem xone109 :∀(a:(Ls × Ls)),∀u∈xenc109 a,u.oneCell'=true:=by
 intro a u hu;simp only[xenc109,l0S,l0T,or_false] at hu;rcases hu with rfl|rfl <;> rfl
def FnT153 (M:Mem)(v:Value)(g:((Ls × Ls)->Option Bool)):Prop :=∀(u:(Ls × Ls)) (r:Bool),g u=some r->FnV Tryz.prog M v [Value.agg #[S u.1,S u.2]] (fun v M=>v=Value.bool r)
theorem FnT153.mono {M M':Mem}{v:Value}{g:((Ls × Ls)->Option Bool)}(h:FnT153 M v g)(hl:M.le M'):FnT153 M' v g:=fun u r hr=>(h u r hr).mono hl
theorem xplaces98 :∀{fs:Array Field},Tryz.prog.underlying 98=some (.struct fs)->∀w,(fs.mapM fun f=>do pure (f.offset,<-sizeOf f.type):Sem (Array (Nat × Nat))).run Tryz.prog w = .ok #[(0,3),(3,1)] w:=by
 intro fs h w;rw[Tu98] at h;cases h;simp
abbrev xenr38 (f:(Hd × Hd × Hd)):List Value:=[hv f.1,hv f.2.1,hv f.2.2]
theorem xone38r (f:(Hd × Hd × Hd)):∀u∈xenr38 f,u.oneCell'=true:=by
 intro u hu;simp only[l0S,l0T,or_false] at hu;rcases hu with rfl|rfl|rfl <;> rfl
def xbdy38 (S:(Hd × Hd × Hd)->BT38->Prop)(M:Mem)(f:(Hd × Hd × Hd))(x:BT38):Prop:=SlS M 2 xenc46 (hv f.1) x.out.1/\Sl M encB (hv f.2.1) x.out.2.1/\SlR (Rl.fx 3 xenr38 (fun _=>rfl) xone38r S) M (hv f.2.2) x.out.2.2
theorem xbm38 : Bdy xbdy38:=⟨fun hs l _ _ ⟨u,E,J⟩=>⟨u.mono l,E.mono l,SlR.sub hs J l⟩⟩
abbrev xrl38 : Rl (Hd × Hd × Hd) BT38 where
 k:=3
 enc:=xenr38
 rel:=gfp xbdy38
 len:=fun _=>rfl
 one:=xone38r
 up:=fun l _ _ h=>gfp.mono xbm38 h l
theorem run38 {M:Mem}{f:(Hd × Hd × Hd)}{x:BT38}(h:gfp xbdy38 M f x):SlS M 2 xenc46 (hv f.1) x.out.1/\Sl M encB (hv f.2.1) x.out.2.1/\SlR xrl38 M (hv f.2.2) x.out.2.2 :=
 have⟨u,E,J⟩:=gfp.un xbm38 h
 ⟨u,E,SlR.conv J (fun _ _ h=>h)⟩
theorem rmk38 {M:Mem}{f:(Hd × Hd × Hd)}{x:BT38}(h:SlS M 2 xenc46 (hv f.1) x.out.1/\Sl M encB (hv f.2.1) x.out.2.1/\SlR xrl38 M (hv f.2.2) x.out.2.2):gfp xbdy38 M f x :=
 have⟨u,E,J⟩:=h
 gfp.mk xbm38 ⟨u,E,SlR.conv J (fun _ _ h=>h)⟩
abbrev xrl39 := xrl38
theorem xplaces28 :∀{fs:Array Field},Tryz.prog.underlying 28=some (.struct fs)->∀w,(fs.mapM fun f=>do pure (f.offset,<-sizeOf f.type):Sem (Array (Nat × Nat))).run Tryz.prog w = .ok #[(0,1),(1,1)] w:=by
 intro fs h w;rw[Tu28] at h;cases h;simp
theorem xplaces182 :∀{fs:Array Field},Tryz.prog.underlying 182=some (.struct fs)->∀w,(fs.mapM fun f=>do pure (f.offset,<-sizeOf f.type):Sem (Array (Nat × Nat))).run Tryz.prog w = .ok #[(0,1),(1,1),(2,1)] w:=by
 intro fs h w;rw[Tu182] at h;cases h;simp
theorem xty253 : ElemTy Tryz.prog 253 182 (.agg #[.string ⟨#[]⟩, .nilFunc, .nilFunc]) 3 32:=q1h Tu253 Kr rfl Dc
theorem xplaces46 :∀{fs:Array Field},Tryz.prog.underlying 46=some (.struct fs)->∀w,(fs.mapM fun f=>do pure (f.offset,<-sizeOf f.type):Sem (Array (Nat × Nat))).run Tryz.prog w = .ok #[(0,1),(1,1)] w:=by
 intro fs h w;rw[Tu46] at h;cases h;simp
theorem xplaces25 :∀{fs:Array Field},Tryz.prog.underlying 25=some (.struct fs)->∀w,(fs.mapM fun f=>do pure (f.offset,<-sizeOf f.type):Sem (Array (Nat × Nat))).run Tryz.prog w = .ok #[(0,1),(1,1)] w:=by
 intro fs h w;rw[Tu25] at h;cases h;simp
def FnT82 (M:Mem)(v:Value)(g:(UInt8->Option Bool)):Prop :=∀(u:UInt8) (r:Bool),g u=some r->FnV Tryz.prog M v [encB u] (fun v M=>v=Value.bool r)
theorem FnT82.mono {M M':Mem}{v:Value}{g:(UInt8->Option Bool)}(h:FnT82 M v g)(hl:M.le M'):FnT82 M' v g:=fun u r hr=>(h u r hr).mono hl
theorem xplaces39 :∀{fs:Array Field},Tryz.prog.underlying 39=some (.struct fs)->∀w,(fs.mapM fun f=>do pure (f.offset,<-sizeOf f.type):Sem (Array (Nat × Nat))).run Tryz.prog w = .ok #[(0,1),(1,1),(2,1)] w:=by
 intro fs h w;rw[Tu39] at h;cases h;simp
theorem xplaces59 :∀{fs:Array Field},Tryz.prog.underlying 59=some (.struct fs)->∀w,(fs.mapM fun f=>do pure (f.offset,<-sizeOf f.type):Sem (Array (Nat × Nat))).run Tryz.prog w = .ok #[(0,1),(1,2)] w:=by
 intro fs h w;rw[Tu59] at h;cases h;simp
theorem xplaces105 :∀{fs:Array Field},Tryz.prog.underlying 105=some (.struct fs)->∀w,(fs.mapM fun f=>do pure (f.offset,<-sizeOf f.type):Sem (Array (Nat × Nat))).run Tryz.prog w = .ok #[(0,1),(1,1),(2,1)] w:=by
 intro fs h w;rw[Tu105] at h;cases h;simp
theorem xplaces235 :∀{fs:Array Field},Tryz.prog.underlying 235=some (.struct fs)->∀w,(fs.mapM fun f=>do pure (f.offset,<-sizeOf f.type):Sem (Array (Nat × Nat))).run Tryz.prog w = .ok #[(0,1)] w:=by
 intro fs h w;rw[Tu235] at h;cases h;simp
theorem xplaces239 :∀{fs:Array Field},Tryz.prog.underlying 239=some (.struct fs)->∀w,(fs.mapM fun f=>do pure (f.offset,<-sizeOf f.type):Sem (Array (Nat × Nat))).run Tryz.prog w = .ok #[(0,1),(1,1),(2,1),(3,1)] w:=by
 intro fs h w;rw[Tu239] at h;cases h;simp
theorem xty237 : ElemTy Tryz.prog 237 239 (.agg #[.string ⟨#[]⟩, .int .i64 0, .bool false, .string ⟨#[]⟩]) 4 48:=q1h Tu237 Kr rfl Dc
theorem xone239 :∀(a:(Ls × Int × Bool × Ls)),∀u∈xenc239 a,u.oneCell'=true:=by
 intro a u hu;simp only[xenc239,l0S,l0T,or_false] at hu;rcases hu with rfl|rfl|rfl|rfl <;> rfl
def FnT280 (M:Mem)(v:Value)(g:((Ls × Int × Bool × Ls)->Option Bool)):Prop :=∀(u:(Ls × Int × Bool × Ls)) (r:Bool),g u=some r->FnV Tryz.prog M v [Value.agg #[S u.1,I u.2.1,Value.bool u.2.2.1,S u.2.2.2]] (fun v M=>v=Value.bool r)
theorem FnT280.mono {M M':Mem}{v:Value}{g:((Ls × Int × Bool × Ls)->Option Bool)}(h:FnT280 M v g)(hl:M.le M'):FnT280 M' v g:=fun u r hr=>(h u r hr).mono hl
theorem xplaces109 :∀{fs:Array Field},Tryz.prog.underlying 109=some (.struct fs)->∀w,(fs.mapM fun f=>do pure (f.offset,<-sizeOf f.type):Sem (Array (Nat × Nat))).run Tryz.prog w = .ok #[(0,1),(1,1)] w:=by
 intro fs h w;rw[Tu109] at h;cases h;simp
abbrev xenr23 (f:Hd):List Value:=[hv f]
abbrev xrl23 : Rl Hd Ls where
 k:=1
 enc:=xenr23
 rel M f x:=Sl M encB (hv f) x
 len:=fun _=>rfl
 one:=by
  intro f u hu;simp only[l0S,l0T,or_false] at hu;rcases hu with rfl <;> rfl
 up:=by intro M M' hl f x h;exact h.mono hl
theorem xty89 : ElemTy Tryz.prog 89 23 (.slice none 0 0) 1 24:=q1h Tu89 Kr rfl Dc
theorem xty37 : ElemTy Tryz.prog 37 39 (.agg #[.slice none 0 0, .slice none 0 0, .slice none 0 0]) 3 72:=q1h Tu37 Kr rfl Dc
theorem xeq28 (u E:Int)(J K:Int)(w:World):(Op.equalIn 10000 28 (.agg #[.int .i64 u, .int .i64 J]) (.agg #[.int .i64 E, .int .i64 K])).run Tryz.prog w = .ok (decide (u=E/\J=K)) w:=by
 rw[run_equalIn_struct w 9999 28 _ _ (by rw[Program.fieldsOf,Tu28]) Kr];rw[Program.fieldsOf,Tu28];by_cases N:u=E
 rotate_left
 . simp [Op.eqFields,part,N,Ta3,run_equalIn_int _ _ _ _ _ _ _ Tu3]
 by_cases O:J=K
 rotate_left
 . simp [Op.eqFields,part,N,O,Ta3,run_equalIn_int _ _ _ _ _ _ _ Tu3]
 simp [Op.eqFields,part,N,O,Ta3,run_equalIn_int _ _ _ _ _ _ _ Tu3]
theorem bytesOf_nats (l:Ls):Lib.bytesOf (l.map fun u=>(u.toNat:Int))=l:=by
 unfold Lib.bytesOf;rw[l1X]
 conv=>rhs;rw [<-List.map_id l]
 apply l1O;intro u _;simp
theorem indexByte_ixB (l:Ls)(c:UInt8):Lib.indexByte l c=ixB l c:=by
 unfold ixB;induction l with
 | nil=>simp [Lib.indexByte]
 | cons b l ih =>
   simp only[Lib.indexByte,List.idxOf_cons,l01];by_cases h:b=c
   . subst h;simp
   have h':(b == c)=false:=by simpa using h
   rw[h',ih];simp only[l0m,if_false,cond_false];by_cases hl:l.idxOf c<l.length
   . have u:l.idxOf c+1<l.length+1:=by omega
     have E :¬(((l.idxOf c:Int) == -1)=true):=by simp only[beq_iff_eq];omega
     simp only[hl,u,if_true,E,if_false,l0m];omega
   have u :¬(l.idxOf c+1<l.length+1):=by omega
   simp only[hl,u,if_false];rfl
theorem Y36 {p0:Ls}{u:UInt8}{r:Int}(h:Y1a p0 u=some r):Ct Tryz.prog 186 [S p0,encB u] (fun M=>True) (fun v M=>v=I r):=by
 cases h;refine⟨enters Tf186 Kr G,fun w M ha hp=>?_⟩;exact(Tryz.strings_IndexByte ⟨p0.toArray⟩ (u.toNat:Int) w).mono fun e w' ⟨he,hw⟩=>⟨_,M,he,by subst hw;exact q1G ha,by rw[<-indexByte_ixB];simp⟩
theorem Y3B {p0:Ls}{E:UInt8}{J:Value}{r:Int}(h:Y1k p0 E=some r):Ct Tryz.prog 68 [J,encB E] (fun M=>Sl M encB J p0) (fun v M=>v=I r):=by
 cases h;refine⟨enters Tryz.func68 Kr G,fun w M ha hp=>?_⟩;obtain⟨A,cp,rfl,hc,hn⟩:=Sl.cells hp ha;have hcv:((E.toNat:Int)).toNat.toUInt8=E:=by simp
 cases A with
 | none =>
   obtain⟨rfl,rfl⟩:=hn rfl;exact(Tryz.bytes_IndexByte_nil (E.toNat:Int) w).mono fun e w' ⟨he,hw⟩=>⟨_,M,he,by subst hw;exact q1G ha,rfl⟩
 | some ad =>
   refine(Tryz.bytes_IndexByte_at ad p0.length cp (p0.map fun u=>(u.toNat:Int)) (E.toNat:Int) w Sm (fun i hi=>?_)).mono fun e w' ⟨he,hw⟩=>⟨_,M,he,by subst hw;exact q1G ha,?_⟩
   . have:=hc ad rfl i (encB p0[i]) (by simp [hi]);rw[this];simp [hi]
   rw[bytesOf_nats,hcv,indexByte_ixB]
theorem Y5k {p0:Ls}{E:Ls}{J:Value}{K:Value}{r:Int}(h:Y3j p0 E=some r):Ct Tryz.prog 125 [J,K] (fun M=>GlF (fun w =>∃m,w.cell? ⟨0,0,none⟩=some (.int .i64 m)) M/\Sl M encB J p0/\Sl M encB K E) (fun v M=>v=I r):=by
 unfold Y3j at h;split at h
 case isFalse=>cases h
 rename_i hb;cases h;refine⟨enters Tryz.func125 Kr G,fun w M ha hp=>?_⟩;obtain⟨hg,N,O⟩:=hp;obtain⟨m,hm⟩:=hg w ha;obtain⟨A,cp,rfl,hc,hn⟩:=Sl.cells N ha;obtain⟨B,cq,rfl,hd,hk⟩:=Sl.cells O ha;obtain⟨_,_,U,V,_⟩:=N;cases U;cases B with
 | none =>
   obtain⟨rfl,_⟩:=hk rfl;simp at hb
 | some bd =>
   cases A with
   | none =>
     obtain⟨rfl,rfl⟩:=hn rfl;refine(Tryz.bytes_Index_nil (some bd) E.length cq w Om Om).mono fun e w' ⟨he,hw⟩=>⟨_,M,he,by subst hw;exact q1G ha,?_⟩
     rw[if_neg Om];have:E≠ []:=by rintro rfl;simp at hb
     cases E with
     | nil=>exact absurd rfl this
     | cons x l=>rfl
   | some ad =>
     refine(Tryz.bytes_Index_at ad bd p0.length cp E.length cq (p0.map fun u=>(u.toNat:Int)) (E.map fun u=>(u.toNat:Int)) m w Sm Sm ?_ ?_ (fun i hi=>?_) (fun i hi=>?_) V Om Om hm).mono fun e w' ⟨he,q,hw⟩=>⟨_,M,he,by subst hw;exact Ext.ofDrawn ha q,by rw[bytesOf_nats,bytesOf_nats]⟩
     . intro x hx;obtain⟨u,_,rfl⟩:=List.mem_map.1 hx;have:=u.toNat_lt;omega
     . intro x hx;obtain⟨u,_,rfl⟩:=List.mem_map.1 hx;have:=u.toNat_lt;omega
     . have:=hc ad rfl i (encB p0[i]) (by simp [hi]);rw[this];simp [hi]
     have:=hd bd rfl i (encB E[i]) (by simp [hi]);rw[this];simp [hi]
theorem strconv_Itoa_ct {p0 : Int}{r : Ls}(h : strconv_Itoa p0 = some r): Ct Tryz.prog 34 [I p0] (fun M => GlF (fun w => Lib.TabIs Tryz.prog w "internal/strconv.uint64pow10" .u64 Lib.pow10Tab) M) (fun v M => v = S r) := by
 unfold strconv_Itoa at h;split at h
 case isFalse=>cases h
 rename_i hb;cases h;refine⟨enters Tf34 Kr G,fun w M ha hp=>?_⟩;exact(Tryz.strconv_Itoa p0 hb.1 hb.2 w (hp w ha)).mono fun e w' ⟨he,k,os,hw⟩=>⟨_,M,he,by subst hw;exact q1N ha (below_grow w k os),by rw[itoaP_eq hb]⟩
theorem Y5I {p0:Ls}{u:Int}{r:Ls}(h:Y2f p0 u=some r):Ct Tryz.prog 61 [S p0,I u] (fun M=>True) (fun v M=>v=S r):=by
 unfold Y2f at h;split at h
 case isFalse=>cases h
 rename_i hb;cases h;refine⟨enters Tryz.func61 Kr G,fun w M ha hp=>?_⟩;obtain⟨c,rfl⟩:=l0C hb.1;exact(Tryz.strings_Repeat ⟨p0.toArray⟩ c w Om (by simpa [ByteArray.size] using hb.2.2)).mono fun e w' ⟨he,hw⟩=>⟨_,M,he,q1N ha hw,by simp⟩
theorem strconv_Atoi_ct {p0 : Ls}{r : (Int × Bool)}(h : strconv_Atoi p0 = some r): Ct Tryz.prog 227 [S p0] (fun M => GlF (fun w => ∃ tp p, w.var? Tryz.prog "strconv.ErrRange" = some #[.iface tp p]) M /\ GlF (fun w => ∃ tp p, w.var? Tryz.prog "strconv.ErrSyntax" = some #[.iface tp p]) M) (fun v M => ∃ u, v = Value.tuple #[I r.1, u] /\ NilB M u r.2) := by
 unfold strconv_Atoi at h;split at h
 case isFalse=>cases h
 rename_i hb;cases h;refine⟨enters Tryz.func227 Kr G,fun w M ha hp=>?_⟩;obtain⟨hpR,hpS⟩:=hp;have hsz:(⟨p0.toArray⟩:ByteArray).size=p0.length:=by simp [ByteArray.size]
 unfold atoiP;cases hc:Lib.atoiAll p0 with
 | ok v =>
   exact(Tryz.strconv_Atoi_ok ⟨p0.toArray⟩ Om v (by simpa using hc) w).mono fun e w' ⟨he,hw⟩=>⟨_,M,he,by
    rcases hw with rfl|⟨t,rfl⟩
    . exact q1G ha
    exact q1N ha (Lib.bytesWorld_below w _ t),⟨_,G, .inl ⟨G,G⟩⟩⟩
 | range =>
   obtain⟨tp,p,hv⟩:=hpR w ha;exact(Tryz.strconv_Atoi_range_var ⟨p0.toArray⟩ Om (by simpa using hc) tp p w hv).mono fun e w' ⟨n,he,_,_,hw⟩=>⟨_,M,he,q1N ha hw,⟨_,rfl, .inr ⟨rfl,_,_,rfl⟩⟩⟩
 | _ =>
   obtain⟨tp,p,hv⟩:=hpS w ha;exact(Tryz.strconv_Atoi_syntax_var ⟨p0.toArray⟩ Om (by simpa using hc) tp p w hv).mono fun e w' ⟨n,he,_,_,hw⟩=>⟨_,M,he,q1N ha hw,⟨_,rfl, .inr ⟨rfl,_,_,rfl⟩⟩⟩
theorem Y5c {p0:Ls}{u:Ls}{r:Int}(h:Y0M p0 u=some r):Ct Tryz.prog 147 [S p0,S u] (fun M=>GlF (fun w =>∃m,w.cell? ⟨0,0,none⟩=some (.int .i64 m)) M) (fun v M=>v=I r):=by
 unfold Y0M at h;split at h
 case isFalse=>cases h
 rename_i hb;cases h;refine⟨enters Tf147 Kr G,fun w M ha hp=>?_⟩;obtain⟨m,hm⟩:=hp w ha;exact(Tryz.stringslite_Index ⟨p0.toArray⟩ ⟨u.toArray⟩ m w (by simpa [ByteArray.size] using hb) hm).mono fun e w' ⟨he,hw⟩=>⟨_,M,he,by subst hw;exact q1G ha,rfl⟩
theorem copyCheck_ct {b:Nat}{p v:Value}{M0:Mem}(hb:BPM M0 b p):CtX Tryz.prog 139 [ptr b 0] [.blk b (.cells #[p,v] 172)] (fun _=>True) (fun r _ its=>r = .tuple #[]/\its=[.blk b (.cells #[ptr b 0,v] 172)]):=by
 refine q0W Tryz.func139 (enters Tryz.func139 Kr G) G G G ?_;intro w M H _;obtain⟨j,hj,hjs⟩:=Option.map_eq_some_iff.1 (show(Tryz.prog.info? 172).map (·.size)=some 2 by kernel_rfl);have hl:liesAt Tryz.prog Tryz.prog.depth 172 (2 / Tryz.prog.cellsOf 172) 0 172 1=true:=by kernel_rfl
 have hbk:=H.blk (List.Mem.head _);refine WC.seq (q1o ?_);refine MV G G (FN G G Tu172 G Ts170 G G (ST (XL H Ta170) G ?_));rcases hb with rfl|rfl
 . refine q0w (Ex.ptrNil Tu170 G) (q00 G) G G ?_;refine q1k (WQ.then (WC.condT G (q1o ?_)));refine MV G G (MV G G (ST (Ex.toUnsafe Tu170 Tu249 hj (by rw[hjs];decide) (T:=172) (cells:=2) (a:=⟨b,0,none⟩) (by simp [World.shape?,hbk]) (by show(0:Nat)<2;decide) G) G ?_));refine ST (Ex.noEscape Tryz.func170 Kr Kr Kr Kr G) G (ST (Ex.fromUnsafe Tu249 Tu170 hj (T:=172) (cells:=2) (a:=⟨b,0,none⟩) (by simp [World.shape?,hbk]) hl G) G ?_);refine FN G G Tu172 G Ts170 G G (q0Q [_,_] H G G ⟨G,G⟩ Ku Kf Ts170 (by first|decide|(simp;done)|(simp;omega)) (q00 G) ?_);intro w H;refine NL ?_;exact WQ.endX0 G H Kp ⟨G,G⟩
 refine q0w (Ex.ptrNil Tu170 G) (q00 G) G G ?_;refine q1k (WQ.then (WC.condF G (WC.seq (q1o ?_))));refine MV G G (FN G G Tu172 G Ts170 G G (ST (XL H Ta170) G ?_));refine MV G G (ST (Ex.ptrNeqSame Tu170 hj G G) G ?_);refine q1k (WQ.then (WC.condF G (WC.skip ?_)));exact WQ.endX0 G H Kp ⟨G,G⟩
theorem Y34 {p0:Ls}{r:Int × Int}(h:Y0f p0=some r):Ct Tryz.prog 112 [S p0] (fun M=>Tabs M) (fun v M=>v=Value.tuple #[Value.int .i32 r.1,I r.2]):=by
 unfold Y0f at h;split at h
 case isFalse=>cases h
 rename_i hb;cases h;exact decode_spec p0 hb
theorem countByte_P (c:UInt8):∀l:Ls,Lib.countByte l c=((l.countP fun x=>decide ([c]=[x]):Nat):Int):=by
 intro l;induction l with
 | nil=>rfl
 | cons a l ih =>
   rw[l1B];by_cases h:c=a
   . subst h;simp [Lib.countByte] at ih ⊢;omega
   have h' :¬a=c:=fun e=>h e.symm
   simp [Lib.countByte,h,h'] at ih ⊢;omega
theorem Y5V {p0 u:Ls}{r:Int}(h:Y1N p0 u=some r):Ct Tryz.prog 308 [S p0,S u] (fun _=>True) (fun v M=>v=I r):=by
 unfold Y1N at h;split at h
 case isFalse=>cases h
 rename_i hb;cases h;obtain⟨c,rfl⟩ :∃c,u=[c]:=List.length_eq_one_iff.1 hb.1;refine⟨enters Tryz.func308 Kr G,fun w M ha hp=>?_⟩;exact(Tryz.strings_Count_one ⟨p0.toArray⟩ c w).mono fun e w' ⟨he,hw⟩=>⟨_,M,he,by subst hw;exact q1G ha,by rw[countByte_P]⟩
theorem Y2A {p0:Ls}{V:Ls}{u:Nat}{J:Value}{E:Value}{r:(Int × Bool × Ls)}(h:Y0l p0 V=some r):CtX Tryz.prog 100 [ptr u 0,S V] [.blk u (.cells #[J,E] 172),RowI 5 encB E p0] (fun M=>BPM M u J) (fun v M its =>∃Y K N,v=Value.tuple #[I r.1,Y]/\NilB M Y r.2.1/\BPM M u K/\its=[.blk u (.cells #[K,N] 172),RowI 5 encB N r.2.2]):=by
 refine q0W Tf100 (enters Tf100 Kr G) G G G ?_;intro w0 M0 H hp;have Z:=hp;unfold Y0l at h;refine SQ (RG (AS G G (AS G G (NL (TN (SQ (RG (MV G G ?_))))))));refine q0q (A:=[.blk u (.cells #[J,E] 172)]) (B:=[RowI 5 encB E p0]) (H.pick (L':=[.blk u (.cells #[J,E] 172),RowI 5 encB E p0]) Kp) (copyCheck_ct Z) (.left (q0r _)) G trivial (q00 G) G ?_;intro v7 M w its H a0 hR;obtain⟨rfl,rfl⟩:=hR;simp only[l02,l03] at H;refine NL (TN (SQ ?_));obtain⟨l2,U,h⟩:=bnd h;refine RG (MV G G (MV G G (FN G G Tu172 G Ts23 G G (ST (XL H Ta23) G ?_))));refine MV G G (q1D (l:=p0) xty23 Tu9 H G (fun _=>by repeat first|exact .head|apply Upd.tail) G U (q00 G) G ?_);intro O w H;refine FN G G Tu172 G Ts23 G G (q0Q [_,_] H G G (H.rowOne Km) Ku Kf Ts23 (by first|decide|(simp;done)|(simp;omega)) (q00 G) ?_);intro w H;refine NL (TN (SQ (RG (MV G G (ST (q0g Tu9 G) G (AS G G (AS G G (NL (TN (RT ?_))))))))));obtain rfl:=oI h;exact q0Z (its:=[.blk u (.cells #[(ptr u 0),O] 172),RowI 5 encB O l2]) G G G H Kp ⟨_,_,_,G,(.inl ⟨G,G⟩),BPM.self,G⟩
theorem Y3Y {p0:Ls}{U:UInt8}{u:Nat}{J:Value}{E:Value}{r:(Bool × Ls)}(h:Y0U p0 U=some r):CtX Tryz.prog 251 [ptr u 0,encB U] [.blk u (.cells #[J,E] 172),RowI 5 encB E p0] (fun M=>BPM M u J) (fun v M its =>∃Z K N,v=Z/\NilB M Z r.1/\BPM M u K/\its=[.blk u (.cells #[K,N] 172),RowI 5 encB N r.2]):=by
 refine q0W Tryz.func251 (enters Tryz.func251 Kr G) G G G ?_;intro w0 M0 H hp;have a0:=hp;unfold Y0U at h;refine SQ (RG (AS G G (NL (TN (SQ (RG (MV G G ?_)))))));refine q0q (A:=[.blk u (.cells #[J,E] 172)]) (B:=[RowI 5 encB E p0]) (H.pick (L':=[.blk u (.cells #[J,E] 172),RowI 5 encB E p0]) Kp) (copyCheck_ct a0) (.left (q0r _)) G trivial (q00 G) G ?_;intro v6 M w its H a1 hR;obtain⟨rfl,rfl⟩:=hR;simp only[l02,l03] at H;refine NL (TN (SQ ?_));obtain⟨l2,V,h⟩:=bnd h;refine RG (MV G G (MV G G (FN G G Tu172 G Ts23 G G (ST (XL H Ta23) G ?_))));refine MV G G (q0O (enc:=encB) xty23 ([U]:Ls) H G Kf (fun _=>G) G G (q00 G) G ?_);intro a2 M w H a1 Y;refine q0H (l:=p0) xty23 G (fun _=>G) H G (fun _=>by repeat first|exact .head|apply Upd.tail) G (Y) V (q00 G) G ?_;intro O w H;refine FN G G Tu172 G Ts23 G G (q0Q [_,_] H G G (H.rowOne Km) Ku Kf Ts23 (by first|decide|(simp;done)|(simp;omega)) (q00 G) ?_);intro w H;refine NL (TN (SQ (RG (AS G G (NL (TN (RT ?_)))))));obtain rfl:=oI h;exact q0T (its:=[.blk u (.cells #[(ptr u 0),O] 172),RowI 5 encB O l2]) G G H Kp ⟨_,_,_,G,(.inl ⟨G,G⟩),BPM.self,G⟩
theorem Y4s {p0:Ls}{E:Nat}{K:Value}{J:Value}{r:Ls}(h:Y26 p0=some r):CtX Tryz.prog 102 [ptr E 0] [.blk E (.cells #[K,J] 172),RowI 5 encB J p0] (fun M=>BPM M E K) (fun v M its=>v=S r/\its=[]):=by
 refine q0W Tryz.func102 (enters Tryz.func102 Kr G) G G G ?_;intro O M0 H hp;have U:=hp;unfold Y26 at h;refine SQ (RG (AS G G (NL (TN (SQ ?_)))));refine q0V (fun e w =>∃  (M:Mem),e=[(2,S p0)]/\StX (feet [.blk E (.cells #[K,J] 172),RowI 5 encB J p0]) O M0 M [.blk E (.cells #[K,J] 172)] w) ?_ ?_
 .
  refine q0x (m:=12) G G H ?_;intro w H;refine TK 0 G (fun _=>q06 G) G (TK 1 G (fun _=>q0S G) G (TK 2 G (fun _=>q01 Tu172 G Ts23 Dc G) G (TK 5 G (fun _=>q06 G) G (TK 6 G (fun _=>q0S G) G (TK 7 G (fun _=>q01 Tu172 G Ts23 Dc G) G ?_)))));refine q0E (i:=3) (j:=8) Kr G G ?_ ?_
  .
   refine ST (XL H Ta23) G ?_;refine NA ?_;refine q0E (i:=4) (j:=8) Kr G G ?_ ?_
   .
    refine q1H Tu208 H Km G (q00 G) G ?_;intro N w H u;refine NA (q0k (fuel:=0) [8,9,10,11] G Kr (ST (XL H Ta23) G ?_));refine ST (q1w (l:=p0) Tu23 H Km G) G ?_;refine q1I Tu208 Kr H Kv u G G (q00 G) G ?_;intro w H;refine AS G G (NA (q0f Kr ?_));exact MP ⟨_,G,H⟩
   refine ST (XL H Ta23) G ?_;refine NA ?_;refine q0E (i:=4) (j:=9) Kr G G ?_ ?_
   .
    refine q1H Tu208 H Km G (q00 G) G ?_;intro N w H u;refine NA (q0k (fuel:=0) [9,10,11] G Kr (ST (q1w (l:=p0) Tu23 H Km G) G ?_));refine q1I Tu208 Kr H Kv u G G (q00 G) G ?_;intro w H;refine AS G G (NA (q0f Kr ?_));exact MP ⟨_,G,H⟩
   refine ST (q1w (l:=p0) Tu23 H Km G) G ?_;refine NA (q0k (fuel:=0) [4,10,11] G Kr (q1H Tu208 H Km G (q00 G) G ?_));intro N w H u;refine q1I Tu208 Kr H Kv u G G (q00 G) G ?_;intro w H;refine AS G G (NA (q0f Kr ?_));exact MP ⟨_,G,H⟩
  refine ST (XL H Ta23) G ?_;refine NA ?_;refine q0E (i:=3) (j:=9) Kr G G ?_ ?_
  .
   refine ST (XL H Ta23) G ?_;refine NA ?_;refine q0E (i:=4) (j:=9) Kr G G ?_ ?_
   .
    refine q1H Tu208 H Km G (q00 G) G ?_;intro N w H u;refine NA (q0k (fuel:=0) [9,10,11] G Kr (ST (q1w (l:=p0) Tu23 H Km G) G ?_));refine q1I Tu208 Kr H Kv u G G (q00 G) G ?_;intro w H;refine AS G G (NA (q0f Kr ?_));exact MP ⟨_,G,H⟩
   refine ST (q1w (l:=p0) Tu23 H Km G) G ?_;refine NA (q0k (fuel:=0) [4,10,11] G Kr (q1H Tu208 H Km G (q00 G) G ?_));intro N w H u;refine q1I Tu208 Kr H Kv u G G (q00 G) G ?_;intro w H;refine AS G G (NA (q0f Kr ?_));exact MP ⟨_,G,H⟩
  refine ST (q1w (l:=p0) Tu23 H Km G) G ?_;refine NA (q0k (fuel:=0) [3,4,10,11] G Kr (ST (XL H Ta23) G ?_));refine q1H Tu208 H Km G (q00 G) G ?_;intro N w H u;refine q1I Tu208 Kr H Kv u G G (q00 G) G ?_;intro w H;refine AS G G (NA (q0f Kr ?_));exact MP ⟨_,G,H⟩
 rintro e w ⟨M,rfl,H⟩;refine TN (RT ?_);obtain rfl:=oI h;exact q0T (its:=[]) G G H Kp ⟨G,G⟩
theorem tvWrite_ct {E:Ls}{u gb cap:Nat}(hc:E.length<=cap):CtX Tryz.prog 100 [ptr u 0,S E] [.blk u (.cells #[ptr u 0, .slice (some ⟨gb,0,none⟩) 0 cap] 172),RowI 5 encB (.slice (some ⟨gb,0,none⟩) 0 cap) []] (fun _=>True) (fun v M its =>∃n J,v=Value.tuple #[I n,J]/\its=[.blk u (.cells #[ptr u 0, .slice (some ⟨gb,0,none⟩) E.length cap] 172),RowI 5 encB (.slice (some ⟨gb,0,none⟩) E.length cap) E]):=by
 refine q0W Tf100 (enters Tf100 Kr G) G G G ?_;intro N M0 H hp;refine SQ (RG (AS G G (AS G G (NL (TN (SQ (RG (MV G G (q0q (A:=[.blk u (.cells #[ptr u 0, .slice (some ⟨gb,0,none⟩) 0 cap] 172)]) (B:=[RowI 5 encB (.slice (some ⟨gb,0,none⟩) 0 cap) []]) H (copyCheck_ct (BPM.self (M:=M0))) (.left (q0r _)) G trivial (q00 G) G ?_)))))))));intro O M w its H K hR;obtain⟨rfl,rfl⟩:=hR;simp only[l02,l03] at H;refine NL (TN (SQ (RG (MV G G (MV G G (FN G G Tu172 G Ts23 G G (ST (XL H Ta23) G ?_)))))));refine MV G G (WR.appStrRoom (l:=[]) (l2:=E) (gb:=gb) (cap:=cap) xty23 Tu9 H G (fun _=>by repeat first|exact .head|apply Upd.tail) G (by simpa using hc) (q00 G) G ?_);intro w H;refine FN G G Tu172 G Ts23 G G (q0Q [_,_] H G G (H.rowOne Km) Ku Kf Ts23 (by first|decide|(simp;done)|(simp;omega)) (q00 G) ?_);intro w H;refine NL (TN (SQ (RG (MV G G (ST (q0g Tu9 G) G (AS G G (AS G G (NL (TN (RT ?_))))))))));exact q0Z (its:=[.blk u (.cells #[ptr u 0, .slice (some ⟨gb,0,none⟩) E.length cap] 172),RowI 5 encB (.slice (some ⟨gb,0,none⟩) E.length cap) E]) G G G H Kp ⟨_,_,G,G⟩
theorem Y4T {p0:Ls}{p1:Ls}{r:Ls}(h:Y21 p0 p1=some r):Ct Tryz.prog 232 [S p0,S p1] (fun M=>Tabs M) (fun v M=>v=S r):=by
 refine Ct.of Tryz.func232 (enters Tryz.func232 Kr G) G G G ?_;intro w0 M0 H hp;have H0:=H;have K:=hp;unfold Y21 at h;split at h
 case isFalse=>cases h
 rename_i hsz;obtain⟨o1,V,h⟩:=bnd h;refine SQ (RG (AS G G (NL (TN (SQ (RG (q09 [_,_] H Tz172 G (q00 G) G ?_)))))));intro J w H;refine NL (TN (SQ (SQ (RG (MV G G (WR.rangeStr H Tu9 G (q00 G) G ?_))))));intro ap w H;refine NL (TN ?_);refine q0c (fun e w=>(∃(M:Mem),e=[(0,S p0),(1,S p1),(5,ptr J 0)]/\St w0 M0 M [.blk J (.cells #[(Value.pointer none),(Value.slice none 0 0)] 172)] w/\Tabs M/\o1=none)∨(∃(s3:Ls) (q u:Value) (a9:Ls) (gb cap i:Nat) (M:Mem),e=[(0,S s3),(1,S p1),(5,ptr J 0)]/\St w0 M0 M [.blk J (.cells #[q,u] 172),RowI 5 encB u a9] w/\Tabs M/\BPM M J q/\u = .slice (some ⟨gb,0,none⟩) a9.length cap/\0<cap/\o1=some i/\s3=p0.drop i/\a9=p0.take i)) [] ?_ ?_ (trivial)
 .
  refine BL ?_;refine q0l (fun m e w =>∃(N:Nat) (M:Mem),e=[(0,S p0),(1,S p1),(5,ptr J 0),(16,ptr ap 0)]/\St w0 M0 M [.blk J (.cells #[(Value.pointer none),(Value.slice none 0 0)] 172), .blk ap (.stringIter ⟨((p0):Ls).toArray⟩ N)] w/\Tabs M/\tvL1 p0 m N=some o1) FU [(0,_),(1,_),(5,_),(16,_)] ⟨rfl,rfl,rfl,rfl,trivial⟩ ⟨_,_,rfl,(H.pick (L':=[.blk J (.cells #[(Value.pointer none),(Value.slice none 0 0)] 172), .blk ap (.stringIter ⟨((p0):Ls).toArray⟩ 0)]) Kp),K,V⟩ ?_;clear V;rintro al e w ⟨N,M,rfl,H,K,V⟩;rcases al with _|al
  . rw[tvL1] at V;cases V
  rw[tvL1] at V;refine SQ ?_;by_cases a3:N<p0.length
  .
   rw[if_pos a3] at V;refine RG (WR.nextT H a3 G Ku (q00 G) G ?_);intro w H;refine ST (q05 G G) G (NL (TN (SQ (CT G (SK (TN (BL (SQ (RG (ST (q05 G G) G (ST (q05 G G) G (AS G G (AS G G (NL (TN (SQ (SQ (RG (MV G G (ST (q1j G G) G (NL (TN ?_))))))))))))))))))))));refine q0a G (fun Y=>?_) (fun Y=>?_)
   .
    replace Y :¬(((Utf.dr (p0.drop N)).1:Int)=(65533:Int)):=of_not_decide Y;rw[if_neg Y] at V;refine q0j (q03 (q0b ?_));exact AG al ⟨_,_,G,H,K,V⟩ (l06 _)
   replace Y:((Utf.dr (p0.drop N)).1:Int)=(65533:Int):=of_not_decide' Y;rw[if_pos Y] at V;refine SK (TN (SQ ?_));have hne:p0.drop N≠ []:=by rw[Ne,l2d];omega
   have am:cut p0 (N:Int) (p0.length:Int)=some (p0.drop N):=cut_from rfl (Nat.le_of_lt a3);have bg:Y0f (p0.drop N)=some (((Utf.dr (p0.drop N)).1:Int),((Utf.dr (p0.drop N)).2:Int)):=by unfold Y0f;rw [if_pos hne]
   refine RG (MV G G (MV G G (ST (q1f Tu9 G G am) G (q02 H (Y34 bg) G (K) (q00 G) G ?_))));intro cj M w H U hR;replace K:=K.mono U;try dsimp only at hR
   obtain rfl:=hR;refine MV G G (ST (q05 G G) G (ST (q05 G G) G (AS G G (AS G G (NL (TN (SQ (RG (MV G G (ST (q0u G G) G (NL (TN ?_))))))))))));refine CB (p:=((Utf.dr (p0.drop N)).2:Int)=(1:Int)) G (fun ah=>?_) fun ah=>?_
   .
    rw[if_pos ah] at V;refine SQ ?_;have b1:chk ((p0.length:Int)+(p1.length:Int))=some ((p0.length:Int)+(p1.length:Int)):=chk_ok Om Om;refine RG (MV G G (ST (q0g Tu9 G) G (MV G G (ST (q0g Tu9 G) G (ST (q0e G G b1) G ?_)))));have br:=H.blk (List.Mem.head _);have hB5:w0.heap.size<=J:=by
     rcases((H.own _ (List.Mem.head _)).2 J rfl).2 with h1|h1
     . exact h1
     exact h1.elim
    refine WR.callW (enters Tryz.func99 Kr G) (Tryz.Builder_Grow_fresh_cap w0.heap.size J (p0.length+p1.length) _ hB5 br H.ext.below.size Om) (by rw[<-Int.natCast_add];rfl) (q00 G) G ?_;rintro w' ⟨⟨⟨_,u,ba,an,bb⟩,hbel⟩,pp,cap,hcell,hcap⟩;have hu:u = .slice pp 0 cap:=by simpa [World.cell?,ba] using hcell
    obtain⟨gb,rfl⟩ :∃gb,pp=some ⟨gb,0,none⟩:=by
     rcases an.2 with ⟨h1,_⟩|⟨g',cap',cur,h1,_⟩
     . rw[hu] at h1;cases h1;omega
     rw[hu] at h1;cases h1;exact ⟨_,rfl⟩
    subst hu;have hgB:w0.heap.size<=gb:=by
     have:=World.ownsRow.lt an gb rfl;exact this.1
    have hgne:gb≠J:=fun h=>bb (by rw[h];rfl)
    have H:=StX.restart H0 H hbel (L':=[.blk J (.cells #[ptr J 0, .slice (some ⟨gb,0,none⟩) 0 cap] 172),RowI 5 encB (.slice (some ⟨gb,0,none⟩) 0 cap) []])
     (by
      intro it hit;rcases List.mem_cons.1 hit with rfl|hit
      . exact⟨ba,fun b hb=>by cases hb;exact hB5⟩
      rcases List.mem_singleton.1 hit with rfl;exact⟨⟨an.1,an.2.elim .inl (fun⟨g1,c1,u1,h1,_,h3⟩ => .inr ⟨g1,c1,u1,h1,l0o _,h3⟩)⟩,fun b hb=>by cases hb;exact hgB⟩)
     (by
      refine List.Pairwise.cons (fun y hy b hb hb'=>?_) (List.pairwise_singleton _ _);rcases List.mem_singleton.1 hy with rfl;cases hb;exact bb hb')
    replace K:=hp;refine NL (TN (SQ ?_));have b2:cut p0 0 (N:Int)=some (p0.take N):=cut_to rfl (Nat.le_of_lt a3);refine RG (MV G G (MV G G (ST (q1y Tu9 G G b2) G (q0q (A:=[.blk J (.cells #[ptr J 0, .slice (some ⟨gb,0,none⟩) 0 cap] 172),RowI 5 encB (.slice (some ⟨gb,0,none⟩) 0 cap) []]) (B:=[]) H (tvWrite_ct (by rw[l0c];omega)) (.left (.left (Spl.nil))) G trivial (q00 G) G ?_))));intro ck M w its H U hR;replace K:=K.mono U;obtain⟨cm,bz,rfl,rfl⟩:=hR;simp only[l02,l03] at H;refine NL (TN (SQ (RG (MV G G (MV G G (ST (q1f Tu9 G G am) G (AS G G (NL (TN (q0j (q1r G (q03 (q0b ?_)))))))))))));exact MN (.inr ⟨_,_,_,_,gb,cap,N,_,G,H,K,BPM.self,G,by omega,(oI V).symm,G,G⟩)
   rw[if_neg ah] at V;refine SK (IB ?_);exact AG al ⟨_,_,G,H,K,V⟩ (l06 _)
  rw[if_neg a3] at V;refine RG (WR.nextF H (l2s a3) G Km (q00 G) G ?_);refine ST (q05 G G) G (NL (TN (SQ (CF G (q0j (q03 (q03 (q0b ?_))))))));exact MN (.inl ⟨_,G,(H.pick (L':=[.blk J (.cells #[(Value.pointer none),(Value.slice none 0 0)] 172)]) Kp),K,(oI V).symm⟩)
 rintro e w (⟨M,rfl,H,K,rfl⟩|⟨s3,c0,c2,a9,gb,cap,i,M,rfl,H,K,aq,hu,hcap,rfl,bs,bh⟩)
 .
  dsimp only at h;refine TN (SQ (SQ (RG (WR.callW (enters Tryz.func250 Kr G) (Tryz.Builder_Cap_cell J none 0 0 _ (by simp [World.cell?,H.blk (List.Mem.head _)])) G (q00 G) G ?_))));rintro w' rfl;refine ST (q0u G G) G (NL (TN (CT G (SQ (RG (MV G G (AS G G (NL (TN (RT ?_))))))))));obtain rfl:=oI h;exact q07 G G H.ext G
 dsimp only at h;rw[<-bs,<-bh] at h;refine TN (SQ (SQ (RG (WR.callW (enters Tryz.func250 Kr G) (Tryz.Builder_Cap_cell J (some ⟨gb,0,none⟩) a9.length cap _ (by simp [World.cell?,H.blk (List.Mem.head _),hu])) G (q00 G) G ?_))));rintro w' rfl;refine ST (q0u G G) G (NL (TN ?_));refine q0a G (fun ar=>absurd (of_decide_eq_true ar) Om) (fun ar=>?_);refine SK (TN (SQ (RG (AS G G (NL (TN (SQ (SQ (RG (AS G G (NL (TN ?_))))))))))));obtain⟨bc,E,h⟩:=bnd h;refine q0c (fun e w =>∃(aa:Value) (ab:Ls) (a6:Value) (M:Mem),e=[(5,ptr J 0)]/\St w0 M0 M [.blk J (.cells #[aa,a6] 172),RowI 5 encB a6 ab] w/\Tabs M/\BPM M J aa/\some ab=some bc) [] ?_ ?_ (trivial)
 .
  refine BL (q0l (fun m e w =>∃(a1:Value) (a2:Ls) (O:Value) (ac:Bool) (ao:Int) (M:Mem),e=[(0,S s3),(1,S p1),(5,ptr J 0),(10,Value.bool ac),(11,I ao)]/\St w0 M0 M [.blk J (.cells #[a1,O] 172),RowI 5 encB O a2] w/\Tabs M/\BPM M J a1/\Y0m p1 s3 m a2 ac ao=some bc) FU [(0,_),(1,_),(5,_),(10,_),(11,_)] ⟨rfl,rfl,rfl,rfl,rfl,trivial⟩ ⟨_,_,_,_,_,_,rfl,H,K,aq,E⟩ ?_);rintro ad e w ⟨a1,a2,O,ac,ao,M,rfl,H,K,Z,E⟩;rcases ad with _|ad
  . rw[Y0m] at E;cases E
  rw[Y0m] at E;refine SQ (SQ (RG (MV G G (MV G G (ST (q0g Tu9 G) G (ST (q0m G G) G (NL (TN ?_))))))));refine CB (p:=ao<(s3.length:Int)) G (fun ai=>?_) fun ai=>?_
  .
   rw[if_pos ai] at E;refine SK (TN (BL (SQ ?_)));obtain⟨bd,b3,E⟩:=bnd E;refine RG (MV G G (MV G G (ST (q0p Tu9 G G b3) G (AS G G (NL (TN (SQ (SQ (RG (MV G G (ST (Ex.lssB (i:=bd.toNat) (j:=128) G G) G (NL (TN ?_)))))))))))));refine CB (p:=bd.toNat<128) G (fun aj=>?_) fun aj=>?_
   .
    rw[if_pos aj] at E;refine SQ ?_;obtain⟨cn,b4,E⟩:=bnd E;refine RG (MV G G (ST (q0e G G b4) G (AS G G (NL (TN (SQ (RG (AS G G (NL (TN (SQ ?_)))))))))));obtain⟨⟨co,cp⟩,bi,E⟩:=bnd E;try dsimp only at E
    refine RG (MV G G ?_);refine q0q (A:=[.blk J (.cells #[a1,O] 172),RowI 5 encB O a2]) (B:=[]) (H.pick (L':=[.blk J (.cells #[a1,O] 172),RowI 5 encB O a2]) Kp) (Y3Y bi) (.left (.left (q0r _))) G (Z) (q00 G) G ?_;intro cq M w its H U hR;replace K:=K.mono U;try dsimp only at hR
    obtain⟨c3,c4,c5,rfl,c6,au,rfl⟩:=hR;simp only[l02,l03] at H;refine NL (TN (q0j (q03 (q0b ?_))));exact AG ad ⟨_,_,_,_,_,_,G,H,K,au,E⟩ (l06 _)
   rw[if_neg aj] at E;refine SK (TN (SQ ?_));obtain⟨cr,b5,E⟩:=bnd E;obtain⟨⟨ct,bt⟩,bj,E⟩:=bnd E;try dsimp only at E
   refine RG (MV G G (MV G G (ST (q1f Tu9 G G b5) G (q02 H (Y34 bj) G (K) (q00 G) G ?_))));intro cu M w H U hR;replace K:=K.mono U;replace Z:=Z.mono U;try dsimp only at hR
   obtain rfl:=hR;refine MV G G (ST (q05 G G) G (ST (q05 G G) G (AS G G (AS G G (NL (TN (SQ (SQ (RG (MV G G (ST (q0u G G) G (NL (TN ?_)))))))))))));refine CB (p:=bt=(1:Int)) G (fun ak=>?_) fun ak=>?_
   .
    rw[if_pos ak] at E;refine SQ ?_;obtain⟨bu,b6,E⟩:=bnd E;refine RG (MV G G (ST (q0e G G b6) G (AS G G (NL (TN (SQ (SQ (RG (MV G G (ST (q0y G) G (NL (TN ?_))))))))))));obtain⟨bv,a7,E⟩:=bnd E;refine q0c (fun e w =>∃(av:Value) (aw:Ls) (ax:Value) (ay:Bool) (M:Mem),e=[(0,S s3),(1,S p1),(5,ptr J 0),(10,Value.bool ay),(11,I bu)]/\St w0 M0 M [.blk J (.cells #[av,ax] 172),RowI 5 encB ax aw] w/\Tabs M/\BPM M J av/\some (aw,ay)=some bv) [] ?_ ?_ (trivial)
    .
     refine q0a G (fun a0=>?_) (fun a0=>?_)
     .
      replace a0:ac=false:=by simpa using a0
      subst a0;rw[if_neg l00] at a7;refine SQ (RG (AS G G (NL (TN ?_))));obtain⟨⟨cv,cw,cx⟩,bm,a7⟩:=bnd a7;try dsimp only at a7
      refine RG (MV G G ?_);refine q0q (A:=[.blk J (.cells #[a1,O] 172),RowI 5 encB O a2]) (B:=[]) (H.pick (L':=[.blk J (.cells #[a1,O] 172),RowI 5 encB O a2]) Kp) (Y2A bm) (.left (.left (q0r _))) G (Z) (q00 G) G ?_;intro cy M w its H U hR;replace K:=K.mono U;try dsimp only at hR
      obtain⟨c7,c8,c9,rfl,ca,az,rfl⟩:=hR;simp only[l02,l03] at H;refine NL ?_;exact MN ⟨_,_,_,_,_,G,H,K,az,a7⟩
     replace a0:ac=true:=by simpa using a0
     subst a0;rw[if_pos rfl] at a7;refine SK ?_;exact MN ⟨_,_,_,_,_,G,H,K,Z,a7⟩
    rintro e w ⟨av,aw,ax,ay,M,rfl,H,K,bn,bw⟩;obtain rfl:=oI bw;try dsimp only at E
    refine TN (q0j (q03 (q0b ?_)));exact AG ad ⟨_,_,_,_,_,_,G,H,K,bn,E⟩ (l06 _)
   rw[if_neg ak] at E;refine SK (TN (SQ (RG (AS G G (NL (TN (SQ ?_)))))));obtain⟨cz,b7,E⟩:=bnd E;obtain⟨d0,b8,E⟩:=bnd E;obtain⟨⟨d1,d2,d3⟩,bo,E⟩:=bnd E;try dsimp only at E
   refine RG (MV G G (MV G G (MV G G (MV G G (ST (q0e G G b7) G (ST (Ex.sliceC Tu9 G G G b8) G ?_))))));refine q0q (A:=[.blk J (.cells #[a1,O] 172),RowI 5 encB O a2]) (B:=[]) (H.pick (L':=[.blk J (.cells #[a1,O] 172),RowI 5 encB O a2]) Kp) (Y2A bo) (.left (.left (q0r _))) G (Z) (q00 G) G ?_;intro d4 M w its H U hR;replace K:=K.mono U;try dsimp only at hR
   obtain⟨cb,cc,cd,rfl,ce,b0,rfl⟩:=hR;simp only[l02,l03] at H;refine NL (TN ?_);obtain⟨d5,b9,E⟩:=bnd E;refine RG (MV G G (MV G G (ST (q0e G G b9) G (AS G G (NL (IB ?_))))));exact AG ad ⟨_,_,_,_,_,_,G,H,K,b0,E⟩ (l06 _)
  rw[if_neg ai] at E;refine q0j (q03 (q03 (q0b ?_)));exact MN ⟨_,_,_,_,G,H,K,Z,E⟩
 rintro e w ⟨aa,ab,a6,M,rfl,H,K,bp,bx⟩;obtain rfl:=oI bx;refine TN (SQ ?_);obtain⟨d6,bq,h⟩:=bnd h;refine RG ?_;refine q0q (A:=[.blk J (.cells #[aa,a6] 172),RowI 5 encB a6 ab]) (B:=[]) (H.pick (L':=[.blk J (.cells #[aa,a6] 172),RowI 5 encB a6 ab]) Kp) (Y4s bq) (.left (.left (q0r _))) G (bp) (q00 G) G ?_;intro d7 M w its H U hR;obtain⟨rfl,rfl⟩:=hR;simp only[l02,l03] at H;refine AS G G (NL (TN (RT ?_)));obtain rfl:=oI h;exact q07 G G H.ext G
theorem Y4F {p0 r:List (Ls × Int × Bool × Ls)}{u:Value}(h:Y0w p0=some r):CtX Tryz.prog 229 [u, .func (.func 230) #[] #[]] [RowS 239 4 xenc239 u p0] (fun _=>True) (fun v M its=>v = .tuple #[]/\its=[RowS 239 4 xenc239 u r]):=sortPiece_ct h
theorem Y5u {p0:Ls}{r:Bool}(h:Y3f p0=some r):Ct Tryz.prog 131 [S p0] (fun M=>Tabs M) (fun v M=>v=Value.bool r):=by
 unfold Y3f at h;split at h
 case isFalse=>cases h
 rename_i hb;cases h;exact validString_spec p0 hb
theorem Y4t {p0:List Ls}{N:Nat}{u:Value}{r:(Ls × List Ls)}(h:Y2J p0=some r):CtX Tryz.prog 117 [ptr N 0] [.blk N (.cells #[Value.int .u32 0,Value.int .i32 1,Value.int .u32 0,Value.nilIface,u] 140)] (fun M=>Sl M encS u p0) (fun v M its =>∃b0_,v=(Value.iface 227 (ptr b0_ 0))/\PtM M b0_ (.cells (List.map encB r.1).toArray 226)/\its=[.blk N (.cells #[Value.int .u32 0,Value.int .i32 1,Value.int .u32 0,Value.nilIface,u] 140)]):=by
 refine q0W Tryz.func117 (enters Tryz.func117 Kr G) G G G ?_;intro w0 M0 H hp;have E:=hp;unfold Y2J at h;refine SQ (RG (AS G G (NL (TN (SQ (RG (MV G G (FN G G Tu140 G Ts77 G G (ST (XL H Ta77) G ?_)))))))));refine AS G G (NL (TN (SQ (SQ ?_))));obtain⟨o1,e2,h⟩:=bnd h;refine q0c (fun e w =>∃(b3:Bool) (M:Mem),e=[(3,u),(28,Value.bool b3)]/\StX (feet [.blk N (.cells #[Value.int .u32 0,Value.int .i32 1,Value.int .u32 0,Value.nilIface,u] 140)]) w0 M0 M [.blk N (.cells #[Value.int .u32 0,Value.int .i32 1,Value.int .u32 0,Value.nilIface,u] 140)] w/\Sl M encS u p0/\some b3=some o1) [] ?_ ?_ (trivial)
 .
  refine RG (MV G G (ST (q0o Tu77 E G) G ?_));by_cases a6:(p0.length:Int)=(2:Int)
  .
   rw[if_pos a6] at e2;obtain⟨a5,be,e2⟩:=bnd e2;obtain⟨bz,c5,bg,bh⟩:=E.atC be;refine DT a6 (q0u G G) G (MV G G (SG (q06 G) G G G (SG (q0s bg Tu77 Ts9 G G) G G G (SG (q0n H G bh Ta9) G G G (SG (q0g Tu9 G) G G G (SG (q0C G G) G G G (PT G G G (NL ?_))))))));exact MN ⟨_,_,G,H,E,e2⟩
  rw[if_neg a6] at e2;refine DF a6 (q0u G G) G (MV G G (q0i 5 G G (PF G G G (NL ?_))));exact MN ⟨_,_,G,H,E,e2⟩
 rintro e w ⟨b3,M,rfl,H,E,q6⟩;obtain rfl:=oI q6;refine TN ?_;refine q0a G (fun ad=>?_) (fun ad=>?_)
 .
  subst ad;rw[if_pos rfl] at h;cases h
 subst ad;rw[if_neg l00] at h;refine SK (TN (SQ (RG (AS G G (NL (TN (SQ (SQ (RG (AS G G (NL (TN ?_))))))))))));obtain⟨b8,J,h⟩:=bnd h;refine q0c (fun e w =>∃(ae:Bool) (M:Mem),e=[(3,u),(4,Value.bool ae)]/\StX (feet [.blk N (.cells #[Value.int .u32 0,Value.int .i32 1,Value.int .u32 0,Value.nilIface,u] 140)]) w0 M0 M [.blk N (.cells #[Value.int .u32 0,Value.int .i32 1,Value.int .u32 0,Value.nilIface,u] 140)] w/\Sl M encS u p0/\some (.inl ae)=some b8) [] ?_ ?_ (trivial)
 .
  refine BL (q0l (fun m e w =>∃(ah:Bool) (a7:Int) (M:Mem),e=[(3,u),(4,Value.bool ah),(5,I a7)]/\StX (feet [.blk N (.cells #[Value.int .u32 0,Value.int .i32 1,Value.int .u32 0,Value.nilIface,u] 140)]) w0 M0 M [.blk N (.cells #[Value.int .u32 0,Value.int .i32 1,Value.int .u32 0,Value.nilIface,u] 140)] w/\Sl M encS u p0/\Y0C p0 m ah a7=some b8) FU [(3,_),(4,_),(5,_)] ⟨rfl,rfl,rfl,trivial⟩ ⟨_,_,_,rfl,H,E,J⟩ ?_);rintro a8 e w ⟨ah,a7,M,rfl,H,E,J⟩;rcases a8 with _|a8
  . rw[Y0C] at J;cases J
  rw[Y0C] at J;refine SQ (SQ (RG (MV G G (MV G G (ST (q0o Tu77 E G) G (ST (q0m G G) G (NL (TN ?_))))))));refine CB (p:=a7<(p0.length:Int)) G (fun a1=>?_) fun a1=>?_
  .
   rw[if_pos a1] at J;refine SK (TN (SQ (BL (SQ (SQ ?_)))));obtain⟨b9,am,J⟩:=bnd J;obtain⟨c1,c6,bi,bj⟩:=E.atC am;refine RG (MV G G (MV G G (ST (q0s bi Tu77 Ts9 G G) G (ST (q0n H G bj Ta9) G (ST (q0g Tu9 G) G (ST (q1j G G) G (NL (TN ?_))))))));refine q0a G (fun U=>?_) (fun U=>?_)
   .
    replace U :¬((b9.length:Int)=(1:Int)):=of_not_decide U;rw[if_neg U] at J;cases J
   replace U:(b9.length:Int)=(1:Int):=of_not_decide' U;rw[if_pos U] at J;refine SK (TN (SQ ?_));obtain⟨c7,an,J⟩:=bnd J;obtain⟨ba,ao,J⟩:=bnd J;obtain⟨c2,c8,bm,bn⟩:=E.atC ao;refine RG (MV G G (MV G G (ST (q0e G G an) G (ST (q0s bm Tu77 Ts9 G G) G (ST (q0n H G bn Ta9) G (ST (q0g Tu9 G) G (ST (q1j G G) G (NL (TN ?_)))))))));refine q0a G (fun V=>?_) (fun V=>?_)
   .
    replace V :¬((ba.length:Int)=(1:Int)):=of_not_decide V;rw[if_neg V] at J;refine RG (AS G G (NL (IB (TN ?_))));obtain⟨c9,ap,J⟩:=bnd J;refine RG (MV G G (ST (q0e G G ap) G (AS G G (NL ?_))));exact AG a8 ⟨_,_,_,G,H,E,J⟩ (l06 _)
   replace V:(ba.length:Int)=(1:Int):=of_not_decide' V;rw[if_pos V] at J;refine SK (IB (TN ?_));obtain⟨ca,aq,J⟩:=bnd J;refine RG (MV G G (ST (q0e G G aq) G (AS G G (NL ?_))));exact AG a8 ⟨_,_,_,G,H,E,J⟩ (l06 _)
  rw[if_neg a1] at J;refine q0j (q03 (q03 (q0b ?_)));exact MN ⟨_,_,G,H,E,J⟩
 rintro e w ⟨ae,M,rfl,H,E,bt⟩;obtain rfl:=oI bt;try dsimp only at h
 refine TN (SQ (SQ (RG (MV G G (NL (TN ?_))))));refine q0a G (fun a2=>?_) (fun a2=>?_)
 .
  subst a2;rw[if_pos rfl] at h;refine SQ ?_;obtain⟨cb,ar,h⟩:=bnd h;obtain⟨cc,au,h⟩:=bnd h;refine RG (ST (Ex.buildArr [encB 0,encB 0,encB 0,encB 0,encB 0,encB 0,encB 0,encB 0,encB 0,encB 0,encB 0,encB 0,encB 0,encB 0,encB 0,encB 0,encB 0,encB 0,encB 0,encB 0,encB 0,encB 0,encB 0,encB 0,encB 0,encB 0,encB 0,encB 0,encB 0,encB 0,encB 0,encB 0,encB 0,encB 0,encB 0,encB 0,encB 0,encB 0,encB 0,encB 0,encB 0,encB 0,encB 0,encB 0,encB 0,encB 0,encB 0,encB 0,encB 0,encB 0,encB 0,encB 0,encB 0,encB 0,encB 0,encB 0,encB 0,encB 0,encB 0,encB 0,encB 0,encB 0,encB 0,encB 0,encB 0,encB 0,encB 0,encB 0,encB 0,encB 0,encB 0,encB 0,encB 0,encB 0,encB 0,encB 0,encB 0,encB 0,encB 0,encB 0,encB 0,encB 0,encB 0,encB 0,encB 0,encB 0,encB 0,encB 0,encB 0,encB 0,encB 0,encB 0,encB 0,encB 0,encB 0,encB 0,encB 0,encB 0,encB 0,encB 0,encB 0,encB 0,encB 0,encB 0,encB 0,encB 0,encB 0,encB 0,encB 0,encB 0,encB 0,encB 0,encB 0,encB 0,encB 0,encB 0,encB 0,encB 0,encB 0,encB 0,encB 0,encB 0,encB 0,encB 0,encB 0,encB 0,encB 0,encB 0,encB 0,encB 0,encB 0,encB 0,encB 0,encB 0,encB 0,encB 0,encB 0,encB 0,encB 0,encB 0,encB 0,encB 0,encB 0,encB 0,encB 0,encB 0,encB 0,encB 0,encB 0,encB 0,encB 0,encB 0,encB 0,encB 0,encB 0,encB 0,encB 0,encB 0,encB 0,encB 0,encB 0,encB 0,encB 0,encB 0,encB 0,encB 0,encB 0,encB 0,encB 0,encB 0,encB 0,encB 0,encB 0,encB 0,encB 0,encB 0,encB 0,encB 0,encB 0,encB 0,encB 0,encB 0,encB 0,encB 0,encB 0,encB 0,encB 0,encB 0,encB 0,encB 0,encB 0,encB 0,encB 0,encB 0,encB 0,encB 0,encB 0,encB 0,encB 0,encB 0,encB 0,encB 0,encB 0,encB 0,encB 0,encB 0,encB 0,encB 0,encB 0,encB 0,encB 0,encB 0,encB 0,encB 0,encB 0,encB 0,encB 0,encB 0,encB 0,encB 0,encB 0,encB 0,encB 0,encB 0,encB 0,encB 0,encB 0,encB 0,encB 0,encB 0,encB 0,encB 0,encB 0,encB 0,encB 0,encB 0,encB 0,encB 0,encB 0,encB 0,encB 0,encB 0,encB 0,encB 0,encB 0,encB 0,encB 0,encB 0,encB 0,encB 0,encB 0,encB 0,encB 0,encB 0,encB 0,encB 0] Tu226 Tryz.zeroValue226 Ts5 G Kr) G ?_)
  refine q09 (List.map encB (List.replicate 256 0:Ls)) H Tryz.zeroValue226 Kr (q00 G) G ?_;intro Y w H;refine q1z (l2:=([0,0,0,0,0,0,0,0,0,0,0,0,0,0,0,0,0,0,0,0,0,0,0,0,0,0,0,0,0,0,0,0,0,0,0,0,0,0,0,0,0,0,0,0,0,0,0,0,0,0,0,0,0,0,0,0,0,0,0,0,0,0,0,0,0,0,0,0,0,0,0,0,0,0,0,0,0,0,0,0,0,0,0,0,0,0,0,0,0,0,0,0,0,0,0,0,0,0,0,0,0,0,0,0,0,0,0,0,0,0,0,0,0,0,0,0,0,0,0,0,0,0,0,0,0,0,0,0,0,0,0,0,0,0,0,0,0,0,0,0,0,0,0,0,0,0,0,0,0,0,0,0,0,0,0,0,0,0,0,0,0,0,0,0,0,0,0,0,0,0,0,0,0,0,0,0,0,0,0,0,0,0,0,0,0,0,0,0,0,0,0,0,0,0,0,0,0,0,0,0,0,0,0,0,0,0,0,0,0,0,0,0,0,0,0,0,0,0,0,0,0,0,0,0,0,0,0,0,0,0,0,0,0,0,0,0,0,0,0,0,0,0,0,0,0,0,0,0,0,0,0,0,0,0,0,0]:Ls)) H G G (fun _=>G) (fun _=>by repeat first|exact .head|apply Upd.tail) ar au Tryz.sizeOf226 (q00 G) ?_;intro w H;refine NL (TN (SQ (SQ (RG (MV G G (NL (TN ?_)))))));obtain⟨bb,O,h⟩:=bnd h;refine q0c (fun e w =>∃(ai:Ls) (M:Mem),e=[(3,u),(6,ptr Y 0)]/\StX (feet [.blk N (.cells #[Value.int .u32 0,Value.int .i32 1,Value.int .u32 0,Value.nilIface,u] 140)]) w0 M0 M [.blk Y (.cells (List.map encB ai).toArray 226), .blk N (.cells #[Value.int .u32 0,Value.int .i32 1,Value.int .u32 0,Value.nilIface,u] 140)] w/\Sl M encS u p0/\some ai=some bb) [] ?_ ?_ (trivial)
  .
   refine BL (q0l (fun m e w =>∃(a9:Ls) (Z:Int) (M:Mem),e=[(3,u),(6,ptr Y 0),(61,I Z)]/\StX (feet [.blk N (.cells #[Value.int .u32 0,Value.int .i32 1,Value.int .u32 0,Value.nilIface,u] 140)]) w0 M0 M [.blk Y (.cells (List.map encB a9).toArray 226), .blk N (.cells #[Value.int .u32 0,Value.int .i32 1,Value.int .u32 0,Value.nilIface,u] 140)] w/\Sl M encS u p0/\Y0V  m a9 Z=some bb) FU [(3,_),(6,_),(61,_)] ⟨rfl,rfl,rfl,trivial⟩ ⟨_,_,_,rfl,H,E,O⟩ ?_);rintro aj e w ⟨a9,Z,M,rfl,H,E,O⟩;rcases aj with _|aj
   . rw[Y0V] at O;cases O
   rw[Y0V] at O;refine SQ (RG (ST (q0m G G) G (NL (TN (SQ ?_)))));refine CB (p:=Z<(256:Int)) G (fun a3=>?_) fun a3=>?_
   .
    rw[if_pos a3] at O;refine SK (TN (SQ (BL (SQ (RG (MV G G (AS G G (NL (TN ?_)))))))));obtain⟨cd,av,O⟩:=bnd O;obtain⟨ce,aw,O⟩:=bnd O;refine RG (MV G G (MV G G (ST (Ex.convU8C Tu3 Tu5 G) G (ST (Ex.idxArrC (l:=a9) Tu226 Ts5 G G av) G (WR.storeArr (a:=(ub8 Z)) H G G ⟨G,G⟩ (fun _=>by repeat first|exact .head|apply Upd.tail) aw Ts5 (q00 G) ?_)))));intro w H;refine NL (IB (TN ?_));obtain⟨cf,ax,O⟩:=bnd O;refine RG (ST (q0e G G ax) G (MV G G (NL ?_)));exact AG aj ⟨_,_,_,G,H,E,O⟩ (l06 _)
   rw[if_neg a3] at O;refine q0j (q03 (q03 (q0b ?_)));exact MN ⟨_,_,G,H,E,O⟩
  rintro e w ⟨ai,M,rfl,H,E,bu⟩;obtain rfl:=oI bu;refine TN (SQ (SQ ?_));obtain⟨cg,ay,h⟩:=bnd h;refine RG (MV G G (ST (q0o Tu77 E G) G (ST (q0K G G ay) G (AS G G (NL (TN ?_))))));obtain⟨bc,K,h⟩:=bnd h;refine q0c (fun e w =>∃(ak:Ls) (M:Mem),e=[(6,ptr Y 0)]/\StX (feet [.blk N (.cells #[Value.int .u32 0,Value.int .i32 1,Value.int .u32 0,Value.nilIface,u] 140)]) w0 M0 M [.blk Y (.cells (List.map encB ak).toArray 226), .blk N (.cells #[Value.int .u32 0,Value.int .i32 1,Value.int .u32 0,Value.nilIface,u] 140)] w/\Sl M encS u p0/\some ak=some bc) [] ?_ ?_ (trivial)
  .
   refine BL (q0l (fun m e w =>∃(aa:Ls) (ab:Int) (M:Mem),e=[(3,u),(6,ptr Y 0),(8,I ab)]/\StX (feet [.blk N (.cells #[Value.int .u32 0,Value.int .i32 1,Value.int .u32 0,Value.nilIface,u] 140)]) w0 M0 M [.blk Y (.cells (List.map encB aa).toArray 226), .blk N (.cells #[Value.int .u32 0,Value.int .i32 1,Value.int .u32 0,Value.nilIface,u] 140)] w/\Sl M encS u p0/\Y0W p0 m aa ab=some bc) FU [(3,_),(6,_),(8,_)] ⟨rfl,rfl,rfl,trivial⟩ ⟨_,_,_,rfl,H,E,K⟩ ?_);rintro al e w ⟨aa,ab,M,rfl,H,E,K⟩;rcases al with _|al
   . rw[Y0W] at K;cases K
   rw[Y0W] at K;refine SQ (SQ (RG (MV G G (ST (q0R G G) G (NL (TN ?_))))));refine CB (p:=(0:Int)<=ab) G (fun a4=>?_) fun a4=>?_
   .
    rw[if_pos a4] at K;refine SK (TN (SQ (BL (SQ ?_))));obtain⟨ch,az,K⟩:=bnd K;obtain⟨c3,ci,bo,bp⟩:=E.atC az;obtain⟨cj,b0,K⟩:=bnd K;refine RG (MV G G (MV G G (ST (q0s bo Tu77 Ts9 G G) G (ST (q0n H G bp Ta9) G (ST (q0p Tu9 G G b0) G (AS G G (NL (TN (SQ ?_)))))))));obtain⟨ck,b1,K⟩:=bnd K;obtain⟨cm,b2,K⟩:=bnd K;obtain⟨c4,cn,bq,br⟩:=E.atC b2;obtain⟨bv,b4,K⟩:=bnd K;refine RG (MV G G (MV G G (ST (q0e G G b1) G (ST (q0s bq Tu77 Ts9 G G) G (ST (q0n H G br Ta9) G (ST (q0p Tu9 G G b4) G (AS G G (NL (TN ?_)))))))));obtain⟨co,b5,K⟩:=bnd K;obtain⟨cp,b6,K⟩:=bnd K;refine RG (MV G G (MV G G (ST (Ex.idxArrC (l:=aa) Tu226 Ts5 G G b5) G (WR.storeArr (a:=bv) H G G ⟨G,G⟩ (fun _=>by repeat first|exact .head|apply Upd.tail) b6 Ts5 (q00 G) ?_))));intro w H;refine NL (IB (TN ?_));obtain⟨cq,b7,K⟩:=bnd K;refine RG (MV G G (ST (q0K G G b7) G (AS G G (NL ?_))));exact AG al ⟨_,_,_,G,H,E,K⟩ (l06 _)
   rw[if_neg a4] at K;refine q0j (q03 (q03 (q0b ?_)));exact MN ⟨_,_,G,H,E,K⟩
  rintro e w ⟨ak,M,rfl,H,E,bw⟩;obtain rfl:=oI bw;refine TN (SQ (RG (ST (Ex.makeIface Tryz.underlying227 G) G (AS G G (NL (TN (RT ?_)))))));obtain⟨M,cr,bs,H⟩:=H.freezeVarN (b:=Y) Kv ⟨⟨_,Km⟩,trivial⟩;obtain rfl:=oI h;exact q0T (its:=[.blk N (.cells #[Value.int .u32 0,Value.int .i32 1,Value.int .u32 0,Value.nilIface,u] 140)]) G G H Kp ⟨_,G,bs,G⟩
 subst a2;rw[if_neg l00] at h;cases h
theorem htab (c:UInt8):(tabR.map encB)[0+c.toNat*1]? = some (encB (rpb c)):=by
 have:=c.toNat_lt;rw[l0r,l0O];unfold tabR;rw[List.getElem?_map,List.getElem?_map,List.getElem?_range Om];simp
theorem rep_put {s:Ls}{k:Nat}(hk:k<s.length):idx ((s.take k).map rpb++s.drop k) (k:Int)=some s[k]/\put ((s.take k).map rpb++s.drop k) (k:Int) (rpb s[k])=some ((s.take (k+1)).map rpb++s.drop (k+1))/\(rpb s[k]=s[k]->(s.take (k+1)).map rpb++s.drop (k+1)=(s.take k).map rpb++s.drop k):=by
 have hlen:((s.take k).map rpb).length=k:=by rw[l0l,l0c];omega
 have hd:=l0g hk;have hll:((s.take k).map rpb++s.drop k).length=s.length:=by rw[l05,hlen,l04];omega
 refine⟨?_,?_,fun h=>?_⟩
 . rw[idx_nat,List.getElem?_append_right Om,hlen,l1d,hd];rfl
 . rw[put_ok Om Om,l0h,l1c _ _ Om,hlen,l1d,hd,l1U,l0w hk,l0R,l0k];rfl
 rw[l0w hk,l0R,l0k,hd];show _++(rpb s[k]::_)=_
 rw[h];rfl
theorem repB_ct {s:Ls}{N:Nat}{T:TypeId}(hs:s.length<=1000000):Ct Tryz.prog 304 [ptr N 0,S s] (fun M=>PtM M N (.cells (tabR.map encB).toArray T)) (fun v M=>v=S (s.map rpb)):=by
 refine Ct.of Tryz.func304 (enters Tryz.func304 Kr G) G G G ?_;intro K M0 H u;refine SQ (RG (AS G G (NL (TN (SQ (RG (AS G G (NL (TN (SQ (SQ (RG (AS G G (NL (TN ?_)))))))))))))));refine q0c (fun e w =>∃(vb:Value) (M:Mem),e=[(1,S s),(5,vb)]/\((vb = .slice none 0 0/\s.map rpb=s/\St K M0 M [] w)∨∃gb cap,vb = .slice (some ⟨gb,0,none⟩) s.length cap/\SOK M (s.map rpb) s.length cap/\St K M0 M [SRow gb cap 5 (s.map rpb)] w)) [] ?_ ?_ (trivial)
 . refine WC.block ?_;refine q0l (fun m e w =>∃(k:Nat) (vb:Value) (M:Mem),e=[(0,ptr N 0),(1,S s),(5,vb),(6,I (k:Int))]/\k<=s.length/\s.length-k<m/\PtM M N (.cells (tabR.map encB).toArray T)/\((vb = .slice none 0 0/\(s.take k).map rpb=s.take k/\St K M0 M [] w)∨∃gb cap,vb = .slice (some ⟨gb,0,none⟩) s.length cap/\SOK M ((s.take k).map rpb++s.drop k) s.length cap/\St K M0 M [SRow gb cap 5 ((s.take k).map rpb++s.drop k)] w)) FU [(0,_),(1,_),(5,_),(6,_)] ⟨rfl,rfl,rfl,rfl,trivial⟩ ⟨0,_,_,rfl,l0o _,by unfold FU;omega,u, .inl ⟨rfl,rfl,H⟩⟩ ?_;rintro m e w ⟨k,vb,M,rfl,hk,hm,u,hph⟩;obtain⟨m,rfl⟩ :∃q,m=q+1:=⟨m-1,by omega⟩
   rcases hph with ⟨rfl,hid,H⟩|⟨gb,cap,rfl,hok,H⟩
   . -- nothing is copied yet
     refine SQ (SQ (RG (MV G G (MV G G (ST (q0g Tu9 G) G (ST (q0m G G) G (NL (TN ?_))))))));refine q0a G (fun E=>?_) (fun E=>?_)
     . have hlt:k<s.length:=by have:=of_decide_eq_true E;omega
       have hidx:idx s (k:Int)=some s[k]:=by rw[idx_nat];exact List.getElem?_eq_getElem hlt
       obtain⟨hat,hput,hsame⟩:=rep_put hlt;refine SK (TN (SQ (BL (SQ (RG (MV G G (MV G G (ST (q0p Tu9 G G hidx) G (AS G G (NL (TN (SQ (RG (MV G G (MV G G (ST (q0S G) G (ST (q1n (i:=s[k].toNat) Tu226 Ts5 G G (s[k].toNat_lt)) G (ST (q0n H G (u.cell (htab s[k])) Ta5) G (MV G G (ST (Ex.neqB G G) G (NL (TN ?_))))))))))))))))))))));refine q0a G (fun J=>?_) (fun J=>?_)
       . refine WC.seq ?_;refine SQ (RG (MV G G (ST (q1b Tu23 G) G (NL (TN (CT G (RG (MV G G (WR.toBytesC H Tu9 Tu23 Tu5 G (toB_ok Om) (q00 G) G ?_)))))))));intro gb cap w hok H;refine AS G G (NL (TN ?_));have O:s=(s.take k).map rpb++s.drop k:=by rw[hid,l0E]
         replace hok:SOK M ((s.take k).map rpb++s.drop k) s.length cap:=by rw[<-O];exact hok
         replace H:St K M0 M [SRow gb cap 5 ((s.take k).map rpb++s.drop k)] w:=by rw[<-O];exact H
         refine RG (MV G G (MV G G (MV G G (MV G G (ST (q0S G) G (ST (q1n (i:=s[k].toNat) Tu226 Ts5 G G (s[k].toNat_lt)) G (ST (q0n H G (u.cell (htab s[k])) Ta5) G (ST (Ex.idxSC (i:=(k:Int)) Tu23 Ts5 hok G G hat) G (WR.storeSC (i:=(k:Int)) H G G hok (fun _=>Upd.head) hput Ts5 (q00 G) ?_)))))))));intro w hok H;refine NL (IB (TN (RG (MV G G (ST (q0e G G (chk_succ Om)) G ?_)))));refine AS G G (NL ?_);exact AG m ⟨k+1,_,M,G,by omega,by omega,u, .inr ⟨gb,cap,G,hok,H⟩⟩ (l06 _)
       have hsm:rpb s[k]=s[k]:=by simpa using J
       refine SK (IB (TN (RG (MV G G (ST (q0e G G (chk_succ Om)) G ?_)))));refine AS G G (NL ?_);exact AG m ⟨k+1,_,M,G,by omega,by omega,u, .inl ⟨G,by rw[l0w hlt,l0R,hid];simp [hsm],H.pick Kp⟩⟩ (l06 _)
     have hge:k=s.length:=by have:=of_decide_eq_false E;omega
     refine q0j (q03 (q03 (q0b ?_)));exact MN ⟨_,_,G, .inl ⟨G,by rw[hge,l0y] at hid;exact hid,H⟩⟩
   -- the copy
   refine SQ (SQ (RG (MV G G (MV G G (ST (q0g Tu9 G) G (ST (q0m G G) G (NL (TN ?_))))))));refine q0a G (fun E=>?_) (fun E=>?_)
   . have hlt:k<s.length:=by have:=of_decide_eq_true E;omega
     have hidx:idx s (k:Int)=some s[k]:=by rw[idx_nat];exact List.getElem?_eq_getElem hlt
     obtain⟨hat,hput,hsame⟩:=rep_put hlt;refine SK (TN (SQ (BL (SQ (RG (MV G G (MV G G (ST (q0p Tu9 G G hidx) G (AS G G (NL (TN (SQ (RG (MV G G (MV G G (ST (q0S G) G (ST (q1n (i:=s[k].toNat) Tu226 Ts5 G G (s[k].toNat_lt)) G (ST (q0n H G (u.cell (htab s[k])) Ta5) G (MV G G (ST (Ex.neqB G G) G (NL (TN ?_))))))))))))))))))))));refine q0a G (fun J=>?_) (fun J=>?_)
     . refine WC.seq ?_;refine SQ (RG (MV G G (ST (q1b Tu23 G) G (NL (TN (CF G (SK (TN (RG (MV G G (MV G G (MV G G (MV G G (ST (q0S G) G (ST (q1n (i:=s[k].toNat) Tu226 Ts5 G G (s[k].toNat_lt)) G (ST (q0n H G (u.cell (htab s[k])) Ta5) G (ST (Ex.idxSC (i:=(k:Int)) Tu23 Ts5 hok G G hat) G (WR.storeSC (i:=(k:Int)) H G G hok (fun _=>Upd.head) hput Ts5 (q00 G) ?_))))))))))))))))));intro w hok H;refine NL (IB (TN (RG (MV G G (ST (q0e G G (chk_succ Om)) G ?_)))));refine AS G G (NL ?_);exact AG m ⟨k+1,_,M,G,by omega,by omega,u, .inr ⟨gb,cap,G,hok,H⟩⟩ (l06 _)
     have hsm:rpb s[k]=s[k]:=by simpa using J
     refine SK (IB (TN (RG (MV G G (ST (q0e G G (chk_succ Om)) G ?_)))));refine AS G G (NL ?_);rw[<-hsame hsm] at hok H;exact AG m ⟨k+1,_,M,G,by omega,by omega,u, .inr ⟨gb,cap,G,hok,H⟩⟩ (l06 _)
   have hge:k=s.length:=by have:=of_decide_eq_false E;omega
   refine q0j (q03 (q03 (q0b ?_)));rw[hge,l0y,l0B,l0f] at hok H;exact MN ⟨_,_,G, .inr ⟨gb,cap,G,hok,H⟩⟩
 rintro e w ⟨vb,M,rfl,hph⟩;refine TN (SQ (SQ ?_));rcases hph with ⟨rfl,hid,H⟩|⟨gb,cap,rfl,hok,H⟩
 . refine q1o ?_;refine MV G G (ST (q1b Tu23 G) G (NL (TN (CT G (SQ (RG (MV G G (AS G G (NL (TN (RT ?_)))))))))));exact q07 G G H.ext (by rw[hid])
 refine q1o ?_;refine MV G G (ST (q1b Tu23 G) G (NL (TN (CF G (SK (TN (SQ (RG (MV G G (ST (Ex.toStrS Tu23 Tu5 Tu9 H (List.Mem.head _) (by rw[l0l]) G) G ?_))))))))));refine AS G G (NL (TN (RT ?_)));exact q07 G G H.ext G
def RplT (M:Mem)(u:Nat):Prop:=PtM M u (.cells (tabR.map encB).toArray 226)
theorem RplT.mono {M M':Mem}{u:Nat}(h:RplT M u)(hl:M.le M'):RplT M' u:=PtM.mono h hl
theorem rplBuilt : Y2J [[0],[32],[13],[32]]=some (tabR,[[0],[32],[13],[32]]):=by decide +kernel
theorem replT_ct {p0 r:Ls}{u:Nat}(h:Y0G p0=some r):Ct Tryz.prog 304 [ptr u 0,S p0] (fun M=>RplT M u) (fun v M=>v=S r):=by
 unfold Y0G at h;split at h
 case isFalse=>cases h
 rename_i hs;cases h;exact repB_ct hs
def RplM (M:Mem)(x:Array Value):Prop:=(∃v,x = #[Value.int .u32 0,Value.int .i32 0,Value.int .u32 0,Value.nilIface,v]/\Sl M encS v [[0],[32],[13],[32]])∨∃u,x = #[Value.int .u32 1,Value.int .i32 0,Value.int .u32 0,Value.iface 227 (ptr u 0),Value.slice none 0 0]/\RplT M u
theorem RplM.mono {M M':Mem}{x:Array Value}(h:RplM M x)(hl:M.le M'):RplM M' x:=by
 rcases h with ⟨v,u,E⟩|⟨J,u,E⟩
 . exact .inl ⟨v,u,E.mono hl⟩
 exact .inr ⟨J,u,E.mono hl⟩
theorem buildOnce_ct {b:Nat}{v:Value}:CtX Tryz.prog 81 [ptr b 0] [.blk b (.cells #[Value.int .u32 0,Value.int .i32 1,Value.int .u32 0,Value.nilIface,v] 140)] (fun M=>Sl M encS v [[0],[32],[13],[32]]) (fun r M its=>r = .tuple #[]/\∃u,RplT M u/\its=[.blk b (.cells #[Value.int .u32 0,Value.int .i32 1,Value.int .u32 0,Value.iface 227 (ptr u 0),Value.slice none 0 0] 140)]):=by
 refine q0W Tryz.func81 (enters Tryz.func81 Kr G) G G G ?_;intro K M0 H hp;refine SQ (RG (MV G G (MV G G (q0q (A:=[.blk b (.cells #[Value.int .u32 0,Value.int .i32 1,Value.int .u32 0,Value.nilIface,v] 140)]) (B:=[]) H (Y4t rplBuilt) (.left (q0r _)) G hp (q00 G) G ?_))));intro N M w its H J hR;obtain⟨u,rfl,E,rfl⟩:=hR;simp only[l02,l03] at H;refine FN G G Tu140 G Ts138 G G (q0Q [Value.int .u32 0,Value.int .i32 1,Value.int .u32 0,Value.iface 227 (ptr u 0),v] H G G ⟨G,G⟩ Upd.head G Ts138 (show(3:Nat)<5 from by decide) (q00 G) ?_);intro w H;refine NL (TN (RG (MV G G (FN G G Tu140 G Ts77 G G (q0Q [Value.int .u32 0,Value.int .i32 1,Value.int .u32 0,Value.iface 227 (ptr u 0),Value.slice none 0 0] H G G ⟨G,G⟩ Upd.head G Ts77 (show(4:Nat)<5 from by decide) (q00 G) ?_)))));intro w H;refine NL ?_;exact WQ.endX0 G H Kp ⟨G,u,E,G⟩
theorem onceDo_ct {b:Nat}{x:Array Value}:CtX Tryz.prog 80 [ptr b 0, .func (.func 81) #[ptr b 0] #[]] [.blk b (.cells x 140)] (fun M=>RplM M x) (fun r M its=>r = .tuple #[]/\∃u,RplT M u/\its=[.blk b (.cells #[Value.int .u32 1,Value.int .i32 0,Value.int .u32 0,Value.iface 227 (ptr u 0),Value.slice none 0 0] 140)]):=by
 refine⟨enters Tryz.func80 Kr G,fun w M H hp=>?_⟩;rcases hp with ⟨v,rfl,hs⟩|⟨u,rfl,E⟩
 . have H1:StX (feet [.blk b (.cells #[Value.int .u32 0,Value.int .i32 0,Value.int .u32 0,Value.nilIface,v] 140)]) w M M [.blk b (.cells #[Value.int .u32 0,Value.int .i32 1,Value.int .u32 0,Value.nilIface,v] 140)] (w.setCell ⟨b,1,none⟩ (.int .i32 1)):=H.setC (o:=1) (v := .int .i32 1) Upd.head;refine(oFirst b w (fun K =>∃M2 u,StX (feet [.blk b (.cells #[Value.int .u32 0,Value.int .i32 0,Value.int .u32 0,Value.nilIface,v] 140)]) w M M2 [.blk b (.cells #[Value.int .u32 0,Value.int .i32 1,Value.int .u32 0,Value.iface 227 (ptr u 0),Value.slice none 0 0] 140)] K/\RplT M2 u) (H.cellOf (o:=0) (List.Mem.head _) rfl) (H.cellOf (o:=1) (List.Mem.head _) rfl) (H.thawOf (List.Mem.head _)) (H.thawOf (List.Mem.head _)) ?_ ?_).mono ?_
   . refine(buildOnce_ct.calls _ M (H1.hand (q1p _)) hs).mono ?_;rintro e K ⟨r,M2,its,rfl,J,rfl,u,E,rfl⟩;exact⟨G,M2,u,H1.back (q1p _) J,E⟩
   . rintro K ⟨M2,u,J,_⟩;exact⟨J.cellOf (o:=0) (List.Mem.head _) G,J.cellOf (o:=1) (List.Mem.head _) G,J.thawOf (List.Mem.head _),J.thawOf (List.Mem.head _)⟩
   rintro e w' ⟨rfl,K,⟨M2,u,J,E⟩,rfl⟩;have N:StX (feet [.blk b (.cells #[Value.int .u32 0,Value.int .i32 0,Value.int .u32 0,Value.nilIface,v] 140)]) w M M2 [.blk b (.cells #[Value.int .u32 1,Value.int .i32 1,Value.int .u32 0,Value.iface 227 (ptr u 0),Value.slice none 0 0] 140)] (K.drew.setCell ⟨b,0,none⟩ (.int .u32 1)):=J.drew.setC (o:=0) (v := .int .u32 1) Upd.head;have O:StX (feet [.blk b (.cells #[Value.int .u32 0,Value.int .i32 0,Value.int .u32 0,Value.nilIface,v] 140)]) w M M2 [.blk b (.cells #[Value.int .u32 1,Value.int .i32 0,Value.int .u32 0,Value.iface 227 (ptr u 0),Value.slice none 0 0] 140)] ((K.drew.setCell ⟨b,0,none⟩ (.int .u32 1)).setCell ⟨b,1,none⟩ (.int .i32 0)):=N.setC (o:=1) (v := .int .i32 0) Upd.head;exact⟨_,M2,_,G,O,G,u,E,G⟩
 refine(oAgain ⟨b,0,none⟩ 1 Dc _ w (H.cellOf (o:=0) (List.Mem.head _) G)).mono ?_;rintro e w' ⟨rfl,rfl⟩;exact⟨_,M,_,G,H,G,u,E,G⟩
theorem methR (u : Nat): MethAt Tryz.prog 227 (ptr u 0) "Replace" 304 (ptr u 0) := fun w => by kernel_rfl
theorem Y4c {p0:Ls}{b:Nat}{x:Array Value}{r:Ls}(h:Y0G p0=some r):CtX Tryz.prog 44 [ptr b 0,S p0] [.blk b (.cells x 140)] (fun M=>RplM M x) (fun v M its =>∃x',v=S r/\RplM M x'/\its=[.blk b (.cells x' 140)]):=by
 refine q0W Tryz.func44 (enters Tryz.func44 Kr G) G G G ?_;intro O M0 H hp;refine SQ (RG (AS G G (NL (TN (SQ (RG (MV G G (FN G G Tu140 G Tryz.sizeOf136 G G (MV G G (ST (Ex.makeFuncF (vs:=[ptr b 0]) G) G (q0q (A:=[.blk b (.cells x 140)]) (B:=[]) H (onceDo_ct (b:=b) (x:=x)) (.left (q0r _)) G hp (q00 G) G ?_)))))))))));intro K M w its H u hR;obtain⟨rfl,J,E,rfl⟩:=hR;simp only[l02,l03] at H;refine NL (TN (SQ (RG (MV G G (FN G G Tu140 G Ts138 G G (ST (Ex.load1 H G (List.Mem.head _) Tryz.isAgg138 Kf) G ?_))))));refine MV G G (WR.callI H (replT_ct h) (methR J) G G E (q00 G) G ?_);intro N M w H u hR;obtain rfl:=hR;refine AS G G (NL (TN (RT ?_)));exact q0T (its:=[.blk b (.cells #[Value.int .u32 1,Value.int .i32 0,Value.int .u32 0,Value.iface 227 (ptr J 0),Value.slice none 0 0] 140)]) G G H Kp ⟨_,G, .inr ⟨J,G,E.mono u⟩,G⟩
theorem xplacesR :∀{fs:Array Field},Tryz.prog.underlying 140=some (.struct fs)->∀w,(fs.mapM fun f=>do pure (f.offset,<-sizeOf f.type):Sem (Array (Nat × Nat))).run Tryz.prog w = .ok #[(0,3),(3,1),(4,1)] w:=by
 intro fs h w;rw[Tu140] at h;cases h;simp
theorem Y4U {p0:List Ls}{u:Value}{r:Unit}(h:Y2B p0=some r):CtX Tryz.prog 42 [u] [] (fun M=>Sl M encS u p0) (fun v M its =>∃b x,v=ptr b 0/\RplM M x/\its=[.blk b (.cells x 140)]):=by
 unfold Y2B at h;split at h
 case isFalse=>cases h
 rename_i hl;subst hl;refine q0W Tryz.func42 (enters Tryz.func42 Kr G) G G G ?_;intro V M0 H E;refine SQ (RG (AS G G (NL (TN (SQ (SQ (RG (MV G G (ST (q0o Tu77 E G) G (ST (Ex.remC (a:=4) (b:=2) (z:=0) G G G) G (WR.stepF (q0u G G) Dc (q00 G) G G (NL (TN (CF G (SK (TN (SQ (RG (MV G G ?_)))))))))))))))))));replace H:=H.newRow 9 encS;refine q0H (l:=[]) xty77 G (fun _=>G) H G (fun _=>by repeat first|exact .head|apply Upd.tail) G E (l3:=[[0],[32],[13],[32]]) G (q00 G) G ?_;intro O w H;obtain⟨M,U,hs,H1⟩:=H.freezeRowN (v:=O) (enc:=encS) (t:=9) Kv trivial;have N:=hs;obtain⟨A9,K,rfl,-⟩:=N;refine ST (q0v [Value.int .u32 0,Value.int .i32 0,Value.int .u32 0,Value.nilIface, .slice A9 4 K] Tu140 Tryz.zeroValue140 (xplacesR Tu140) G Kr) G (q0F [Value.int .u32 0,Value.int .i32 0,Value.int .u32 0,Value.nilIface, .slice A9 4 K] H1 G G (q00 G) G ?_);intro J w H2;refine AS G G (NL (TN (RT ?_)));exact q0T (its:=[.blk J (.cells #[Value.int .u32 0,Value.int .i32 0,Value.int .u32 0,Value.nilIface, .slice A9 4 K] 140)]) G G H2 Kp ⟨J,_,G, .inl ⟨_,G,hs⟩,G⟩
theorem xplacesT :∀{fs:Array Field},Tryz.prog.underlying 230=some (.struct fs)->∀w,(fs.mapM fun f=>do pure (f.offset,<-sizeOf f.type):Sem (Array (Nat × Nat))).run Tryz.prog w = .ok #[(0,256),(256,1)] w:=by
 intro fs h w;rw[Tu230] at h;cases h;simp
theorem tab0 {M:Mem}:∀(i:Nat) (o:Option Ls),(tabk 0)[i]? = some o->∃v,(List.replicate 256 (Value.slice none 0 0))[i]? = some v/\SlO M v o:=by
 intro i o h;have u:tabk 0=List.replicate 256 none:=by decide +kernel
 rw[u] at h;have hi:i<256:=by have:=(List.getElem?_eq_some_iff.1 h).1;simpa using this
 rw[List.getElem?_replicate,if_pos hi] at h;cases h;exact⟨_,by rw[List.getElem?_replicate,if_pos hi], .inl ⟨G,G⟩⟩
theorem tab_step {M:Mem}{cs:List Value}{O k:Nat}{u:Value}{nn:Ls}(hcl:cs.length=256)(htb :∀(i:Nat) (o:Option Ls),(tabk k)[i]? = some o->∃v,cs[i]? = some v/\SlO M v o)(hO:O<256)(ht:tabk (k+1)=(tabk k).set O (some nn))(hs:SlO M u (some nn)):
 ∀(i:Nat) (o:Option Ls),(tabk (k+1))[i]? = some o->∃v,(cs.set O u)[i]? = some v/\SlO M v o:=by
 intro i o h;rw[ht,List.getElem?_set] at h;split at h
 . rename_i he;subst he;split at h
   . cases h;exact⟨u,by rw[List.getElem?_set_self Om],hs⟩
   cases h
 rename_i he;obtain⟨v,hv,hs'⟩:=htb i o h;exact⟨v,by rw[List.getElem?_set_ne he];exact hv,hs'⟩
theorem Y4d {p0:List Ls}{O:Nat}{K:Value}{r:((List (Option Ls) × List Ls) × List Ls)}(h:Y2o p0=some r):CtX Tryz.prog 117 [ptr O 0] [.blk O (.cells #[Value.int .u32 0,Value.int .i32 1,Value.int .u32 0,Value.nilIface,K] 140)] (fun M=>Sl M encS K p0) (fun v M its =>∃b0_,v=(Value.iface 231 (ptr b0_ 0))/\TabO M b0_ 230 r.1.1 r.1.2/\its=[.blk O (.cells #[Value.int .u32 0,Value.int .i32 1,Value.int .u32 0,Value.nilIface,K] 140)]):=by
 refine q0W Tryz.func117 (enters Tryz.func117 Kr G) G G G ?_;intro w0 M0 H hp;have u:=hp;unfold Y2o at h;refine SQ (RG (AS G G (NL (TN (SQ (RG (MV G G (FN G G Tu140 G Ts77 G G (ST (XL H Ta77) G ?_)))))))));refine AS G G (NL (TN (SQ (SQ ?_))));obtain⟨o1,e2,h⟩:=bnd h;refine q0c (fun e w =>∃(b3:Bool) (M:Mem),e=[(3,K),(28,Value.bool b3)]/\StX (feet [.blk O (.cells #[Value.int .u32 0,Value.int .i32 1,Value.int .u32 0,Value.nilIface,K] 140)]) w0 M0 M [.blk O (.cells #[Value.int .u32 0,Value.int .i32 1,Value.int .u32 0,Value.nilIface,K] 140)] w/\Sl M encS K p0/\some b3=some o1) [] ?_ ?_ (trivial)
 .
  refine RG (MV G G (ST (q0o Tu77 u G) G ?_));by_cases a9:(p0.length:Int)=(2:Int)
  .
   rw[if_pos a9] at e2;obtain⟨a5,ax,e2⟩:=bnd e2;obtain⟨bd,bi,ay,az⟩:=u.atC ax;refine DT a9 (q0u G G) G (MV G G (SG (q06 G) G G G (SG (q0s ay Tu77 Ts9 G G) G G G (SG (q0n H G az Ta9) G G G (SG (q0g Tu9 G) G G G (SG (q0C G G) G G G (PT G G G (NL ?_))))))));exact MN ⟨_,_,G,H,u,e2⟩
  rw[if_neg a9] at e2;refine DF a9 (q0u G G) G (MV G G (q0i 5 G G (PF G G G (NL ?_))));exact MN ⟨_,_,G,H,u,e2⟩
 rintro e w ⟨b3,M,rfl,H,u,q6⟩;obtain rfl:=oI q6;refine TN ?_;refine q0a G (fun ae=>?_) (fun ae=>?_)
 .
  subst ae;rw[if_pos rfl] at h;cases h
 subst ae;rw[if_neg l00] at h;refine SK (TN (SQ (RG (AS G G (NL (TN (SQ (SQ (RG (AS G G (NL (TN ?_))))))))))));obtain⟨ar,J,h⟩:=bnd h;refine q0c (fun e w =>∃(ah:Bool) (M:Mem),e=[(3,K),(4,Value.bool ah)]/\StX (feet [.blk O (.cells #[Value.int .u32 0,Value.int .i32 1,Value.int .u32 0,Value.nilIface,K] 140)]) w0 M0 M [.blk O (.cells #[Value.int .u32 0,Value.int .i32 1,Value.int .u32 0,Value.nilIface,K] 140)] w/\Sl M encS K p0/\some (.inl ah)=some ar) [] ?_ ?_ (trivial)
 .
  refine BL (q0l (fun m e w =>∃(ai:Bool) (aa:Int) (M:Mem),e=[(3,K),(4,Value.bool ai),(5,I aa)]/\StX (feet [.blk O (.cells #[Value.int .u32 0,Value.int .i32 1,Value.int .u32 0,Value.nilIface,K] 140)]) w0 M0 M [.blk O (.cells #[Value.int .u32 0,Value.int .i32 1,Value.int .u32 0,Value.nilIface,K] 140)] w/\Sl M encS K p0/\Y0s p0 m ai aa=some ar) FU [(3,_),(4,_),(5,_)] ⟨rfl,rfl,rfl,trivial⟩ ⟨_,_,_,rfl,H,u,J⟩ ?_);rintro ab e w ⟨ai,aa,M,rfl,H,u,J⟩;rcases ab with _|ab
  . rw[Y0s] at J;cases J
  rw[Y0s] at J;refine SQ (SQ (RG (MV G G (MV G G (ST (q0o Tu77 u G) G (ST (q0m G G) G (NL (TN ?_))))))));refine CB (p:=aa<(p0.length:Int)) G (fun a7=>?_) fun a7=>?_
  .
   rw[if_pos a7] at J;refine SK (TN (SQ (BL (SQ (SQ ?_)))));obtain⟨au,am,J⟩:=bnd J;obtain⟨bg,bj,b0,b1⟩:=u.atC am;refine RG (MV G G (MV G G (ST (q0s b0 Tu77 Ts9 G G) G (ST (q0n H G b1 Ta9) G (ST (q0g Tu9 G) G (ST (q1j G G) G (NL (TN ?_))))))));refine q0a G (fun U=>?_) (fun U=>?_)
   .
    replace U :¬((au.length:Int)=(1:Int)):=of_not_decide U;rw[if_neg U] at J;cases J
   replace U:(au.length:Int)=(1:Int):=of_not_decide' U;rw[if_pos U] at J;refine SK (TN (SQ ?_));obtain⟨bm,an,J⟩:=bnd J;obtain⟨av,ao,J⟩:=bnd J;obtain⟨bh,bn,b2,b4⟩:=u.atC ao;refine RG (MV G G (MV G G (ST (q0e G G an) G (ST (q0s b2 Tu77 Ts9 G G) G (ST (q0n H G b4 Ta9) G (ST (q0g Tu9 G) G (ST (q1j G G) G (NL (TN ?_)))))))));refine q0a G (fun V=>?_) (fun V=>?_)
   .
    replace V :¬((av.length:Int)=(1:Int)):=of_not_decide V;rw[if_neg V] at J;refine RG (AS G G (NL (IB (TN ?_))));obtain⟨bo,ap,J⟩:=bnd J;refine RG (MV G G (ST (q0e G G ap) G (AS G G (NL ?_))));exact AG ab ⟨_,_,_,G,H,u,J⟩ (l06 _)
   replace V:(av.length:Int)=(1:Int):=of_not_decide' V;rw[if_pos V] at J;refine SK (IB (TN ?_));obtain⟨bp,aq,J⟩:=bnd J;refine RG (MV G G (ST (q0e G G aq) G (AS G G (NL ?_))));exact AG ab ⟨_,_,_,G,H,u,J⟩ (l06 _)
  rw[if_neg a7] at J;refine q0j (q03 (q03 (q0b ?_)));exact MN ⟨_,_,G,H,u,J⟩
 rintro e w ⟨ah,M,rfl,H,u,bb⟩;obtain rfl:=oI bb;try dsimp only at h
 refine TN (SQ (SQ (RG (MV G G (NL (TN ?_))))));refine q0a G (fun a8=>?_) (fun a8=>?_)
 .
  subst a8;rw[if_pos rfl] at h;cases h
 subst a8;rw[if_neg l00] at h;split at h
 case isFalse=>cases h
 rename_i hlit;subst hlit;cases h;refine SK (TN (SQ (RG (MV G G (ST (q0o Tu77 u G) G (ST (Ex.quoC (a:=4) (b:=2) (z:=2) G G G) G (WR.mkC (enc:=encS) (z0:=([]:Ls)) (a:=0) (c:=2) (l:=[]) xty77 G H G G G (q00 G) G ?_)))))));intro aj w H0;obtain⟨A94,bq,ak⟩:=H0.lenRow Km;refine ST (q0v (List.replicate 256 (Value.slice none 0 0)++[aj]) Tu230 Tryz.zeroValue230 (xplacesT Tu230) G (by subst ak;kernel_rfl)) G ?_;refine q09 (List.replicate 256 (Value.slice none 0 0)++[Value.slice none 0 0]) H0 Tryz.zeroValue230 Kr (q00 G) G ?_;intro Y w H;refine q04 (List.replicate 256 (Value.slice none 0 0)++[aj]) H G G G Ku Tryz.sizeOf230 G Kf (by subst ak;rfl) (q00 G) ?_;intro w H;refine NL (TN (SQ (SQ (RG (MV G G (ST (q0o Tu77 u G) G (ST (q0K (a:=4) (b:=2) (z:=2) G G G) G (AS G G (NL (TN ?_))))))))));refine q0c (fun e w =>∃(cs:List Value) (vr:Value) (M:Mem),e=[(11,ptr Y 0)]/\StX (feet [.blk O (.cells #[Value.int .u32 0,Value.int .i32 1,Value.int .u32 0,Value.nilIface,K] 140)]) w0 M0 M [.blk Y (.cells (cs++[vr]).toArray 230),RowI 9 encS vr (trk 2), .blk O (.cells #[Value.int .u32 0,Value.int .i32 1,Value.int .u32 0,Value.nilIface,K] 140)] w/\cs.length=256/\(∀(i:Nat) (o:Option Ls),(tabk 2)[i]? = some o->∃v,cs[i]? = some v/\SlO M v o)) [] ?_ ?_ (trivial)
 .
  refine BL (q0l (fun m e w =>∃(k:Nat) (cs:List Value) (vr:Value) (M:Mem),e=[(3,K),(11,ptr Y 0),(12,I (2-2*(k:Int)))]/\k<=2/\2-k<m/\StX (feet [.blk O (.cells #[Value.int .u32 0,Value.int .i32 1,Value.int .u32 0,Value.nilIface,K] 140)]) w0 M0 M [.blk Y (.cells (cs++[vr]).toArray 230),RowI 9 encS vr (trk k), .blk O (.cells #[Value.int .u32 0,Value.int .i32 1,Value.int .u32 0,Value.nilIface,K] 140)] w/\Sl M encS K [[92],[92,92],[34],[92,34]]/\cs.length=256/\(∀(i:Nat) (o:Option Ls),(tabk k)[i]? = some o->∃v,cs[i]? = some v/\SlO M v o)) FU [(3,_),(11,_),(12,_)] ⟨rfl,rfl,rfl,trivial⟩ ⟨0,List.replicate 256 (Value.slice none 0 0),aj,_,rfl,by omega,by unfold FU;omega,H,u,by rw[l2b],tab0⟩ ?_);rintro m e w ⟨k,cs,vr,M,rfl,hk,hm,H,u,hcl,htb⟩;obtain⟨m,rfl⟩ :∃q,m=q+1:=⟨m-1,by omega⟩
  obtain rfl|rfl|rfl:k=0∨k=1∨k=2:=by omega
  . refine WC.seq ?_;refine SQ (RG (MV G G (WR.stepT (q0R G G) Dc (q00 G) G G (NL (TN (CT G (SK (TN (SQ (BL (SQ ?_)))))))))));obtain⟨b5,b6,Z,a0⟩:=u.atC (i:=2) (a:=[34]) rfl;refine RG (MV G G (MV G G (ST (q0s Z Tu77 Ts9 G G) G (ST (q0n H G a0 Ta9) G (ST (q0p (i:=0) (c:=34) Tu9 G G G) G (AS G G (NL (TN (SQ ?_)))))))));obtain⟨b7,b8,a1,a2⟩:=u.atC (i:=3) (a:=[92,34]) rfl;refine RG (MV G G (MV G G (ST (q0e (z:=3) G G G) G (ST (q0s a1 Tu77 Ts9 G G) G (ST (q0n H G a2 Ta9) G (AS G G (NL (TN (SQ (SQ ?_))))))))));have hnil:cs[34]? = some (Value.slice none 0 0):=by
     obtain⟨v,hv,hs⟩:=htb 34 none (by decide +kernel);rcases hs with ⟨_,rfl⟩|⟨l,a,c,h,_⟩
     . exact hv
     cases h
    have hcell:(cs++[vr])[34]? = some (Value.slice none 0 0):=by rw[List.getElem?_append_left Om];exact hnil
    refine RG (MV G G (ST (q01 Tu230 G Ts228 Dc G) G (ST (q1n (i:=34) Tu228 Ts23 G G Dc) G (ST (Ex.load1 H G Km Ta23 hcell) G ?_))));refine ST (q1b Tu23 G) G (NL (TN (CT G (RG (ST (q01 Tu230 G Ts77 Dc G) G ?_)))));have hlast:(cs++[vr])[256]? = some vr:=by rw[List.getElem?_append_right Om,hcl];rfl
    refine ST (Ex.load1 H G Km Ta77 hlast) G ?_;refine MV G G (q0O (enc:=encB) xty23 ([34]:Ls) H G Kf (fun _=>G) G G (q00 G) G ?_);intro b9 M w H N a3;replace u:=u.mono N;replace htb :∀(i:Nat) (o:Option Ls),(tabk 0)[i]? = some o->∃v,cs[i]? = some v/\SlO M v o:=fun i o ho=>by obtain⟨v,hv,hs⟩:=htb i o ho;exact ⟨v,hv,hs.mono N⟩
    refine ST (q0Y Tu23 Tu5 Tu9 H a3 G) G (q0O (enc:=encS) xty77 ([[34]]:List Ls) H G Kf (fun _=>G) G G (q00 G) G ?_);intro ba M w H N a4;replace u:=u.mono N;replace htb :∀(i:Nat) (o:Option Ls),(tabk 0)[i]? = some o->∃v,cs[i]? = some v/\SlO M v o:=fun i o ho=>by obtain⟨v,hv,hs⟩:=htb i o ho;exact ⟨v,hv,hs.mono N⟩
    refine q0H (l:=trk 0) (l3:=trk (0+1)) xty77 G (fun _=>G) H G (fun _=>by repeat first|exact .head|apply Upd.tail) G a4 (by decide +kernel) (q00 G) G ?_;intro E w H;have a6:One E:=H.rowOne Km;refine ST (q01 Tu230 G Ts77 Dc G) G ?_;have hset1:(cs++[vr]).set 256 E=cs++[E]:=by rw[l1c _ _ Om,hcl];rfl
    refine q0Q (cs++[E]) H G G a6 Ku hset1 Ts77 (by rw[l05,hcl];exact (by decide:(256:Nat)<256+1)) (q00 G) ?_;intro w H;refine NL (TN (RG (MV G G (MV G G (WR.toBytesC H Tu9 Tu23 Tu5 G (toB_ok (l:=[92,34]) Dc) (q00 G) G ?_)))));intro gb cap w hok H;refine ST (q01 Tu230 G Ts228 Dc G) G (ST (q1n (i:=34) Tu228 Ts23 G G Dc) G ?_);have hset2:(cs++[E]).set 34 (.slice (some ⟨gb,0,none⟩) 2 cap)=cs.set 34 (.slice (some ⟨gb,0,none⟩) 2 cap)++[E]:=List.set_append_left _ _ Om;refine q0Q (cs.set 34 (.slice (some ⟨gb,0,none⟩) 2 cap)++[E]) H G G (One.slice _ _ _) Ku hset2 Ts23 (by rw[l05,hcl];exact (by decide:(34:Nat)<256+1)) (q00 G) ?_;intro w H;refine NL (IB (TN (RG (MV G G (ST (q0K (z:=2-2*((0+1:Nat):Int)) G G G) G (AS G G (NL ?_)))))));obtain⟨M,N,hs,H⟩:=H.freezeSCN (gb:=gb) (cap:=cap) (t:=5) Kv hok ⟨⟨_,Km⟩,trivial⟩;exact AG m ⟨0+1,cs.set 34 (.slice (some ⟨gb,0,none⟩) 2 cap),E,_,G,by omega,by omega,H.pick (L':=[.blk Y (.cells (cs.set 34 (.slice (some ⟨gb,0,none⟩) 2 cap)++[E]).toArray 230),RowI 9 encS E (trk (0+1)), .blk O (.cells #[Value.int .u32 0,Value.int .i32 1,Value.int .u32 0,Value.nilIface,K] 140)]) Kp,u.mono N,by rw[l0X];exact hcl,tab_step hcl (fun i o ho=>by obtain⟨v,hv,hs⟩:=htb i o ho;exact ⟨v,hv,hs.mono N⟩) Dc (by decide +kernel) (.inr ⟨_,_,_,G,G,hs⟩)⟩ (l06 _)
  . refine WC.seq ?_;refine SQ (RG (MV G G (WR.stepT (q0R G G) Dc (q00 G) G G (NL (TN (CT G (SK (TN (SQ (BL (SQ ?_)))))))))));obtain⟨b5,b6,Z,a0⟩:=u.atC (i:=0) (a:=[92]) rfl;refine RG (MV G G (MV G G (ST (q0s Z Tu77 Ts9 G G) G (ST (q0n H G a0 Ta9) G (ST (q0p (i:=0) (c:=92) Tu9 G G G) G (AS G G (NL (TN (SQ ?_)))))))));obtain⟨b7,b8,a1,a2⟩:=u.atC (i:=1) (a:=[92,92]) rfl;refine RG (MV G G (MV G G (ST (q0e (z:=1) G G G) G (ST (q0s a1 Tu77 Ts9 G G) G (ST (q0n H G a2 Ta9) G (AS G G (NL (TN (SQ (SQ ?_))))))))));have hnil:cs[92]? = some (Value.slice none 0 0):=by
     obtain⟨v,hv,hs⟩:=htb 92 none (by decide +kernel);rcases hs with ⟨_,rfl⟩|⟨l,a,c,h,_⟩
     . exact hv
     cases h
    have hcell:(cs++[vr])[92]? = some (Value.slice none 0 0):=by rw[List.getElem?_append_left Om];exact hnil
    refine RG (MV G G (ST (q01 Tu230 G Ts228 Dc G) G (ST (q1n (i:=92) Tu228 Ts23 G G Dc) G (ST (Ex.load1 H G Km Ta23 hcell) G ?_))));refine ST (q1b Tu23 G) G (NL (TN (CT G (RG (ST (q01 Tu230 G Ts77 Dc G) G ?_)))));have hlast:(cs++[vr])[256]? = some vr:=by rw[List.getElem?_append_right Om,hcl];rfl
    refine ST (Ex.load1 H G Km Ta77 hlast) G ?_;refine MV G G (q0O (enc:=encB) xty23 ([92]:Ls) H G Kf (fun _=>G) G G (q00 G) G ?_);intro b9 M w H N a3;replace u:=u.mono N;replace htb :∀(i:Nat) (o:Option Ls),(tabk 1)[i]? = some o->∃v,cs[i]? = some v/\SlO M v o:=fun i o ho=>by obtain⟨v,hv,hs⟩:=htb i o ho;exact ⟨v,hv,hs.mono N⟩
    refine ST (q0Y Tu23 Tu5 Tu9 H a3 G) G (q0O (enc:=encS) xty77 ([[92]]:List Ls) H G Kf (fun _=>G) G G (q00 G) G ?_);intro ba M w H N a4;replace u:=u.mono N;replace htb :∀(i:Nat) (o:Option Ls),(tabk 1)[i]? = some o->∃v,cs[i]? = some v/\SlO M v o:=fun i o ho=>by obtain⟨v,hv,hs⟩:=htb i o ho;exact ⟨v,hv,hs.mono N⟩
    refine q0H (l:=trk 1) (l3:=trk (1+1)) xty77 G (fun _=>G) H G (fun _=>by repeat first|exact .head|apply Upd.tail) G a4 (by decide +kernel) (q00 G) G ?_;intro E w H;have a6:One E:=H.rowOne Km;refine ST (q01 Tu230 G Ts77 Dc G) G ?_;have hset1:(cs++[vr]).set 256 E=cs++[E]:=by rw[l1c _ _ Om,hcl];rfl
    refine q0Q (cs++[E]) H G G a6 Ku hset1 Ts77 (by rw[l05,hcl];exact (by decide:(256:Nat)<256+1)) (q00 G) ?_;intro w H;refine NL (TN (RG (MV G G (MV G G (WR.toBytesC H Tu9 Tu23 Tu5 G (toB_ok (l:=[92,92]) Dc) (q00 G) G ?_)))));intro gb cap w hok H;refine ST (q01 Tu230 G Ts228 Dc G) G (ST (q1n (i:=92) Tu228 Ts23 G G Dc) G ?_);have hset2:(cs++[E]).set 92 (.slice (some ⟨gb,0,none⟩) 2 cap)=cs.set 92 (.slice (some ⟨gb,0,none⟩) 2 cap)++[E]:=List.set_append_left _ _ Om;refine q0Q (cs.set 92 (.slice (some ⟨gb,0,none⟩) 2 cap)++[E]) H G G (One.slice _ _ _) Ku hset2 Ts23 (by rw[l05,hcl];exact (by decide:(92:Nat)<256+1)) (q00 G) ?_;intro w H;refine NL (IB (TN (RG (MV G G (ST (q0K (z:=2-2*((1+1:Nat):Int)) G G G) G (AS G G (NL ?_)))))));obtain⟨M,N,hs,H⟩:=H.freezeSCN (gb:=gb) (cap:=cap) (t:=5) Kv hok ⟨⟨_,Km⟩,trivial⟩;exact AG m ⟨1+1,cs.set 92 (.slice (some ⟨gb,0,none⟩) 2 cap),E,_,G,by omega,by omega,H.pick (L':=[.blk Y (.cells (cs.set 92 (.slice (some ⟨gb,0,none⟩) 2 cap)++[E]).toArray 230),RowI 9 encS E (trk (1+1)), .blk O (.cells #[Value.int .u32 0,Value.int .i32 1,Value.int .u32 0,Value.nilIface,K] 140)]) Kp,u.mono N,by rw[l0X];exact hcl,tab_step hcl (fun i o ho=>by obtain⟨v,hv,hs⟩:=htb i o ho;exact ⟨v,hv,hs.mono N⟩) Dc (by decide +kernel) (.inr ⟨_,_,_,G,G,hs⟩)⟩ (l06 _)
  refine WC.seq ?_;refine SQ (RG (MV G G (WR.stepF (q0R G G) Dc (q00 G) G G (NL (TN (CF G (q0j (q03 (q03 (q0b ?_))))))))));exact MN ⟨cs,vr,_,G,H,hcl,htb⟩
 rintro e w ⟨cs,vr,M,rfl,H,hcl,htb⟩;refine TN (SQ (RG (ST (Ex.makeIface Tryz.underlying231 G) G (AS G G (NL (TN (RT ?_)))))));obtain⟨M,N,hb,H⟩:=H.freezeVarN (b:=Y) Kv ⟨⟨_,Km⟩,trivial⟩;obtain⟨M,al,hs,H⟩:=H.freezeRowN (v:=vr) (enc:=encS) (t:=9) Kv ⟨⟨_,Km⟩,trivial⟩;exact q0T (its:=[.blk O (.cells #[Value.int .u32 0,Value.int .i32 1,Value.int .u32 0,Value.nilIface,K] 140)]) G G H Kp ⟨_,G,⟨cs,vr,hb.mono al,hcl,fun i o ho=>by obtain⟨v,hv,hs⟩:=htb i o ho;exact ⟨v,hv,(hs.mono N).mono al⟩,hs⟩,G⟩
theorem Y37 {p0:(List (Option Ls) × List Ls)}{U:Ls}{N:Nat}{r:Ls}(h:Y0B p0 U=some r):Ct Tryz.prog 306 [ptr N 0,S U] (fun M=>TabO M N 230 p0.1 p0.2) (fun v M=>v=S r):=by
 refine Ct.of Tryz.func306 (enters Tryz.func306 Kr G) G G G ?_;intro w0 M0 H hp;have E:=hp;unfold Y0B at h;refine SQ (RG (AS G G (NL (TN (SQ (RG (MV G G (ST (q0g Tu9 G) G (AS G G (NL (TN (SQ (RG (AS G G (NL (TN (SQ (SQ ?_))))))))))))))))));obtain⟨cw,bx,bz⟩:=E.tl;obtain⟨n1,c0,h⟩:=bnd h;refine RG (MV G G (FN G G Tu230 G Ts77 G G (ST (q0n H G bx Ta77) G (ST (q0o Tu77 bz G) G (ST (Ex.mulC G G c0) G (MV G G (ST (q0g Tu9 G) G (ST (q1q G G) G (NL (TN ?_))))))))));obtain⟨o2,e3,h⟩:=bnd h;refine q0c (fun e w =>∃(n4:Int) (b5:Bool) (M:Mem),e=[(0,ptr N 0),(1,S U),(5,I n4),(6,Value.bool b5)]/\St w0 M0 M [] w/\TabO M N 230 p0.1 p0.2/\some (n4,b5)=some o2) [] ?_ ?_ (trivial)
 .
  refine CB (p:=n1<=(U.length:Int)) G (fun ar=>?_) fun ar=>?_
  .
   rw[if_pos ar] at e3;refine SQ ?_;obtain⟨bt,c2,O⟩:=E.tl;refine RG (MV G G (FN G G Tu230 G Ts77 G G (ST (q0n H G c2 Ta77) G (ST (q0o Tu77 O G) G (MV G G (NL (TN ?_)))))));obtain⟨o7,K,e3⟩:=bnd e3;refine q0c (fun e w =>∃(n9:Int) (au:Bool) (M:Mem),e=[(0,ptr N 0),(1,S U),(5,I n9),(6,Value.bool au)]/\St w0 M0 M [] w/\TabO M N 230 p0.1 p0.2/\some (n9,au)=some o7) [] ?_ ?_ (trivial)
   .
    refine BL (q0l (fun m e w =>∃(av:Int) (aw:Bool) (aa:Int) (M:Mem),e=[(0,ptr N 0),(1,S U),(5,I av),(6,Value.bool aw),(30,bt),(31,I (p0.2.length:Int)),(32,I aa)]/\St w0 M0 M [] w/\TabO M N 230 p0.1 p0.2/\Sl M encS bt p0.2/\Y00 p0 U m av aw aa=some o7) FU [(0,_),(1,_),(5,_),(6,_),(30,_),(31,_),(32,_)] ⟨rfl,rfl,rfl,rfl,rfl,rfl,rfl,trivial⟩ ⟨_,_,_,_,rfl,H,E,O,K⟩ ?_);rintro ab e w ⟨av,aw,aa,M,rfl,H,E,O,K⟩;rcases ab with _|ab
    . rw[Y00] at K;cases K
    rw[Y00] at K;refine SQ (RG (ST (q0m G G) G (NL (TN (SQ ?_)))));refine CB (p:=aa<(p0.2.length:Int)) G (fun a5=>?_) fun a5=>?_
    .
     rw[if_pos a5] at K;refine SK (TN (SQ (BL (SQ ?_))));obtain⟨cx,b6,K⟩:=bnd K;obtain⟨ct,cy,c4,c5⟩:=O.atC b6;refine RG (ST (q0s c4 Tu77 Ts9 G G) G (ST (q0n H G c5 Ta9) G (AS G G (NL (TN (SQ ?_))))));obtain⟨bu,c6,K⟩:=bnd K;refine RG (MV G G (MV G G (q02 H (Y5V c6) G trivial (q00 G) G ?_)));intro cz M w H ax hR;replace O:=O.mono ax;replace E:=E.mono ax;obtain rfl:=hR;refine AS G G (NL (TN (SQ (RG (MV G G (ST (q1j G G) G (NL (TN ?_))))))));refine q0a G (fun V=>?_) (fun V=>?_)
     .
      replace V :¬(bu=(0:Int)):=of_not_decide V;rw[if_neg V] at K;refine SQ ?_;obtain⟨d0,b7,K⟩:=bnd K;obtain⟨d1,ac,K⟩:=bnd K;obtain⟨d2,c7,c8⟩:=E.at ac;obtain⟨d3,b8,K⟩:=bnd K;obtain⟨d4,b9,K⟩:=bnd K;obtain⟨d5,ba,K⟩:=bnd K;refine q0x (m:=14) G G H ?_;intro w H;refine TK 0 G (fun _=>q06 G) G (TK 1 G (fun _=>q06 G) G (TK 2 G (fun _=>q06 G) G (TK 3 G (fun _=>q06 G) G (TK 4 G (fun _=>q0p Tu9 G G b7) G (q0k (fuel:=0) [5,6,7,8,9,10,11,12,13] G Kr (FN G G Tu230 G Ts228 G G (ST (Ex.idxArrO Tu228 Ts23 G G ac) G ?_)))))));refine ST (q0n H G c7 Ta23) G (ST (q0o Tu23 c8.sl G) G (ST (q0K G G b8) G (ST (Ex.mulC G G b9) G (ST (q0e G G ba) G (AS G G (NA (q0f Kr (TN (RG (AS G G (NL (IB (TN ?_)))))))))))));obtain⟨d6,bb,K⟩:=bnd K;refine RG (ST (q0e G G bb) G (MV G G (NL ?_)));exact AG ab ⟨_,_,_,_,G,H,E,O,K⟩ (l06 _)
     replace V:bu=(0:Int):=of_not_decide' V;rw[if_pos V] at K;refine SK (IB (TN ?_));obtain⟨d7,bc,K⟩:=bnd K;refine RG (ST (q0e G G bc) G (MV G G (NL ?_)));exact AG ab ⟨_,_,_,_,G,H,E,O,K⟩ (l06 _)
    rw[if_neg a5] at K;refine q0j (q03 (q03 (q0b ?_)));exact MN ⟨_,_,_,G,H,E,K⟩
   rintro e w ⟨n9,au,M,rfl,H,E,ci⟩;obtain rfl:=oI ci;try dsimp only at e3
   exact MN ⟨_,_,_,G,H,E,e3⟩
  rw[if_neg ar] at e3;refine SQ (RG (AS G G (NL (TN ?_))));obtain⟨bv,J,e3⟩:=bnd e3;refine q0c (fun e w =>∃(ay:Int) (az:Bool) (M:Mem),e=[(0,ptr N 0),(1,S U),(5,I ay),(6,Value.bool az)]/\St w0 M0 M [] w/\TabO M N 230 p0.1 p0.2/\some (ay,az)=some bv) [] ?_ ?_ (trivial)
  .
   refine BL (q0l (fun m e w =>∃(b0:Int) (b1:Bool) (ad:Int) (M:Mem),e=[(0,ptr N 0),(1,S U),(5,I b0),(6,Value.bool b1),(10,I ad)]/\St w0 M0 M [] w/\TabO M N 230 p0.1 p0.2/\Y04 p0 U m b0 b1 ad=some bv) FU [(0,_),(1,_),(5,_),(6,_),(10,_)] ⟨rfl,rfl,rfl,rfl,rfl,trivial⟩ ⟨_,_,_,_,rfl,H,E,J⟩ ?_);rintro ae e w ⟨b0,b1,ad,M,rfl,H,E,J⟩;rcases ae with _|ae
   . rw[Y04] at J;cases J
   rw[Y04] at J;refine SQ (SQ (RG (MV G G (MV G G (ST (q0g Tu9 G) G (ST (q0m G G) G (NL (TN ?_))))))));refine CB (p:=ad<(U.length:Int)) G (fun a6=>?_) fun a6=>?_
   .
    rw[if_pos a6] at J;refine SK (TN (SQ (BL (SQ ?_))));obtain⟨d8,bd,J⟩:=bnd J;refine RG (MV G G (MV G G (ST (q0p Tu9 G G bd) G (AS G G (NL (TN (SQ ?_)))))));obtain⟨d9,ah,J⟩:=bnd J;obtain⟨da,c9,ca⟩:=E.at ah;refine RG (MV G G (MV G G (FN G G Tu230 G Ts228 G G (ST (Ex.idxArrO Tu228 Ts23 G G ah) G (ST (q0n H G c9 Ta23) G (ST (Ex.neqNilO Tu23 ca G) G (NL (TN ?_))))))));refine q0a G (fun a7=>?_) (fun a7=>?_)
    .
     rw[if_pos a7] at J;refine SQ ?_;obtain⟨db,ai,J⟩:=bnd J;obtain⟨dc,cb,cc⟩:=E.at ai;obtain⟨dd,be,J⟩:=bnd J;obtain⟨de,bg,J⟩:=bnd J;refine RG (MV G G (MV G G (MV G G (FN G G Tu230 G Ts228 G G (ST (Ex.idxArrO Tu228 Ts23 G G ai) G (ST (q0n H G cb Ta23) G (ST (q0o Tu23 cc.sl G) G (ST (q0K G G be) G (ST (q0e G G bg) G (AS G G (NL (TN (RG (AS G G (NL (IB (TN ?_)))))))))))))))));obtain⟨df,bh,J⟩:=bnd J;refine RG (MV G G (ST (q0e G G bh) G (AS G G (NL ?_))));exact AG ae ⟨_,_,_,_,G,H,E,J⟩ (l06 _)
    rw[if_neg (by rw[a7];exact l00)] at J;refine SK (IB (TN ?_));obtain⟨dh,bi,J⟩:=bnd J;refine RG (MV G G (ST (q0e G G bi) G (AS G G (NL ?_))));exact AG ae ⟨_,_,_,_,G,H,E,J⟩ (l06 _)
   rw[if_neg a6] at J;refine q0j (q03 (q03 (q0b ?_)));exact MN ⟨_,_,_,G,H,E,J⟩
  rintro e w ⟨ay,az,M,rfl,H,E,cj⟩;obtain rfl:=oI cj;try dsimp only at e3
  exact MN ⟨_,_,_,G,H,E,e3⟩
 rintro e w ⟨n4,b5,M,rfl,H,E,ck⟩;obtain rfl:=oI ck;try dsimp only at h
 refine TN (SQ (SQ (RG (MV G G (ST (q0y G) G (NL (TN ?_)))))));refine q0a G (fun Y=>?_) (fun Y=>?_)
 .
  replace Y:b5=false:=by simpa using Y
  subst Y;rw[if_neg l00] at h;refine SQ (RG (MV G G (AS G G (NL (TN (RT ?_))))));obtain rfl:=oI h;exact q07 G G H.ext G
 replace Y:b5=true:=by simpa using Y
 subst Y;rw[if_pos rfl] at h;refine SK (TN (SQ ?_));obtain⟨di,bj,h⟩:=bnd h;refine RG (MV G G (WR.mkC (enc:=encB) (z0:=(0:UInt8)) xty23 G H G G bj (q00 G) G ?_));intro a0 w H;refine AS G G (NL (TN (SQ (RG (AS G G (NL (TN (SQ (SQ (RG (AS G G (NL (TN ?_)))))))))))));obtain⟨bw,u,h⟩:=bnd h;refine q0c (fun e w =>∃(b2:Ls) (M:Mem),e=[(12,a0)]/\St w0 M0 M [RowI 5 encB a0 b2] w/\some b2=some bw) [] ?_ ?_ (trivial)
 .
  refine BL (q0l (fun m e w =>∃(Z:Ls) (b3:Int) (a4:Int) (M:Mem),e=[(0,ptr N 0),(1,S U),(12,a0),(13,I b3),(14,I a4)]/\St w0 M0 M [RowI 5 encB a0 Z] w/\TabO M N 230 p0.1 p0.2/\Y05 p0 U m Z b3 a4=some bw) FU [(0,_),(1,_),(12,_),(13,_),(14,_)] ⟨rfl,rfl,rfl,rfl,rfl,trivial⟩ ⟨_,_,_,_,rfl,H,E,u⟩ ?_);rintro aj e w ⟨Z,b3,a4,M,rfl,H,E,u⟩;rcases aj with _|aj
  . rw[Y05] at u;cases u
  rw[Y05] at u;refine SQ (SQ (RG (MV G G (MV G G (ST (q0g Tu9 G) G (ST (q0m G G) G (NL (TN ?_))))))));refine CB (p:=a4<(U.length:Int)) G (fun a8=>?_) fun a8=>?_
  .
   rw[if_pos a8] at u;refine SK (TN (SQ (BL (SQ ?_))));obtain⟨cm,bm,u⟩:=bnd u;refine RG (MV G G (MV G G (ST (q0p Tu9 G G bm) G (AS G G (NL (TN (SQ ?_)))))));obtain⟨dj,ak,u⟩:=bnd u;obtain⟨dk,cd,ce⟩:=E.at ak;refine RG (MV G G (MV G G (FN G G Tu230 G Ts228 G G (ST (Ex.idxArrO Tu228 Ts23 G G ak) G (ST (q0n H G cd Ta23) G (ST (Ex.neqNilO Tu23 ce G) G (NL (TN ?_))))))));refine q0a G (fun a9=>?_) (fun a9=>?_)
   .
    rw[if_pos a9] at u;obtain⟨dl,al,u⟩:=bnd u;obtain⟨dm,am,u⟩:=bnd u;obtain⟨cu,an,ao⟩:=E.at am;obtain⟨⟨cn,dn⟩,b4,u⟩:=bnd u;try dsimp only at u
    obtain⟨co,ap,u⟩:=bnd u;refine q0V (fun e w =>∃  (M:Mem),e=[(0,ptr N 0),(1,S U),(12,a0),(13,I co),(14,I a4)]/\St w0 M0 M [RowI 5 encB a0 cn] w/\TabO M N 230 p0.1 p0.2) ?_ ?_
    .
     refine q0x (m:=13) G G H ?_;intro w H;refine TK 0 G (fun _=>q06 G) G (TK 1 G (fun _=>q06 G) G (TK 2 G (fun _=>q06 G) G (TK 4 G (fun _=>q06 G) G (TK 5 G (fun _=>q06 G) G (TK 6 G (fun _=>q0S G) G (TK 7 G (fun _=>q01 Tu230 G Ts228 Dc G) G ?_))))));refine TK 8 G (fun _=>Ex.idxArrO Tu228 Ts23 G G am) G ?_;refine q0E (i:=3) (j:=9) Kr G G ?_ ?_
     .
      refine WR.rowFrom (l:=Z) Tu23 Ts5 H Km al G G (q00 G) G ?_;intro cf a2;refine NA (q0k (fuel:=0) [9,10,11,12] G Kr (ST (q0n H G an Ta23) G (WR.copyC (l:=Z) Tu23 xone1_5 (fun _=>G) H (fun _=>by repeat first|exact .head|apply Upd.tail) a2 (ao.sl) b4 G G (q00 G) G ?_)));intro w H;refine ST (q0e G G ap) G (AS G G (NA (q0f Kr ?_)));exact MP ⟨_,G,H,E⟩
     refine ST (q0n H G an Ta23) G (NA (q0k (fuel:=0) [3,10,11,12] G Kr (WR.rowFrom (l:=Z) Tu23 Ts5 H Km al G G (q00 G) G ?_)));intro cf a2;refine WR.copyC (l:=Z) Tu23 xone1_5 (fun _=>G) H (fun _=>by repeat first|exact .head|apply Upd.tail) a2 (ao.sl) b4 G G (q00 G) G ?_;intro w H;refine ST (q0e G G ap) G (AS G G (NA (q0f Kr ?_)));exact MP ⟨_,G,H,E⟩
    rintro e w ⟨M,rfl,H,E⟩;refine IB (TN ?_);obtain⟨dp,bn,u⟩:=bnd u;refine RG (MV G G (ST (q0e G G bn) G (AS G G (NL ?_))));exact AG aj ⟨_,_,_,_,G,H,E,u⟩ (l06 _)
   rw[if_neg (by rw[a9];exact l00)] at u;refine SQ ?_;obtain⟨dq,bo,u⟩:=bnd u;obtain⟨ds,bp,u⟩:=bnd u;refine RG (MV G G (MV G G (MV G G (WR.idxRowC (l:=Z) H Tu23 Ts5 Km G G bo (q00 G) G ?_))));intro cv bq;refine WR.storeRowC (a:=cm) H G G ⟨G,G⟩ bq (fun _=>by repeat first|exact .head|apply Upd.tail) bp Ts5 (q00 G) ?_;intro w H;refine NL (TN ?_);obtain⟨dt,br,u⟩:=bnd u;refine RG (MV G G (ST (q0e G G br) G (AS G G (NL (IB (TN ?_))))));obtain⟨du,bs,u⟩:=bnd u;refine RG (MV G G (ST (q0e G G bs) G (AS G G (NL ?_))));exact AG aj ⟨_,_,_,_,G,H,E,u⟩ (l06 _)
  rw[if_neg a8] at u;refine q0j (q03 (q03 (q0b ?_)));exact MN ⟨_,_,G,H,u⟩
 rintro e w ⟨b2,M,rfl,H,cp⟩;obtain rfl:=oI cp;refine TN (SQ (RG (MV G G ?_)));obtain⟨M,ax,cg,H⟩:=H.freezeRow (v:=a0) (enc:=encB) (t:=5) Kv;refine ST (q0Y Tu23 Tu5 Tu9 H (cg) G) G (AS G G (NL (TN (RT ?_))));obtain rfl:=oI h;exact q07 G G H.ext G
def RplT_q (M:Mem)(u:Nat):Prop:=TabO M u 230 (tabk 2) (trk 2)
theorem RplT_q.mono {M M':Mem}{u:Nat}(h:RplT_q M u)(hl:M.le M'):RplT_q M' u:=TabO.mono h hl
theorem rplBuilt_q : Y2o [[92],[92,92],[34],[92,34]]=some ((tabk 2,trk 2),[[92],[92,92],[34],[92,34]]):=by decide +kernel
theorem replT_q_ct {p0 r:Ls}{u:Nat}(h:Y0P p0=some r):Ct Tryz.prog 306 [ptr u 0,S p0] (fun M=>RplT_q M u) (fun v M=>v=S r):=Y37 (p0:=(tabk 2,trk 2)) h
def RplM_q (M:Mem)(x:Array Value):Prop:=(∃v,x = #[Value.int .u32 0,Value.int .i32 0,Value.int .u32 0,Value.nilIface,v]/\Sl M encS v [[92],[92,92],[34],[92,34]])∨∃u,x = #[Value.int .u32 1,Value.int .i32 0,Value.int .u32 0,Value.iface 231 (ptr u 0),Value.slice none 0 0]/\RplT_q M u
theorem RplM_q.mono {M M':Mem}{x:Array Value}(h:RplM_q M x)(hl:M.le M'):RplM_q M' x:=by
 rcases h with ⟨v,u,E⟩|⟨J,u,E⟩
 . exact .inl ⟨v,u,E.mono hl⟩
 exact .inr ⟨J,u,E.mono hl⟩
theorem buildOnce_q_ct {b:Nat}{v:Value}:CtX Tryz.prog 81 [ptr b 0] [.blk b (.cells #[Value.int .u32 0,Value.int .i32 1,Value.int .u32 0,Value.nilIface,v] 140)] (fun M=>Sl M encS v [[92],[92,92],[34],[92,34]]) (fun r M its=>r = .tuple #[]/\∃u,RplT_q M u/\its=[.blk b (.cells #[Value.int .u32 0,Value.int .i32 1,Value.int .u32 0,Value.iface 231 (ptr u 0),Value.slice none 0 0] 140)]):=by
 refine q0W Tryz.func81 (enters Tryz.func81 Kr G) G G G ?_;intro K M0 H hp;refine SQ (RG (MV G G (MV G G (q0q (A:=[.blk b (.cells #[Value.int .u32 0,Value.int .i32 1,Value.int .u32 0,Value.nilIface,v] 140)]) (B:=[]) H (Y4d rplBuilt_q) (.left (q0r _)) G hp (q00 G) G ?_))));intro N M w its H J hR;obtain⟨u,rfl,E,rfl⟩:=hR;simp only[l02,l03] at H;refine FN G G Tu140 G Ts138 G G (q0Q [Value.int .u32 0,Value.int .i32 1,Value.int .u32 0,Value.iface 231 (ptr u 0),v] H G G ⟨G,G⟩ Upd.head G Ts138 (show(3:Nat)<5 from by decide) (q00 G) ?_);intro w H;refine NL (TN (RG (MV G G (FN G G Tu140 G Ts77 G G (q0Q [Value.int .u32 0,Value.int .i32 1,Value.int .u32 0,Value.iface 231 (ptr u 0),Value.slice none 0 0] H G G ⟨G,G⟩ Upd.head G Ts77 (show(4:Nat)<5 from by decide) (q00 G) ?_)))));intro w H;refine NL ?_;exact WQ.endX0 G H Kp ⟨G,u,E,G⟩
theorem onceDo_q_ct {b:Nat}{x:Array Value}:CtX Tryz.prog 80 [ptr b 0, .func (.func 81) #[ptr b 0] #[]] [.blk b (.cells x 140)] (fun M=>RplM_q M x) (fun r M its=>r = .tuple #[]/\∃u,RplT_q M u/\its=[.blk b (.cells #[Value.int .u32 1,Value.int .i32 0,Value.int .u32 0,Value.iface 231 (ptr u 0),Value.slice none 0 0] 140)]):=by
 refine⟨enters Tryz.func80 Kr G,fun w M H hp=>?_⟩;rcases hp with ⟨v,rfl,hs⟩|⟨u,rfl,E⟩
 . have H1:StX (feet [.blk b (.cells #[Value.int .u32 0,Value.int .i32 0,Value.int .u32 0,Value.nilIface,v] 140)]) w M M [.blk b (.cells #[Value.int .u32 0,Value.int .i32 1,Value.int .u32 0,Value.nilIface,v] 140)] (w.setCell ⟨b,1,none⟩ (.int .i32 1)):=H.setC (o:=1) (v := .int .i32 1) Upd.head;refine(oFirst b w (fun K =>∃M2 u,StX (feet [.blk b (.cells #[Value.int .u32 0,Value.int .i32 0,Value.int .u32 0,Value.nilIface,v] 140)]) w M M2 [.blk b (.cells #[Value.int .u32 0,Value.int .i32 1,Value.int .u32 0,Value.iface 231 (ptr u 0),Value.slice none 0 0] 140)] K/\RplT_q M2 u) (H.cellOf (o:=0) (List.Mem.head _) rfl) (H.cellOf (o:=1) (List.Mem.head _) rfl) (H.thawOf (List.Mem.head _)) (H.thawOf (List.Mem.head _)) ?_ ?_).mono ?_
   . refine(buildOnce_q_ct.calls _ M (H1.hand (q1p _)) hs).mono ?_;rintro e K ⟨r,M2,its,rfl,J,rfl,u,E,rfl⟩;exact⟨G,M2,u,H1.back (q1p _) J,E⟩
   . rintro K ⟨M2,u,J,_⟩;exact⟨J.cellOf (o:=0) (List.Mem.head _) G,J.cellOf (o:=1) (List.Mem.head _) G,J.thawOf (List.Mem.head _),J.thawOf (List.Mem.head _)⟩
   rintro e w' ⟨rfl,K,⟨M2,u,J,E⟩,rfl⟩;have N:StX (feet [.blk b (.cells #[Value.int .u32 0,Value.int .i32 0,Value.int .u32 0,Value.nilIface,v] 140)]) w M M2 [.blk b (.cells #[Value.int .u32 1,Value.int .i32 1,Value.int .u32 0,Value.iface 231 (ptr u 0),Value.slice none 0 0] 140)] (K.drew.setCell ⟨b,0,none⟩ (.int .u32 1)):=J.drew.setC (o:=0) (v := .int .u32 1) Upd.head;have O:StX (feet [.blk b (.cells #[Value.int .u32 0,Value.int .i32 0,Value.int .u32 0,Value.nilIface,v] 140)]) w M M2 [.blk b (.cells #[Value.int .u32 1,Value.int .i32 0,Value.int .u32 0,Value.iface 231 (ptr u 0),Value.slice none 0 0] 140)] ((K.drew.setCell ⟨b,0,none⟩ (.int .u32 1)).setCell ⟨b,1,none⟩ (.int .i32 0)):=N.setC (o:=1) (v := .int .i32 0) Upd.head;exact⟨_,M2,_,G,O,G,u,E,G⟩
 refine(oAgain ⟨b,0,none⟩ 1 Dc _ w (H.cellOf (o:=0) (List.Mem.head _) G)).mono ?_;rintro e w' ⟨rfl,rfl⟩;exact⟨_,M,_,G,H,G,u,E,G⟩
theorem methR_q (u : Nat): MethAt Tryz.prog 231 (ptr u 0) "Replace" 306 (ptr u 0) := fun w => by kernel_rfl
theorem Y01 {p0:Ls}{b:Nat}{x:Array Value}{r:Ls}(h:Y0P p0=some r):CtX Tryz.prog 44 [ptr b 0,S p0] [.blk b (.cells x 140)] (fun M=>RplM_q M x) (fun v M its =>∃x',v=S r/\RplM_q M x'/\its=[.blk b (.cells x' 140)]):=by
 refine q0W Tryz.func44 (enters Tryz.func44 Kr G) G G G ?_;intro O M0 H hp;refine SQ (RG (AS G G (NL (TN (SQ (RG (MV G G (FN G G Tu140 G Tryz.sizeOf136 G G (MV G G (ST (Ex.makeFuncF (vs:=[ptr b 0]) G) G (q0q (A:=[.blk b (.cells x 140)]) (B:=[]) H (onceDo_q_ct (b:=b) (x:=x)) (.left (q0r _)) G hp (q00 G) G ?_)))))))))));intro K M w its H u hR;obtain⟨rfl,J,E,rfl⟩:=hR;simp only[l02,l03] at H;refine NL (TN (SQ (RG (MV G G (FN G G Tu140 G Ts138 G G (ST (Ex.load1 H G (List.Mem.head _) Tryz.isAgg138 Kf) G ?_))))));refine MV G G (WR.callI H (replT_q_ct h) (methR_q J) G G E (q00 G) G ?_);intro N M w H u hR;obtain rfl:=hR;refine AS G G (NL (TN (RT ?_)));exact q0T (its:=[.blk b (.cells #[Value.int .u32 1,Value.int .i32 0,Value.int .u32 0,Value.iface 231 (ptr J 0),Value.slice none 0 0] 140)]) G G H Kp ⟨_,G, .inr ⟨J,G,E.mono u⟩,G⟩
theorem xplacesR_q :∀{fs:Array Field},Tryz.prog.underlying 140=some (.struct fs)->∀w,(fs.mapM fun f=>do pure (f.offset,<-sizeOf f.type):Sem (Array (Nat × Nat))).run Tryz.prog w = .ok #[(0,3),(3,1),(4,1)] w:=by
 intro fs h w;rw[Tu140] at h;cases h;simp
theorem Y0a {p0:List Ls}{u:Value}{r:Unit}(h:Y2c p0=some r):CtX Tryz.prog 42 [u] [] (fun M=>Sl M encS u p0) (fun v M its =>∃b x,v=ptr b 0/\RplM_q M x/\its=[.blk b (.cells x 140)]):=by
 unfold Y2c at h;split at h
 case isFalse=>cases h
 rename_i hl;subst hl;refine q0W Tryz.func42 (enters Tryz.func42 Kr G) G G G ?_;intro V M0 H E;refine SQ (RG (AS G G (NL (TN (SQ (SQ (RG (MV G G (ST (q0o Tu77 E G) G (ST (Ex.remC (a:=4) (b:=2) (z:=0) G G G) G (WR.stepF (q0u G G) Dc (q00 G) G G (NL (TN (CF G (SK (TN (SQ (RG (MV G G ?_)))))))))))))))))));replace H:=H.newRow 9 encS;refine q0H (l:=[]) xty77 G (fun _=>G) H G (fun _=>by repeat first|exact .head|apply Upd.tail) G E (l3:=[[92],[92,92],[34],[92,34]]) G (q00 G) G ?_;intro O w H;obtain⟨M,U,hs,H1⟩:=H.freezeRowN (v:=O) (enc:=encS) (t:=9) Kv trivial;have N:=hs;obtain⟨A9,K,rfl,-⟩:=N;refine ST (q0v [Value.int .u32 0,Value.int .i32 0,Value.int .u32 0,Value.nilIface, .slice A9 4 K] Tu140 Tryz.zeroValue140 (xplacesR_q Tu140) G Kr) G (q0F [Value.int .u32 0,Value.int .i32 0,Value.int .u32 0,Value.nilIface, .slice A9 4 K] H1 G G (q00 G) G ?_);intro J w H2;refine AS G G (NL (TN (RT ?_)));exact q0T (its:=[.blk J (.cells #[Value.int .u32 0,Value.int .i32 0,Value.int .u32 0,Value.nilIface, .slice A9 4 K] 140)]) G G H2 Kp ⟨J,_,G, .inl ⟨_,G,hs⟩,G⟩
theorem Y2e {p0:List (Ls × Ls)}{u:Value}{r:List (Ls × Ls)}(h:Y0Q p0=some r):CtO Tryz.prog 26 [u] (fun M=>SlS M 2 xenc46 u p0) (fun v M its =>∃J,v=J/\its=[RowS 46 2 xenc46 J r]):=by
 unfold Y0Q at h;refine CtO.of Tryz.func26 (enters Tryz.func26 Kr G) G G G ?_;intro K M0 H E;refine SQ (RG (AS G G (NL (TN (SQ (SQ ?_))))));rcases SlS.nilOr E with ⟨rfl,rfl⟩|⟨a,c,rfl⟩
 . refine q1o ?_;refine MV G G (ST (q1b Tu22 G) G (NL (TN (CT G (SQ (RG (AS G G (NL (TN (RT ?_))))))))));obtain⟨_,rfl⟩:=app_some h;exact WQ.ret1O G G (H.newRowS 46 2 xenc46) (List.Sublist.refl _) ⟨_,G,G⟩
 refine q1o ?_;refine MV G G (ST (q1b Tu22 G) G (NL (TN (CF G (SK ?_)))))
 (repeat(first|refine WQ.then ?_))
 refine SQ (RG (WR.litE xty22 xenc46 H (q00 G) G ?_));intro N w H;refine MV G G (WR.appSC (l:=[]) xty22 G xone46 H G (fun _=>by repeat first|exact .head|apply Upd.tail) G E h (q00 G) G ?_);intro O w H;refine AS G G (NL (TN (RT ?_)));exact WQ.ret1O G G H (List.Sublist.refl _) ⟨_,G,G⟩
theorem Y3V {p0:Ls}{u:Value}{r:Ls}(h:Y2p p0=some r):CtO Tryz.prog 27 [u] (fun M=>Sl M encB u p0) (fun v M its =>∃J,v=J/\its=[RowI 5 encB J r]):=by
 unfold Y2p at h;refine CtO.of Tryz.func27 (enters Tryz.func27 Kr G) G G G ?_;intro K M0 H E;refine SQ (RG (AS G G (NL (TN (SQ (SQ ?_))))));rcases Sl.nilOr E with ⟨rfl,rfl⟩|⟨a,c,rfl⟩
 . refine q1o ?_;refine MV G G (ST (q1b Tu23 G) G (NL (TN (CT G (SQ (RG (AS G G (NL (TN (RT ?_))))))))));obtain⟨_,rfl⟩:=app_some h;exact WQ.ret1O G G (H.newRow 5 encB) (List.Sublist.refl _) ⟨_,G,G⟩
 refine q1o ?_;refine MV G G (ST (q1b Tu23 G) G (NL (TN (CF G (SK ?_)))))
 (repeat(first|refine WQ.then ?_))
 refine SQ (RG (WR.litR (enc:=encB) xty23 ([]:Ls) H G Kf (fun _=>G) G G (q00 G) G ?_));intro N w H;refine MV G G (q0H (l:=[]) xty23 G (fun _=>G) H G (fun _=>by repeat first|exact .head|apply Upd.tail) G E h (q00 G) G ?_);intro O w H;refine AS G G (NL (TN (RT ?_)));exact WQ.ret1O G G H (List.Sublist.refl _) ⟨_,G,G⟩
end Go.Proofs.YtkgohbecojnfaaaGreatDoor
end
section
namespace Go.Proofs.YtkgohbecojnfaaaGreatDoor
open Go Go.RowKit Go.Ph Go.Ph.Pl Go.Ph.Pf
def FnF (M:Mem)(v:Value)(g:(Ls × Ls)->Option Bool):Prop :=∀u r,g u=some r->FnV Tryz.prog M v [.agg (xenc109 u).toArray] (fun v M=>v=Value.bool r)
theorem FnF.mono {M M':Mem}{v:Value}{g:(Ls × Ls)->Option Bool}(h:FnF M v g)(hl:M.le M'):FnF M' v g:=fun u r hr=>(h u r hr).mono hl
theorem idxFunc_ct {p0:List (Ls × Ls)}{V:(Ls × Ls)->Option Bool}{E K:Value}{r:Int}(h:idxFunc p0 V=some r):CtX Tryz.prog 122 [E,K] [RowS 109 2 xenc109 E p0] (fun M=>FnF M K V) (fun v M its=>v=I r/\its=[RowS 109 2 xenc109 E p0]):=by
 refine q0W Tryz.func122 (enters Tryz.func122 Kr G) G G G ?_;intro w0 M0 H J;unfold idxFunc at h;refine SQ (RG (AS G G (NL (TN (SQ (SQ (RG (MV G G (ST (q1v Tu103 H (List.Mem.head _) G) G (MV G G (NL (TN ?_))))))))))));obtain⟨o1,u,h⟩:=bnd h;refine q0c (fun e w =>∃  (M:Mem),e=[]/\StX (feet [RowS 109 2 xenc109 E p0]) w0 M0 M [RowS 109 2 xenc109 E p0] w/\some (.inl ())=some o1) [] ?_ ?_ (trivial)
 .
  refine BL (q0l (fun m e w =>∃(Y:Int) (M:Mem),e=[(0,E),(1,K),(7,I (p0.length:Int)),(8,I Y)]/\StX (feet [RowS 109 2 xenc109 E p0]) w0 M0 M [RowS 109 2 xenc109 E p0] w/\FnF M K V/\idxL p0 V m Y=some o1) FU [(0,_),(1,_),(7,_),(8,_)] ⟨rfl,rfl,rfl,rfl,trivial⟩ ⟨_,_,rfl,H,J,u⟩ ?_);rintro m4 e w ⟨Y,M,rfl,H,J,u⟩;rcases m4 with _|m4
  . rw[idxL] at u;cases u
  rw[idxL] at u;refine SQ (RG (ST (q0m G G) G (NL (TN (SQ ?_)))));refine CB (p:=Y<(p0.length:Int)) G (fun N=>?_) fun N=>?_
  .
   rw[if_pos N] at u;refine SK (TN (SQ (BL (SQ (RG (MV G G (AS G G (NL (TN (SQ ?_))))))))));obtain⟨c6,O,u⟩:=bnd u;obtain⟨b7,a3,u⟩:=bnd u;refine RG (MV G G (MV G G (MV G G (q0z H Tu103 Ts109 (List.Mem.head _) G G O (q00 G) G ?_))));intro gb hgb;refine ST (Ex.loadRowA H G hgb (List.Mem.head _) (fun _=>G) O Ta109 Ts109) G (WR.callF H (J _ _ a3) G G (q00 G) G ?_);intro a6 M w H a4 hR;replace J:=J.mono a4;obtain rfl:=hR;refine NL (TN ?_);refine q0a G (fun U=>?_) (fun U=>?_)
   .
    subst U;rw[if_pos rfl] at u;refine SQ (RG (MV G G (AS G G (NL (TN (RT ?_))))));obtain rfl:=oI u;try dsimp only at h
    obtain rfl:=oI h;exact q0T (its:=[RowS 109 2 xenc109 E p0]) G G H Kp ⟨G,G⟩
   subst U;rw[if_neg l00] at u;refine SK (IB (TN ?_));obtain⟨a7,Z,u⟩:=bnd u;refine RG (ST (q0e G G Z) G (MV G G (NL ?_)));exact AG m4 ⟨_,_,G,H,J,u⟩ (l06 _)
  rw[if_neg N] at u;refine q0j (q03 (q03 (q0b ?_)));exact MN ⟨_,G,H,u⟩
 rintro e w ⟨M,rfl,H,a5⟩;obtain rfl:=oI a5;try dsimp only at h
 refine TN (SQ (RG (AS G G (NL (TN (RT ?_))))));obtain rfl:=oI h;exact q0T (its:=[RowS 109 2 xenc109 E p0]) G G H Kp ⟨G,G⟩
theorem xh0 :∀x:(Ls × Ls),(xenc109 x).length=2:=fun _=>rfl
theorem xz109 :∀u∈(Value.agg #[.string ⟨#[]⟩, .string ⟨#[]⟩]).cells.toList,u.oneCell'=true:=by
 intro u hu;have:u∈ [Value.string ⟨#[]⟩,Value.string ⟨#[]⟩]:=hu;simp only[l0S,l0T,or_false] at this;rcases this with rfl|rfl <;> rfl
theorem delFunc_ct {p0 r:List (Ls × Ls)}{p1:(Ls × Ls)->Option Bool}{E U:Value}(h:delFunc p0 p1=some r):CtX Tryz.prog 84 [E,U] [RowS 109 2 xenc109 E p0] (fun M=>FnF M U p1) (fun v M its=>its=[RowS 109 2 xenc109 v r]):=by
 refine q0W Tryz.func84 (enters Tryz.func84 Kr G) G G G ?_;intro w0 M0 H J;unfold delFunc at h;obtain⟨i0,a8,h⟩:=bnd h;refine SQ (RG (AS G G (NL (TN (SQ (RG (MV G G (MV G G (q0q H (idxFunc_ct a8) (.left (q0r _)) G J (q00 G) G ?_)))))))));intro am M w its H V hR;obtain⟨rfl,rfl⟩:=hR;replace H:StX (feet [RowS 109 2 xenc109 E p0]) w0 M0 M [RowS 109 2 xenc109 E p0] w:=H;replace J:=J.mono V;refine AS G G (NL (TN (SQ (SQ (RG (MV G G (ST (q0u G G) G (NL (TN ?_)))))))));refine q0a G (fun K=>?_) (fun K=>?_)
 . replace K:i0 = -1:=of_decide_eq_true K;rw[if_pos K] at h;refine SQ (RG (MV G G (AS G G (NL (TN (RT ?_))))));obtain rfl:=oI h;exact q0T (its:=[RowS 109 2 xenc109 E p0]) G G H Kp G
 replace K :¬i0 = -1:=of_decide_eq_false K;rw[if_neg K] at h;refine SK (TN (SQ (SQ ?_)));obtain⟨j0,a4,h⟩:=bnd h;refine RG (MV G G (ST (q0e G G a4) G (AS G G (NL (TN ?_)))));obtain⟨o1,u,h⟩:=bnd h;refine q0c (fun e w =>∃(q:List (Ls × Ls)) (i:Int) (M:Mem),e=[(0,E),(5,I i)]/\StX (feet [RowS 109 2 xenc109 E p0]) w0 M0 M [RowS 109 2 xenc109 E q] w/\some (q,i)=some o1) [] ?_ ?_ (trivial)
 . refine WC.block ?_;refine q0l (fun m e w =>∃(q:List (Ls × Ls)) (i j:Int) (M:Mem),e=[(0,E),(1,U),(5,I i),(6,I j)]/\StX (feet [RowS 109 2 xenc109 E p0]) w0 M0 M [RowS 109 2 xenc109 E q] w/\FnF M U p1/\delL p1 m q i j=some o1) FU [(0,_),(1,_),(5,_),(6,_)] ⟨rfl,rfl,rfl,rfl,trivial⟩ ⟨_,_,_,_,rfl,H,J,u⟩ ?_;rintro m4 e w ⟨q,i,j,M,rfl,H,J,u⟩;rcases m4 with _|m4
   . rw[delL] at u;cases u
   rw[delL] at u;refine SQ (SQ (RG (MV G G (MV G G (ST (q1v Tu103 H (List.Mem.head _) G) G (ST (q0m G G) G (NL (TN ?_))))))));refine CB (p:=j<(q.length:Int)) G (fun Y=>?_) fun Y=>?_
   .
    rw[if_pos Y] at u;refine SK (TN (SQ (BL (SQ ?_))));obtain⟨c6,Z,u⟩:=bnd u;obtain⟨b7,ab,u⟩:=bnd u;refine RG (MV G G (MV G G (q0z H Tu103 Ts109 (List.Mem.head _) G G Z (q00 G) G ?_)));intro gb hgb;refine ST (Ex.loadRowA H G hgb (List.Mem.head _) (fun _=>G) Z Ta109 Ts109) G (q09 [_,_] H Tz109 G (q00 G) G ?_);intro b9 w H;refine q04 [_,_] H G G G Ku Ts109 G Kf Kf (q00 G) ?_;intro w H;refine NL (TN (SQ (RG (MV G G (ST (q08 H G Km Ta109 Ts109 Kf) G ?_)))));refine WR.callF H (J _ _ ab) G G (q00 G) G ?_;intro an M w H V hR;replace J:=J.mono V;obtain rfl:=hR;refine ST (q0y G) G (NL (TN ?_));refine q0a G (fun N=>?_) (fun N=>?_)
    . replace N:b7=false:=by simpa using N
      subst N;rw[if_neg l00] at u;obtain⟨q2,a0,u⟩:=bnd u;obtain⟨i2,a5,u⟩:=bnd u;refine SQ (RG (MV G G (MV G G (ST (q08 H G Km Ta109 Ts109 Kf) G ?_))));have ac:=put_some a0;have hxi:idx q i=some (q[i.toNat]'Om):=by
       obtain⟨k,hk⟩:=l0C ac.1.1;subst hk;rw[idx_nat];exact List.getElem?_eq_getElem _
      refine q0z H Tu103 Ts109 Km G G hxi (q00 G) G ?_;intro ao a6;refine WR.storeRowAC (a':=c6) H G G (xone109 _) a6 (fun _=>by repeat first|exact .head|apply Upd.tail) (fun _=>G) a0 Ts109 (q00 G) ?_;intro w H;refine NL (TN (RG (MV G G (ST (q0e G G a5) G (AS G G (NL (IB (TN ?_))))))));obtain⟨j2,O,u⟩:=bnd u;refine RG (MV G G (ST (q0e G G O) G (AS G G (NL ?_))));exact AG m4 ⟨_,_,_,_,G,(H.pick (L':=[RowS 109 2 xenc109 E q2]) Kp),J,u⟩ (l06 _)
    replace N:b7=true:=by simpa using N
    subst N;rw[if_pos rfl] at u;refine SK (IB (TN ?_));obtain⟨j2,O,u⟩:=bnd u;refine RG (MV G G (ST (q0e G G O) G (AS G G (NL ?_))));exact AG m4 ⟨_,_,_,_,G,(H.pick (L':=[RowS 109 2 xenc109 E q]) Kp),J,u⟩ (l06 _)
   rw[if_neg Y] at u;refine q0j (q03 (q03 (q0b ?_)));exact MN ⟨_,_,_,G,H,u⟩
 rintro e w ⟨q,i,M,rfl,H,ad⟩;obtain rfl:=oI ad;try dsimp only at h
 refine TN ?_;obtain⟨⟨c0,c1,c2⟩,rfl⟩:=cut_some h;obtain⟨k,rfl⟩:=l0C c1;have hk:k<=q.length:=by omega
 have hrow:=H.rowOf (List.Mem.head _);refine SQ (RG (MV G G (MV G G ?_)));rcases hrow.2 with ⟨hv,hn⟩|⟨gb,cap,cur,hv,ap,hg,d1,d3,d2,d4⟩
 . subst hv;have hq:q=[]:=l08 hn;subst hq;obtain rfl:k=0:=by simpa using hk
   refine ST (q1M (kk:=2) (i:=0) (j:=0) Tu103 Ts109 G (l07 _) (l07 _) (l07 _) (.inl ⟨_,G,G⟩) (.inr ⟨G,G⟩)) G (WR.stepN (Ex.clearNil Tu103 G) (q00 G) G (NL (TN (SQ (RG (MV G G (MV G G (ST (q1M (kk:=2) (i:=0) (j:=0) Tu103 Ts109 G (l07 _) (l07 _) (l07 _) (.inr ⟨G,G⟩) (.inl ⟨_,G,G⟩)) G (AS G G (NL (TN (RT ?_))))))))))));exact q0T (its:=[RowS 109 2 xenc109 (.slice none 0 0) []]) G G H Kp G
 subst hv;refine ST (q1M (kk:=2) (i:=k) (j:=q.length) Tu103 Ts109 G d1 hk (l07 _) (.inl ⟨_,G,G⟩) (.inr ⟨G,G⟩)) G (WR.clearTail (q:=q) (i:=k) xty103 xz109 xh0 H hk (fun _=>Upd.head) G (fun hlt=>by rw[if_neg Om];simp [Addr.add];omega) (q00 G) ?_);intro w H;refine NL (TN (SQ (RG (MV G G (MV G G (ST (q1M (kk:=2) (i:=0) (j:=k) Tu103 Ts109 G d1 (l0o _) hk (.inr ⟨G,G⟩) (.inl ⟨_,G,G⟩)) G (AS G G (NL (TN (RT ?_))))))))));have e1:(Value.slice (if cap=0 then some ⟨gb,0,none⟩ else(some (⟨gb,0,none⟩:Addr)).map (fun a=>a.add (0*2))) (k-0) (cap-0)) = .slice (some ⟨gb,0,none⟩) k cap:=by
  split <;> simp [Addr.add]
 rw[e1];exact q0T (its:=[RowS 109 2 xenc109 (.slice (some ⟨gb,0,none⟩) k cap) (q.take k)]) G G H Kp (by rw[l0h];rfl)
theorem Y4i {p0:List (Ls × Ls)}{J:(Ls × Ls)->Option Bool}{u E:Value}{r:List (Ls × Ls)}(h:Y2C p0 J=some r):CtX Tryz.prog 84 [u,E] [RowS 109 2 xenc109 u p0] (fun M=>FnT153 M E J) (fun v M its=>its=[RowS 109 2 xenc109 v r]) :=
 let H:=delFunc_ct h
 ⟨H.enters,fun w M Hs hp=>H.calls w M Hs fun K r hr=>hp K r hr⟩
theorem Y5J {s sep:Value}(K:s.cells = #[s])(N:sep.cells = #[sep]){k:Int}:CtX Tryz.prog 97 [s,sep,I k] [] (fun _=>True) (fun v M its =>∃u E J,v = .func (.func 135) #[] #[ptr u 0,ptr E 0,ptr J 0]/\its=[.blk u (.cells #[sep] 23), .blk E (.cells #[s] 23), .blk J (.cells #[I k] 3)]):=by
 refine q0W Tryz.func97 (enters Tryz.func97 Kr G) G G G ?_;intro O M0 H _;refine SQ (RG (q0F [s] H G K (q00 G) G ?_));intro E w H;refine q0F [sep] H G N (q00 G) G ?_;intro u w H;refine q0F [_] H G G (q00 G) G ?_;intro J w H;refine AS G G (NL (TN (SQ (RG (ST (q1s G) G (AS G G (NL (TN (RT ?_)))))))));exact q0T (its:=[.blk u (.cells #[sep] 23), .blk E (.cells #[s] 23), .blk J (.cells #[I k] 3)]) G G H Kp ⟨_,_,_,G,G⟩
theorem Y5K {s sep:Value}(K:s.cells = #[s])(N:sep.cells = #[sep]):CtX Tryz.prog 60 [s,sep] [] (fun _=>True) (fun v M its =>∃u E J,v = .func (.func 135) #[] #[ptr u 0,ptr E 0,ptr J 0]/\its=[.blk u (.cells #[sep] 23), .blk E (.cells #[s] 23), .blk J (.cells #[I 0] 3)]):=by
 refine q0W Tryz.func60 (enters Tryz.func60 Kr G) G G G ?_;intro U M0 H _;refine SQ (RG (AS G G (NL (TN (SQ (RG (MV G G (MV G G (q0q (A:=[]) (B:=[]) H (Y5J K N) (q0r _) G trivial (q00 G) G ?_)))))))));intro V M w its H O hR;obtain⟨u,E,J,rfl,rfl⟩:=hR;simp only[l02,l03] at H;refine AS G G (NL (TN (RT ?_)));exact q0T (its:=[.blk u (.cells #[sep] 23), .blk E (.cells #[s] 23), .blk J (.cells #[I 0] 3)]) G G H Kp ⟨_,_,_,G,G⟩
theorem Y4L {p0:(List (Ls × Ls) × Ls × List BT38)}{K:Value}{N:Value}{O:Value}{r:(List (Ls × Ls) × Ls × List BT38)}(h:Y4A p0=some r):Ct Tryz.prog 48 [Value.agg #[K,N,O]] (fun M=>SlS M 2 xenc46 K p0.1/\Sl M encB N p0.2.1/\SlR xrl39 M O p0.2.2) (fun v M =>∃U x0_0c_0 x0_0c_1 x0_0c_2,v=(Value.func (.func 86) #[] #[ptr U 0])/\PtM M U (.cells #[x0_0c_0,x0_0c_1,x0_0c_2] 39)/\SlS M 2 xenc46 x0_0c_0 r.1/\Sl M encB x0_0c_1 r.2.1/\SlR xrl39 M x0_0c_2 r.2.2):=by
 refine Ct.of Tryz.func48 (enters Tryz.func48 Kr G) G G G ?_;intro w0 M0 H hp;obtain⟨u,E,J⟩:=hp;unfold Y4A at h;refine SQ (RG (q0F [_,_,_] H G G (q00 G) G ?_));intro Y w H;refine AS G G (NL (TN (SQ (RG ?_))));obtain⟨M,V,Z,H⟩:=H.freezeVar (b:=Y) Kv;replace u:=u.mono V;replace E:=E.mono V;replace J:=J.mono V;refine ST (q1s G) G (AS G G (NL (TN (RT ?_))));obtain rfl:=oI h;exact q07 G G H.ext (⟨_,_,_,_,G,Z,u,E,J⟩)
theorem Y5l {lid:Nat}{σ:Type}{Y:σ->(Int × (List (Ls × Ls) × Ls × List BT38 × Int))->Option (σ × Bool)}{Z:σ->List Ph.Item->Mem->Prop}
 (hY :∀s x s' b v u L w M,Y s x=some (s',b)->Z s L M->(fun v u M x =>∃a4 a5 a6,v=I x.1/\u=Value.agg #[a4,a5,a6,I x.2.2.2.2]/\SlS M 2 xenc46 a4 x.2.1/\Sl M encB a5 x.2.2.1/\SlR xrl39 M a6 x.2.2.2.1) v u M x->StX (feet L) w M M L w->YieldAt (Wd none) 0 Tryz.prog lid #[v,u] w fun e w' =>∃M' L',StX (feet L) w M M' L' w'/\e = .returned (.bool b)/\Z s' L' M') {b2 U b4:Nat} :
 ∀(m:Nat) {p:(List (Ls × Ls) × Ls × List BT38)} {d n:Int} {l:List (List (Ls × Ls) × Ls × List BT38 × Int)} {s s':σ} {b:Bool} {q0 q1 V:Hd} {L0:List Ph.Item},Y0n m d p=some l->0<=d->0<=n->d+l.length<4611686018427387904->n+l.length<4611686018427387904->runB Y (Y0t n l) s=some (s',b)->
 CtX Tryz.prog 87 [Value.agg #[hv q0,hv q1,hv V],I d,ptr b2 0,ptr U 0,ptr b4 0] (.blk U (.cells #[I n] 3)::L0)
  (fun M=>PtM M b2 (.cells #[yv lid] 154)/\PtM M b4 (.cells #[Value.func (.func 87) #[] #[ptr b2 0,ptr U 0,ptr b4 0]] 155)/\SlS M 2 xenc46 (hv q0) p.1/\Sl M encB (hv q1) p.2.1/\SlR xrl39 M (hv V) p.2.2/\ZH Z s L0 M)
  (fun v M its=>v = .bool b/\∃n' Lc',its = .blk U (.cells #[I n'] 3)::Lc'/\(b=true->n'=n+l.length)/\ZH Z s' Lc' M)
 | 0,p,d,n,l,s,s',b,q0,q1,V,L0,h,_,_,_,_,_=>by rw[Y0n] at h;cases h
 | m + 1,p,d,n,l,s,s',b,q0,q1,V,L0,h,ax,ay,hd,hn,hr=>by
   rw[Y0n] at h;obtain⟨y,hy,h⟩:=bnd h;obtain rfl:=oI h;rw[l01] at hd hn;rw[Y0t,runB] at hr;obtain⟨⟨s2,bb⟩,hx,hr⟩:=bnd hr;dsimp only at hr;have av:=Y5j hy;refine q0W Tryz.func87 (enters Tryz.func87 Kr G) G G G ?_;intro w0 M0 H hp;obtain⟨E,J,h0,h1,O,hzz⟩:=hp;refine SQ (RG (q0F [_,_,_] H G G (q00 G) G ?_));intro az w H;refine AS G G (NL (TN (SQ (SQ (RG (ST (q0n H G (E.cell (j:=0) G) Tryz.isAgg154) G (ST (XL H Ta3) G ?_)))))));refine ST (q08 H G Km Ta39 Ts39 Kf) G ?_;refine MV G G (ST (q0v [hv q0,hv q1,hv V,I d] Tu98 Tz98 (xplaces98 Tu98) G Kr) G (WR.yieldWr H (.right (.right (q1p _))) hY hzz hx G G G ⟨_,_,_,G,G,h0,h1,O⟩ (q00 G) G ?_));intro w M Lc H K hzz;simp only[l02,l03] at H;replace E:=E.mono K;replace J:=J.mono K;replace O:=O.mono K;refine ST (q0y G) G (NL (TN ?_));refine q0a G (fun hk=>?_) (fun hk=>?_)
   . replace hk:bb=false:=by simpa using hk
     subst hk;rw[if_neg l00] at hr;obtain⟨rfl,rfl⟩:=Prod.mk.inj (oI hr);refine SQ (RG (AS G G (NL (TN (RT ?_)))));exact q0T G G H (by repeat(first|refine Pick.cons Kv ?_|exact q1A (by repeat(first|exact List.Sublist.refl _|apply List.Sublist.cons)))) ⟨G,n,_,G,(fun h=>by cases h),hzz⟩
   replace hk:bb=true:=by simpa using hk
   subst hk;rw[if_pos rfl] at hr;refine SK (TN (SQ (RG (ST (XL H Ta3) G ?_))));refine ST (q0e G G (chk_ok (x:=n+1) Om Om)) G ?_;refine q1d [_] H G G Ku Kf Ts3 (by first|decide|(simp;done)|(simp;omega)) Kf Kf (q00 G) ?_;intro w H;refine NL (TN (SQ (SQ (RG (ST (q01 Tu39 G Ts37 Dc G) G (ST (XL H Ta37) G ?_))))));refine ST (q1e Tu37 O G) G (MV G G (NL (TN (BL ?_))));refine q0l (fun mm e w =>∃(i:Nat) (n1:Int) (y1:List (List (Ls × Ls) × Ls × List BT38 × Int)) (s1:σ) (Lc:List Ph.Item) (M:Mem),e=[(1,I d),(2,ptr b2 0),(3,ptr U 0),(4,ptr b4 0),(20,hv V),(21,I p.2.2.length),(22,I i)]/\StX (feet (.blk U (.cells #[I n] 3)::L0)) w0 M0 M (.blk U (.cells #[I n1] 3)::Lc) w/\PtM M b2 (.cells #[yv lid] 154)/\PtM M b4 (.cells #[Value.func (.func 87) #[] #[ptr b2 0,ptr U 0,ptr b4 0]] 155)/\SlR xrl39 M (hv V) p.2.2/\ZH Z s1 Lc M/\mm=p.2.2.length-i/\i<=p.2.2.length/\
    Y1X (Y0n m) (d+1) (p.2.2.drop i)=some y1/\n1+y1.length=n+(y.length+1)/\n<n1/\y1.length<=y.length/\runB Y (Y0t n1 y1) s1=some (s',b)) (p.2.2.length) [(1,_),(2,_),(3,_),(4,_),(20,_),(21,_),(22,_)] ⟨rfl,rfl,rfl,rfl,rfl,rfl,rfl,trivial⟩ ⟨0,_,y,_,_,_,rfl,H.pick (by repeat(first|refine Pick.cons Kv ?_|exact q1A (by repeat(first|exact List.Sublist.refl _|apply List.Sublist.cons)))),E,J,O,hzz,rfl,l0o _,hy,by omega,by omega,l07 _,hr⟩ ?_
   clear hr H E J O hzz K h0 h1 hx;rintro mm e w ⟨i,n1,y1,s1,Lc,M,rfl,H,E,J,O,hzz,hmm,hi,N,an,hlt,hyl,hr⟩;refine SQ (RG (ST (q0m G G) G (NL (TN (SQ ?_)))));refine q0a G (fun hk=>?_) (fun hk=>?_)
   rotate_left
   . replace hk :¬((i:Int)<(p.2.2.length:Int)):=of_decide_eq_false hk;have ao:i=p.2.2.length:=by omega
     rw[ao,l0B,Y1X] at N;obtain rfl:=oI N;rw[Y0t,runB] at hr;obtain⟨rfl,rfl⟩:=Prod.mk.inj (oI hr);refine q0j (q03 (q03 (q0b (TN (SQ (RG (AS G G (NL (TN (RT ?_))))))))));exact q0T G G H (by repeat(first|refine Pick.cons Kv ?_|exact q1A (by repeat(first|exact List.Sublist.refl _|apply List.Sublist.cons)))) ⟨G,n1,_,G,(fun _=>by simp only[l0a,l01] at *;omega),hzz⟩
   replace hk:(i:Int)<(p.2.2.length:Int):=of_decide_eq_true hk;have ad:i<p.2.2.length:=by omega
   have ha:idx p.2.2 (i:Int)=some p.2.2[i]:=by rw[idx_nat];exact List.getElem?_eq_getElem ad
   rw[l0g ad,Y1X] at N;obtain⟨ya,hya,N⟩:=bnd N;obtain⟨yb,hyb,N⟩:=bnd N;obtain rfl:=oI N;rw[l05] at an hyl;rw[Y5i] at hr;obtain⟨s3,b3v,hra,hr⟩:=runB_app hr;generalize p.2.2[i]=a at ha hya;refine SK (TN (SQ (BL (SQ ?_))));obtain⟨aw,b0,ah,ai,aj,a0⟩:=O.atC ha;obtain⟨aa,ab,ac⟩:=ah;replace a0:SlS _ 2 xenc46 (hv aa) a.out.1/\Sl _ encB (hv ab) a.out.2.1/\SlR xrl39 _ (hv ac) a.out.2.2:=run38 a0;obtain⟨ap,aq,ar⟩:=a0;refine RG (ST (q0s ai Tu37 Ts39 G G) G (ST (q0G H G aj Ta39 Ts39 Kf) G ?_));refine q09 [_,_,_] H Tz39 G (q00 G) G ?_;intro b1 w H;refine q04 [_,_,_] H G G G Ku Ts39 G Kf Kf (q00 G) ?_;intro w H;refine NL (TN (SQ (RG (ST (q0n H G (J.cell (j:=0) G) Tryz.isAgg155) G (ST (q08 H G Km Ta39 Ts39 Kf) G ?_)))));refine MV G G (ST (q0e G G (chk_ok (x:=d+1) Om Om)) G ?_);refine WR.callVX H (Y5l hY m hya Om Om Om Om hra) (.right (q1p _)) G G ⟨E,J,ap,aq,ar,hzz⟩ (q00 G) G ?_;rintro b5 M w its H K ⟨rfl,n5,Lc,rfl,a9,hzz⟩;replace H:StX _ w0 M0 M (.blk U (.cells #[I n5] 3)::Lc) w:=H.drop ((List.sublist_append_left Lc _).cons_cons _);replace E:=E.mono K;replace J:=J.mono K;replace O:=O.mono K;refine ST (q0y G) G (NL (TN ?_));refine q0a G (fun hk=>?_) (fun hk=>?_)
   . replace hk:b3v=false:=by simpa using hk
     subst hk;obtain⟨_,rfl,rfl⟩:=hr.resolve_left (fun h=>by cases h.1);refine SQ (RG (AS G G (NL (TN (RT ?_)))));exact q0T G G H (by repeat(first|refine Pick.cons Kv ?_|exact q1A (by repeat(first|exact List.Sublist.refl _|apply List.Sublist.cons)))) ⟨G,n5,_,G,(fun h=>by cases h),hzz⟩
   replace hk:b3v=true:=by simpa using hk
   subst hk;obtain⟨_,hr⟩:=hr.resolve_right (fun h=>by cases h.1);have a9:=a9 rfl;subst a9;refine SK (IB (TN (RG (ST (q0e G G (chk_succ (i:=i) Om)) G ?_))));refine MV G G (NL ?_);exact WQ.againP (p.2.2.length-(i+1)) [(1,_),(2,_),(3,_),(4,_),(20,_),(21,_),(22,_)] ⟨G,G,G,G,G,G,G,trivial⟩ ⟨i+1,_,yb,_,_,_,G,H.pick (by repeat(first|refine Pick.cons Kv ?_|exact q1A (by repeat(first|exact List.Sublist.refl _|apply List.Sublist.cons)))),E,J,O,hzz,G,by omega,hyb,by omega,by omega,by omega,hr⟩ Om
theorem Y4e {p1:(List (Ls × Ls) × Ls × List BT38)}{b:Nat}{J K N:Value}:ItW Tryz.prog 86 [ptr b 0] [] (fun M=>PtM M b (.cells #[J,K,N] 39)/\SlS M 2 xenc46 J p1.1/\Sl M encB K p1.2.1/\SlR xrl39 M N p1.2.2) (fun v u M x =>∃J K N,v=I x.1/\u=Value.agg #[J,K,N,I x.2.2.2.2]/\SlS M 2 xenc46 J x.2.1/\Sl M encB K x.2.2.1/\SlR xrl39 M N x.2.2.2.1) (Y2P p1):=by
 refine ItW.ofF Tryz.func86 (enters Tryz.func86 Kr G) G G G ?_;intro lid σ Y Z hY s0 r L0 w0 M0 h hzz H hp;obtain⟨O,V,h1,h2⟩:=hp;obtain⟨q0,rfl⟩:=V.hd;obtain⟨q1,rfl⟩:=h1.hd;obtain⟨q2,rfl⟩:=h2.hd;unfold Y2P at h;obtain⟨l,hl,h⟩:=bnd h;split at h
 case isFalse=>cases h
 rename_i hlen;obtain⟨bb,hr⟩:=runB_of h;refine SQ (RG (q0F [_] H G G (q00 G) G ?_));intro b2 w H;refine NL (TN (SQ (RG (q09 [_] H Tz3 G (q00 G) G ?_))));intro b3 w H;refine q1d [_] H G G Ku Kf Ts3 (by first|decide|(simp;done)|(simp;omega)) Kf Kf (q00 G) ?_;intro w H;refine NL (TN (SQ (RG (q09 [_] H Tryz.zeroValue155 G (q00 G) G ?_))));intro b4 w H;refine NL (TN (SQ (RG (ST (q1s G) G (q1d [_] H G G Ku Kf Tryz.sizeOf155 (by first|decide|(simp;done)|(simp;omega)) Kf Kf (q00 G) ?_)))));intro w H;refine NL (TN ?_);obtain⟨M,E,U,H⟩:=H.freezeVarI (b:=b4) Kv (fun x hx => .tail _ (.tail _ hx));replace O:=O.mono E;replace V:=V.mono E;replace h1:=h1.mono E;replace h2:=h2.mono E;replace hzz:=hzz.mono E;obtain⟨M,E,a3,H⟩:=H.freezeVarI (b:=b2) Kv (fun x hx => .tail _ hx);replace O:=O.mono E;replace V:=V.mono E;replace h1:=h1.mono E;replace h2:=h2.mono E;replace hzz:=hzz.mono E;replace U:=U.mono E;refine RG (ST (q0n H G (U.cell (j:=0) G) Tryz.isAgg155) G (ST (q0G H G O.all Ta39 Ts39 Kf) G ?_));refine WR.callVX H (Y5l hY FU hl (l2E _) (l2E _) Om Om hr) (q1p _) G G ⟨a3,U,V,h1,h2,hzz⟩ (q00 G) G ?_;rintro v8 M w its H E ⟨rfl,n5,Lc,rfl,_,hzz⟩;simp only[l02,l0f] at H;refine NL ?_;exact WQ.endZ G H (l0N _ _) hzz G
theorem Y60 {U:(List (Ls × Ls) × Ls × List BT38)}{b:Nat}{E J K:Value}:ItW Tryz.prog 57 [ptr b 0] [] (fun M=>PtM M b (.cells #[E,J,K] 39)/\SlS M 2 xenc46 E U.1/\Sl M encB J U.2.1/\SlR xrl39 M K U.2.2) (fun v u M x =>∃E J K,v=I x.1/\u=Value.agg #[E,J,K]/\SlS M 2 xenc46 E x.2.1/\Sl M encB J x.2.2.1/\SlR xrl39 M K x.2.2.2) (Y3M U):=by
 refine ItW.ofM Tryz.func57 (enters Tryz.func57 Kr G) G G G ?_;intro lid σ Y Z hY s0 r L0 w0 M0 h hzz H hp;obtain⟨a2,h0,h1,h2⟩:=hp;unfold Y3M at h;obtain⟨⟨s9,t9⟩,hrun,h9⟩:=bnd h;obtain rfl:=oI h9;refine SQ (RG (q0F [_] H G G (q00 G) G ?_));intro b2 w H;refine NL (TN (SQ (RG (ST (q0G H G a2.all Ta39 Ts39 Kf) G ?_))));refine q02 H (Y4L (p0:=U) G) G ⟨h0,h1,h2⟩ (q00 G) G ?_;rintro v6 M w H N ⟨b6,y0,y1,y2,rfl,a4,g0,g1,g2⟩;replace hzz:=hzz.mono N;refine NL (TN (BL ?_));refine WC.rangeW (A:=[]) (L := .blk b2 (.cells #[yv lid] 112)::L0) (B:=[]) H rfl Y4e (q1p _) ⟨a4,g0,g1,g2⟩ rfl rfl (fun s L M =>∃Lc,L = .blk b2 (.cells #[yv lid] 112)::Lc/\ZH Z s.1 Lc M) (fun s=>exE [.ret] s.2) exStop (fun s=>exE_stop _ s) (fun s x=>(Y s.1 (x.1,(x.2.1,x.2.2.1,x.2.2.2.1))).bind fun r=>some (r.1,if r.2=true then 0 else 1)) (s0,0) (s9,t9) hrun ?_ rfl ⟨_,rfl,hzz⟩ ?_ ?_ ?_
 . rintro s L M M' ⟨Lc,rfl,hz⟩ N;exact⟨Lc,G,hz.mono N⟩
 . rintro ah ai O ⟨s,t⟩ ⟨n,p,pb,pp,d⟩ ⟨s',t'⟩ vx ux L w M hE hB ⟨Lc,rfl,hzz⟩ ⟨z0,z1,z2,rfl,rfl,V,k1,k2⟩ H;dsimp only at hB V k1 k2 hzz;obtain⟨⟨s2,bb⟩,hx,hB⟩:=bnd hB;dsimp only at hB;obtain⟨rfl,rfl⟩:=Prod.mk.inj (oI hB);refine SQ (RG (AS G G (NL (TN (RG (q09 [_,_,_,_] H Tz98 G (q00 G) G ?_))))));intro aj w H;refine q04 [_,_,_,_] H G G G Ku Ts98 G Kf (by simp only[l0b,l0i,V.one.2,k1.one.2,k2.one.2];rfl) (q00 G) ?_;intro w H;refine NL (WQ.begin O H Ku ?_);intro w H;refine BL (SQ (RG (ST (XL H Tryz.isAgg112) G ?_)));refine MV G G (ST (q01 Tu98 G Ts39 Dc G) G (ST (Ex.loadAggP (us:=[_,_,_]) H G Km Ta39 Ts39 G G) G ?_));refine WR.yieldWr H (.right (.right (.right (q1p _)))) hY hzz hx G G G ⟨_,_,_,G,G,V,k1,k2⟩ (q00 G) G ?_;intro w M Lc H N hzz;simp only[l02,l03] at H;refine ST (q0y G) G (NL (TN ?_));refine q0a G (fun hk=>?_) (fun hk=>?_)
   . replace hk:bb=false:=by simpa using hk
     subst hk;refine RT ?_;exact WQ.rsRet O (H.pick (by repeat(first|refine Pick.cons Kv ?_|exact q1A (by repeat(first|exact List.Sublist.refl _|apply List.Sublist.cons))))) G ⟨_,G,hzz⟩
   replace hk:bb=true:=by simpa using hk
   subst hk;refine SK (IB ?_);exact WQ.rsOn O (H.pick (by repeat(first|refine Pick.cons Kv ?_|exact q1A (by repeat(first|exact List.Sublist.refl _|apply List.Sublist.cons))))) G ⟨_,G,hzz⟩
 . rintro Dm w M L H N hE ⟨Lc,rfl,hzz⟩;refine IB ?_;exact WQ.endMZ G H (Rem.mid (_::_)) Sm hzz G
 rintro Dm w M L c H N hE ⟨Lc,rfl,hzz⟩;obtain rfl:=exE_ret hE;refine RT ?_;exact WQ.retMZ G H (Rem.mid (_::_)) Sm hzz G
theorem Y07  {r:(Int × Int)} (h:Y0e=some r):Ct Tryz.prog 18 [] (fun M=>True) (fun v M=>v=Value.agg #[I r.1,I r.2]):=by
 refine Ct.of Tryz.func18 (enters Tryz.func18 Kr G) G G G ?_;intro E M0 H hp;unfold Y0e at h;refine SQ (RG (q09 [_,_] H Tz28 G (q00 G) G ?_));intro u w H;refine NL (TN (SQ (RG (ST (q0v [I 0,I 0] Tu28 Tz28 (xplaces28 Tu28) G G) G (q04 [_,_] H G G G Ku Ts28 G Kf Kf (q00 G) ?_)))));intro w H;refine NL (TN (RT ?_));obtain rfl:=oI h;exact q07 G ⟨_,G,H.loadAgg Km Ta28 Ts28 Kf⟩ H.ext G
theorem transfer_copied_ct {p0:Ls}{u:Value}{r:(Ls × (Int × Int))}(h:transfer_copied p0=some r):Ct Tryz.prog 205 [u] (fun M=>Sl M encB u p0) (fun v M =>∃J,v=Value.tuple #[J,Value.agg #[I r.2.1,I r.2.2]]/\Sl M encB J r.1):=by
 refine Ct.of Tryz.func205 (enters Tryz.func205 Kr G) G G G ?_;intro Z M0 H hp;have K:=hp;unfold transfer_copied at h;refine SQ (RG (AS G G (q09 [_,_] H Tz28 G (q00 G) G ?_)));intro Y w H;refine NL (TN (SQ ?_));obtain⟨l2,E,h⟩:=bnd h;obtain⟨⟨n3,n4⟩,N,h⟩:=bnd h;try dsimp only at h
 refine RG (MV G G ?_);replace H:=H.newRow 5 encB;refine q0H (l:=[]) xty23 G (fun _=>G) H G (fun _=>by repeat first|exact .head|apply Upd.tail) G (K) E (q00 G) G ?_;intro V w H;refine q02 H (Y07 N) G trivial (q00 G) G ?_;intro v6 M w H O hR;try dsimp only at hR
 obtain rfl:=hR;refine AS G G (q04 [_,_] H G G G Ku Ts28 G Kf Kf (q00 G) ?_);intro w H;refine NL (TN (RT ?_));obtain⟨M,O,U,H⟩:=H.freezeRow (v:=V) (enc:=encB) (t:=5) Kv;obtain rfl:=oI h;exact q0t G G ⟨_,G,H.loadAgg Km Ta28 Ts28 Kf⟩ H.ext (⟨_,G,U⟩)
theorem Y02 {p0:Int}{u:Int}{r:(Int × Int)}(h:Y03 p0 u=some r):Ct Tryz.prog 24 [I p0,I u] (fun M=>True) (fun v M=>v=Value.agg #[I r.1,I r.2]):=by
 refine Ct.of Tryz.func24 (enters Tryz.func24 Kr G) G G G ?_;intro J M0 H hp;unfold Y03 at h;refine SQ (RG (q09 [_,_] H Tz28 G (q00 G) G ?_));intro E w H;refine NL (TN (SQ (RG (MV G G (MV G G (ST (q0v [I p0,I u] Tu28 Tz28 (xplaces28 Tu28) G G) G (q04 [_,_] H G G G Ku Ts28 G Kf Kf (q00 G) ?_)))))));intro w H;refine NL (TN (RT ?_));obtain rfl:=oI h;exact q07 G ⟨_,G,H.loadAgg Km Ta28 Ts28 Kf⟩ H.ext G
theorem Y5L {p0:Ls}{Z:Value}{r:(Ls × (Int × Int))}(h:Y38 p0=some r):Ct Tryz.prog 174 [Z] (fun M=>Sl M encB Z p0) (fun v M =>∃x0,v=Value.tuple #[x0,Value.agg #[I r.2.1,I r.2.2]]/\Sl M encB x0 r.1):=by
 refine Ct.of Tryz.func174 (enters Tryz.func174 Kr G) G G G ?_;intro w0 M0 H hp;have E:=hp;unfold Y38 at h;refine SQ (RG (AS G G (q09 [_,_] H Tz28 G (q00 G) G ?_)));intro K w H;refine NL (TN (SQ (SQ (RG (MV G G (ST (q0o Tu23 E G) G (ST (q0C G G) G (NL (TN ?_)))))))));refine CB (p:=(24000:Int)<(p0.length:Int)) G (fun a2=>?_) fun a2=>?_
 .
  rw[if_pos a2] at h;refine SQ ?_;obtain⟨⟨n2,n3⟩,az,h⟩:=bnd h;try dsimp only at h
  refine RG (q02 H (Y02 az) G trivial (q00 G) G ?_);intro b6 M w H J hR;try dsimp only at hR
  obtain rfl:=hR;refine AS G G (q04 [_,_] H G G G Ku Ts28 G Kf Kf (q00 G) ?_);intro w H;refine NL (TN (RT ?_));obtain rfl:=oI h;exact q0t G G ⟨_,G,H.loadAgg Km Ta28 Ts28 Kf⟩ H.ext (⟨_,G,q0U _ _⟩)
 rw[if_neg a2] at h;refine SK (TN (SQ (RG (AS G G (NL (TN (SQ (RG (AS G G (AS G G (NL (TN (SQ (SQ (RG (MV G G (ST (q0o Tu23 E G) G (MV G G (NL (TN ?_))))))))))))))))))));obtain⟨o5,u,h⟩:=bnd h;refine q0c (fun e w =>∃(l8:Ls) (v9:Value) (M:Mem),e=[(3,ptr K 0),(4,v9)]/\St w0 M0 M [.blk K (.cells #[I 0,I 0] 28),RowI 5 encB v9 l8] w/\some l8=some o5) [] ?_ ?_ (trivial)
 .
  refine BL ?_;replace H:=H.newRow 5 encB;refine q0l (fun m e w =>∃(a0:Ls) (a3:Value) (a4:Int) (a5:Int) (a1:Int) (M:Mem),e=[(3,ptr K 0),(4,a3),(5,I a4),(6,I a5),(14,Z),(15,I (p0.length:Int)),(16,I a1)]/\St w0 M0 M [.blk K (.cells #[I 0,I 0] 28),RowI 5 encB a3 a0] w/\Sl M encB Z p0/\Y0u p0 m a0 a4 a5 a1=some o5) FU [(3,_),(4,_),(5,_),(6,_),(14,_),(15,_),(16,_)] ⟨rfl,rfl,rfl,rfl,rfl,rfl,rfl,trivial⟩ ⟨_,_,_,_,_,_,rfl,(H.pick (L':=[.blk K (.cells #[I 0,I 0] 28),RowI 5 encB (Value.slice none 0 0) []]) Kp),E,u⟩ ?_;rintro N e w ⟨a0,a3,a4,a5,a1,M,rfl,H,E,u⟩;rcases N with _|N
  . rw[Y0u] at u;cases u
  rw[Y0u] at u;refine SQ (RG (ST (q0m G G) G (NL (TN (SQ ?_)))));refine CB (p:=a1<(p0.length:Int)) G (fun O=>?_) fun O=>?_
  .
   rw[if_pos O] at u;refine SK (TN (SQ (BL (SQ ?_))));obtain⟨am,a7,u⟩:=bnd u;obtain⟨b5,b7,ao,ap⟩:=E.atC a7;refine RG (ST (q0s ao Tu23 Ts5 G G) G (ST (q0n H G ap Ta5) G (AS G G (NL (TN (SQ (SQ (RG (MV G G (ST (q0L (c:=am) (d:=61) G G) G (NL (TN ?_))))))))))));refine CB (p:=am=61) G (fun U=>?_) fun U=>?_
   .
    rw[if_pos U] at u;refine q0j (q03 (q1r G (q03 (q03 (q0b ?_)))));exact MN ⟨_,_,_,G,H,u⟩
   rw[if_neg U] at u;refine SK (TN (SQ ?_));obtain⟨b1,aq,u⟩:=bnd u;refine RG (WR.litC xty23 Tu5 ([65,66,67,68,69,70,71,72,73,74,75,76,77,78,79,80,81,82,83,84,85,86,87,88,89,90,97,98,99,100,101,102,103,104,105,106,107,108,109,110,111,112,113,114,115,116,117,118,119,120,121,122,48,49,50,51,52,53,54,55,56,57,43,47]:Ls) H G Kf G G (q00 G) G (fun _=>q00 G) G ?_);intro b8 M w H J ar;replace E:=E.mono J;refine MV G G (q02 H (Y3B aq) G (ar) (q00 G) G ?_);intro b9 M w H J hR;replace E:=E.mono J;obtain rfl:=hR;refine AS G G (NL (TN (SQ (SQ (RG (MV G G (ST (q0m G G) G (NL (TN ?_)))))))));refine CB (p:=b1<(0:Int)) G (fun V=>?_) fun V=>?_
   .
    rw[if_pos V] at u;refine q0j (q03 (q0b (TN ?_)));obtain⟨ba,a8,u⟩:=bnd u;refine RG (ST (q0e G G a8) G (MV G G (NL ?_)));exact AG N ⟨_,_,_,_,_,_,G,H,E,u⟩ (l06 _)
   rw[if_neg V] at u;refine SK (TN (SQ ?_));obtain⟨bb,a9,u⟩:=bnd u;obtain⟨bc,aa,u⟩:=bnd u;obtain⟨b2,ab,u⟩:=bnd u;refine RG (MV G G (ST (Ex.shlI G G a9) G (MV G G (ST (Ex.orI G G aa) G (MV G G (ST (q0e G G ab) G (AS G G (AS G G (NL (TN (SQ (RG (MV G G (ST (q0R G G) G (NL (TN ?_))))))))))))))));refine CB (p:=(8:Int)<=b2) G (fun Y=>?_) fun Y=>?_
   .
    rw[if_pos Y] at u;refine SQ ?_;obtain⟨bd,ac,u⟩:=bnd u;refine RG (MV G G (ST (q0K G G ac) G (AS G G (NL (TN (SQ ?_))))));obtain⟨b3,ad,u⟩:=bnd u;obtain⟨be,ae,u⟩:=bnd u;refine RG (MV G G (MV G G (MV G G (ST (Ex.shrI G G ad) G (ST (Ex.convU8C Tu3 Tu5 G) G (q0O (enc:=encB) xty23 ([(ub8 b3)]:Ls) H G Kf (fun _=>G) G G (q00 G) G ?_))))));intro bg M w H J au;replace E:=E.mono J;refine q0H (l:=a0) xty23 G (fun _=>G) H G (fun _=>by repeat first|exact .head|apply Upd.tail) G (au) ae (q00 G) G ?_;intro bh w H;refine AS G G (NL (TN ?_));obtain⟨bi,ah,u⟩:=bnd u;obtain⟨bj,ai,u⟩:=bnd u;obtain⟨bm,aj,u⟩:=bnd u;refine RG (MV G G (MV G G (ST (Ex.shlI G G ah) G (ST (q0K G G ai) G (ST (Ex.andI G G aj) G (AS G G (NL (IB (TN ?_)))))))));obtain⟨bn,ak,u⟩:=bnd u;refine RG (ST (q0e G G ak) G (MV G G (NL ?_)));exact AG N ⟨_,_,_,_,_,_,G,H,E,u⟩ (l06 _)
   rw[if_neg Y] at u;refine SK (IB (TN ?_));obtain⟨bo,al,u⟩:=bnd u;refine RG (ST (q0e G G al) G (MV G G (NL ?_)));exact AG N ⟨_,_,_,_,_,_,G,H,E,u⟩ (l06 _)
  rw[if_neg O] at u;refine q0j (q03 (q03 (q0b ?_)));exact MN ⟨_,_,_,G,H,u⟩
 rintro e w ⟨l8,v9,M,rfl,H,b4⟩;obtain rfl:=oI b4;refine TN (SQ ?_);obtain⟨⟨bp,bq⟩,av,h⟩:=bnd h;try dsimp only at h
 refine RG (MV G G (q02 H (Y07 av) G trivial (q00 G) G ?_));intro br M w H J hR;try dsimp only at hR
 obtain rfl:=hR;refine AS G G (q04 [_,_] H G G G Ku Ts28 G Kf Kf (q00 G) ?_);intro w H;refine NL (TN (RT ?_));obtain⟨M,J,aw,H⟩:=H.freezeRow (v:=v9) (enc:=encB) (t:=5) Kv;obtain rfl:=oI h;exact q0t G G ⟨_,G,H.loadAgg Km Ta28 Ts28 Kf⟩ H.ext (⟨_,G,aw⟩)
theorem Y5m {p0:Ls}{J:Ls}{u:Value}{E:Value}{r:Bool}(h:Y2Q p0 J=some r):Ct Tryz.prog 35 [u,E] (fun M=>Sl M encB u p0/\Sl M encB E J) (fun v M=>v=Value.bool r):=by
 refine Ct.of Tf35 (enters Tf35 Kr G) G G G ?_;intro O M0 H hp;obtain⟨K,N⟩:=hp;unfold Y2Q at h;refine SQ (RG (AS G G (NL (TN (SQ (RG (MV G G (ST (q0Y Tu23 Tu5 Tu9 H (K) G) G (MV G G (ST (q0Y Tu23 Tu5 Tu9 H (N) G) G (ST (q0B G G) G (AS G G (NL (TN (RT ?_)))))))))))))));obtain rfl:=oI h;exact q07 G G H.ext G
theorem Y4l {p0:Ls}{V:Ls}{O:Value}{U:Value}{r:Bool}(h:Y1l p0 V=some r):Ct Tryz.prog 109 [O,U] (fun M=>Sl M encB O p0/\Sl M encB U V) (fun v M=>v=Value.bool r):=by
 refine Ct.of Tryz.func109 (enters Tryz.func109 Kr G) G G G ?_;intro w0 M0 H hp;obtain⟨E,K⟩:=hp;unfold Y1l at h;refine SQ (RG (AS G G (NL (TN (SQ ?_)))));obtain⟨o1,u,h⟩:=bnd h;refine q0c (fun e w =>∃(Y:Bool) (M:Mem),e=[(4,Value.bool Y)]/\St w0 M0 M [] w/\some Y=some o1) [] ?_ ?_ (trivial)
 .
  refine RG (MV G G (ST (q0o Tu23 E G) G (MV G G (ST (q0o Tu23 K G) G ?_))));by_cases J:(V.length:Int)<=(p0.length:Int)
  .
   rw[if_pos J] at u;obtain⟨n5,Z,u⟩:=bnd u;obtain⟨l6,N,u⟩:=bnd u;obtain⟨b7,a0,u⟩:=bnd u;refine DT J (q0R G G) G (MV G G (SG (q06 G) G G G (SG (q06 G) G G G (SG (q0o Tu23 E G) G G G (SG (q06 G) G G G (SG (q0o Tu23 K G) G G G (SG (q0K G G Z) G G G (SG (q1E Tu23 Ts5 (E) G G N) G G G (SG (q06 G) G G G (q02 H (Y5m a0) G ⟨(E.subV N),K⟩ (q0h G G G) G ?_))))))))));intro a4 M w H a5 hR;obtain rfl:=hR;refine PT G G G (AS G G (NL ?_));exact MN ⟨_,_,G,H,u⟩
  rw[if_neg J] at u;refine DF J (q0R G G) G (MV G G (q0i 9 G G (PF G G G (AS G G (NL ?_)))));exact MN ⟨_,_,G,H,u⟩
 rintro e w ⟨Y,M,rfl,H,q9⟩;obtain rfl:=oI q9;refine TN (RT ?_);obtain rfl:=oI h;exact q07 G G H.ext G
theorem Y3o {p0:Ls}{Y:Ls}{N:Value}{O:Value}{r:Ls}(h:Y0r p0 Y=some r):Ct Tryz.prog 69 [N,O] (fun M=>Sl M encB N p0/\Sl M encB O Y) (fun v M=>Sl M encB v r):=by
 refine Ct.of Tryz.func69 (enters Tryz.func69 Kr G) G G G ?_;intro w0 M0 H hp;obtain⟨u,E⟩:=hp;unfold Y0r at h;refine SQ (RG (AS G G (NL (TN (SQ (SQ ?_))))));obtain⟨b1,Z,h⟩:=bnd h;refine RG (MV G G (MV G G (q02 H (Y4l Z) G ⟨u,E⟩ (q00 G) G ?_)));intro v7 M w H U hR;replace u:=u.mono U;replace E:=E.mono U;obtain rfl:=hR;refine NL (TN ?_);refine q0a G (fun J=>?_) (fun J=>?_)
 .
  subst J;rw[if_pos rfl] at h;refine SQ ?_;obtain⟨n4,V,h⟩:=bnd h;obtain⟨l5,K,h⟩:=bnd h;refine RG (MV G G (MV G G (ST (q0o Tu23 u G) G (MV G G (ST (q0o Tu23 E G) G (ST (q0K G G V) G (ST (q1K Tu23 Ts5 (u) G G K) G (AS G G (NL (TN (RT ?_)))))))))));obtain rfl:=oI h;exact q07 G G H.ext (u.subV K)
 subst J;rw[if_neg l00] at h;refine SK (TN (SQ (RG (MV G G (AS G G (NL (TN (RT ?_))))))));obtain rfl:=oI h;exact q07 G G H.ext u
theorem Y4V {p0:Ls}{U:UInt8}{a3:Value}{r:Ls}(h:Y3k p0 U=some r):Ct Tryz.prog 234 [a3,encB U] (fun M=>Sl M encB a3 p0) (fun v M=>Sl M encB v r):=by
 refine Ct.of Tryz.func234 (enters Tryz.func234 Kr G) G G G ?_;intro w0 M0 H hp;have a9:=hp;unfold Y3k at h;refine SQ (RG (AS G G (NL (TN (SQ ?_)))));obtain⟨o1,E,h⟩:=bnd h;refine q0c (fun e w =>∃(l3:Ls) (v4:Value) (M:Mem),e=[(0,v4)]/\St w0 M0 M [] w/\Sl M encB v4 l3/\some l3=some o1) [] ?_ ?_ (trivial)
 .
  refine BL (q0l (fun m e w =>∃(V:Ls) (Y:Value) (M:Mem),e=[(0,Y),(1,encB U)]/\St w0 M0 M [] w/\Sl M encB Y V/\Y1t U m V=some o1) FU [(0,_),(1,_)] ⟨rfl,rfl,trivial⟩ ⟨_,_,_,rfl,H,a9,E⟩ ?_);rintro m9 e w ⟨V,Y,M,rfl,H,u,E⟩;rcases m9 with _|m9
  . rw[Y1t] at E;cases E
  rw[Y1t] at E;refine SQ (SQ ?_);obtain⟨ab,J,E⟩:=bnd E;refine q0c (fun e w =>∃(Z:Bool) (M:Mem),e=[(0,Y),(1,encB U),(17,Value.bool Z)]/\St w0 M0 M [] w/\Sl M encB Y V/\some Z=some ab) [] ?_ ?_ (trivial)
  .
   refine RG (MV G G (ST (q0o Tu23 u G) G ?_));by_cases K:(0:Int)<(V.length:Int)
   .
    rw[if_pos K] at J;obtain⟨aj,a0,J⟩:=bnd J;obtain⟨ac,a1,J⟩:=bnd J;obtain⟨ai,ak,a7,a8⟩:=u.atC a1;refine DT K (q0C G G) G (MV G G (SG (q06 G) G G G (SG (q06 G) G G G (SG (q0o Tu23 u G) G G G (SG (q0K G G a0) G G G (SG (q0s a7 Tu23 Ts5 G G) G G G (SG (q0n H G a8 Ta5) G G G (SG (q06 G) G G G (SG (q0L (c:=ac) (d:=U) G G) G G G (PT G G G (NL ?_)))))))))));exact MN ⟨_,_,G,H,u,J⟩
   rw[if_neg K] at J;refine DF K (q0C G G) G (MV G G (q0i 8 G G (PF G G G (NL ?_))));exact MN ⟨_,_,G,H,u,J⟩
  rintro e w ⟨Z,M,rfl,H,u,ad⟩;obtain rfl:=oI ad;refine TN ?_;refine q0a G (fun N=>?_) (fun N=>?_)
  .
   subst N;rw[if_pos rfl] at E;refine SK (TN (BL ?_));obtain⟨al,a2,E⟩:=bnd E;obtain⟨am,O,E⟩:=bnd E;refine RG (MV G G (MV G G (ST (q0o Tu23 u G) G (ST (q0K G G a2) G (ST (q1K Tu23 Ts5 (u) G G O) G (AS G G (NL (IB ?_))))))));exact AG m9 ⟨_,_,_,G,H,(u.subV O),E⟩ (l06 _)
  subst N;rw[if_neg l00] at E;refine q0j (q03 (q03 (q0b ?_)));exact MN ⟨_,_,_,G,H,u,E⟩
 rintro e w ⟨l3,v4,M,rfl,H,ae,ah⟩;obtain rfl:=oI ah;refine TN (SQ (RG (MV G G (AS G G (NL (TN (RT ?_)))))));obtain rfl:=oI h;exact q07 G G H.ext ae
theorem Y55 {p0:Ls}{r:(List Bool × Bool)}(h:Y2N p0=some r):Ct Tryz.prog 235 [S p0] (fun M=>True) (fun v M=>v=Value.tuple #[Value.agg (List.map encBo r.1).toArray,Value.bool r.2]):=by
 refine Ct.of Tryz.func235 (enters Tryz.func235 Kr G) G G G ?_;intro w0 M0 H hp;unfold Y2N at h;refine SQ (RG (q09 (List.map encBo (List.replicate 256 false:List Bool)) H Tryz.zeroValue307 Kr (q00 G) G ?_));intro E w H;refine AS G G (NL (TN (SQ (SQ (RG (AS G G (NL (TN ?_))))))));obtain⟨o1,u,h⟩:=bnd h;refine q0c (fun e w =>∃(l3:List Bool) (M:Mem),e=[(2,ptr E 0)]/\St w0 M0 M [.blk E (.cells (List.map encBo l3).toArray 307)] w/\some (.inl l3)=some o1) [] ?_ ?_ (trivial)
 .
  refine BL (q0l (fun m e w =>∃(N:List Bool) (O:Int) (M:Mem),e=[(0,S p0),(2,ptr E 0),(4,I O)]/\St w0 M0 M [.blk E (.cells (List.map encBo N).toArray 307)] w/\Y1B p0 m N O=some o1) FU [(0,_),(2,_),(4,_)] ⟨rfl,rfl,rfl,trivial⟩ ⟨_,_,_,rfl,H,u⟩ ?_);rintro m6 e w ⟨N,O,M,rfl,H,u⟩;rcases m6 with _|m6
  . rw[Y1B] at u;cases u
  rw[Y1B] at u;refine SQ (SQ (RG (MV G G (MV G G (ST (q0g Tu9 G) G (ST (q0m G G) G (NL (TN ?_))))))));refine CB (p:=O<(p0.length:Int)) G (fun J=>?_) fun J=>?_
  .
   rw[if_pos J] at u;refine SK (TN (SQ (BL (SQ ?_))));obtain⟨c8,a8,u⟩:=bnd u;refine RG (MV G G (MV G G (ST (q0p Tu9 G G a8) G (AS G G (NL (TN (SQ (SQ (RG (MV G G (ST (q1g (i:=c8.toNat) (j:=128) G G) G (NL (TN ?_)))))))))))));refine CB (p:=128<=c8.toNat) G (fun K=>?_) fun K=>?_
   .
    rw[if_pos K] at u;refine SQ ?_;obtain⟨ac,U,u⟩:=bnd u;obtain⟨ah,V,u⟩:=bnd u;obtain⟨ai,Y,u⟩:=bnd u;refine RG (ST (Ex.loadAggA H G Km Ta307 Ts307 U) G ?_);refine q1z (l2:=ac) H G G (fun _=>G) (fun _=>by repeat first|exact .head|apply Upd.tail) V Y Ts307 (q00 G) ?_;intro w H;refine AS G G (NL (TN (RT ?_)));obtain⟨aj,Z,u⟩:=bnd u;obtain rfl:=oI u;try dsimp only at h
    obtain rfl:=oI h;exact q0t G ⟨_,G,H.loadAggA Km Ta307 Ts307 Z⟩ G H.ext G
   rw[if_neg K] at u;refine SK (TN ?_);obtain⟨ak,a0,u⟩:=bnd u;obtain⟨al,a1,u⟩:=bnd u;refine RG (MV G G (ST (Ex.idxArrC (l:=N) Tryz.underlying307 Ts4 G G a0) G (WR.storeArr (a:=true) H G G ⟨G,G⟩ (fun _=>by repeat first|exact .head|apply Upd.tail) a1 Ts4 (q00 G) ?_)));intro w H;refine NL (IB (TN ?_));obtain⟨am,a2,u⟩:=bnd u;refine RG (MV G G (ST (q0e G G a2) G (AS G G (NL ?_))));exact AG m6 ⟨_,_,_,G,H,u⟩ (l06 _)
  rw[if_neg J] at u;refine q0j (q03 (q03 (q0b ?_)));exact MN ⟨_,_,G,H,u⟩
 rintro e w ⟨l3,M,rfl,H,ad⟩;obtain rfl:=oI ad;try dsimp only at h
 refine TN (SQ ?_);obtain⟨ae,a3,h⟩:=bnd h;obtain⟨an,a4,h⟩:=bnd h;obtain⟨ao,a5,h⟩:=bnd h;refine RG (ST (Ex.loadAggA H G Km Ta307 Ts307 a3) G ?_);refine q1z (l2:=ae) H G G (fun _=>G) (fun _=>by repeat first|exact .head|apply Upd.tail) a4 a5 Ts307 (q00 G) ?_;intro w H;refine AS G G (NL (TN (RT ?_)));obtain⟨ap,a6,h⟩:=bnd h;obtain rfl:=oI h;exact q0t G ⟨_,G,H.loadAggA Km Ta307 Ts307 a6⟩ G H.ext G
theorem Y4j {p0:List Bool}{J:UInt8}{E:Nat}{r:Bool}(h:Y1m p0 J=some r):Ct Tryz.prog 252 [ptr E 0,encB J] (fun M=>PtM M E (.cells (List.map encBo p0).toArray 307)) (fun v M=>v=Value.bool r):=by
 refine Ct.of Tryz.func252 (enters Tryz.func252 Kr G) G G G ?_;intro N M0 H hp;have K:=hp;unfold Y1m at h;refine SQ (RG (AS G G (NL (TN (SQ ?_)))));obtain⟨O,u,h⟩:=bnd h;refine RG (MV G G (MV G G (ST (q0S G) G (ST (Ex.idxArrC (l:=p0) Tryz.underlying307 Ts4 G G u) G (ST (Ex.loadArrM H G K u Ta4) G (AS G G (NL (TN (RT ?_)))))))));obtain rfl:=oI h;exact q07 G G H.ext G
theorem Y4M {p0:Ls}{V:List Bool}{a2:Value}{O:Nat}{r:Ls}(h:Y2l p0 V=some r):Ct Tryz.prog 236 [a2,ptr O 0] (fun M=>Sl M encB a2 p0/\PtM M O (.cells (List.map encBo V).toArray 307)) (fun v M=>Sl M encB v r):=by
 refine Ct.of Tryz.func236 (enters Tryz.func236 Kr G) G G G ?_;intro w0 M0 H hp;obtain⟨ac,K⟩:=hp;unfold Y2l at h;refine SQ (RG (AS G G (NL (TN (SQ ?_)))));obtain⟨o1,u,h⟩:=bnd h;refine q0c (fun e w =>∃(l3:Ls) (v4:Value) (M:Mem),e=[(0,v4)]/\St w0 M0 M [] w/\Sl M encB v4 l3/\some l3=some o1) [] ?_ ?_ (trivial)
 .
  refine BL (q0l (fun m e w =>∃(Y:Ls) (v7:Value) (M:Mem),e=[(0,v7),(1,ptr O 0)]/\St w0 M0 M [] w/\Sl M encB v7 Y/\PtM M O (.cells (List.map encBo V).toArray 307)/\Y0z V m Y=some o1) FU [(0,_),(1,_)] ⟨rfl,rfl,trivial⟩ ⟨_,_,_,rfl,H,ac,K,u⟩ ?_);rintro m9 e w ⟨Y,v7,M,rfl,H,E,K,u⟩;rcases m9 with _|m9
  . rw[Y0z] at u;cases u
  rw[Y0z] at u;refine SQ (SQ (RG (MV G G (ST (q0o Tu23 E G) G (ST (q0C G G) G (NL (TN ?_)))))));refine CB (p:=(0:Int)<(Y.length:Int)) G (fun N=>?_) fun N=>?_
  .
   rw[if_pos N] at u;refine SK (TN (BL (SQ (SQ ?_))));obtain⟨aj,Z,u⟩:=bnd u;obtain⟨ak,a0,u⟩:=bnd u;obtain⟨ai,al,a8,a9⟩:=E.atC a0;obtain⟨a3,aa,u⟩:=bnd u;refine RG (MV G G (MV G G (MV G G (ST (q0o Tu23 E G) G (ST (q0K G G Z) G (ST (q0s a8 Tu23 Ts5 G G) G (ST (q0n H G a9 Ta5) G (q02 H (Y4j aa) G (K) (q00 G) G ?_))))))));intro am M w H a4 hR;replace E:=E.mono a4;replace K:=K.mono a4;obtain rfl:=hR;refine ST (q0y G) G (NL (TN ?_));refine q0a G (fun J=>?_) (fun J=>?_)
   .
    replace J:a3=false:=by simpa using J
    subst J;rw[if_neg l00] at u;refine q0j (q03 (q1r G (q03 (q0b ?_))));exact MN ⟨_,_,_,G,H,E,u⟩
   replace J:a3=true:=by simpa using J
   subst J;rw[if_pos rfl] at u;refine SK (TN ?_);obtain⟨an,a1,u⟩:=bnd u;obtain⟨ao,U,u⟩:=bnd u;refine RG (MV G G (MV G G (ST (q0o Tu23 E G) G (ST (q0K G G a1) G (ST (q1K Tu23 Ts5 (E) G G U) G (AS G G (NL (IB ?_))))))));exact AG m9 ⟨_,_,_,G,H,(E.subV U),K,u⟩ (l06 _)
  rw[if_neg N] at u;refine q0j (q03 (q03 (q0b ?_)));exact MN ⟨_,_,_,G,H,E,u⟩
 rintro e w ⟨l3,v4,M,rfl,H,ae,ah⟩;obtain rfl:=oI ah;refine TN (SQ (RG (MV G G (AS G G (NL (TN (RT ?_)))))));obtain rfl:=oI h;exact q07 G G H.ext ae
theorem Y5A {p0:Ls}{Y:Ls}{E:Value}{r:Ls}(h:Y2R p0 Y=some r):Ct Tryz.prog 209 [E,S Y] (fun M=>Sl M encB E p0) (fun v M=>Sl M encB v r):=by
 refine Ct.of Tryz.func209 (enters Tryz.func209 Kr G) G G G ?_;intro w0 M0 H hp;have u:=hp;unfold Y2R at h;refine SQ (RG (AS G G (NL (TN (SQ (SQ ?_))))));obtain⟨o1,e2,h⟩:=bnd h;refine q0c (fun e w =>∃(b3:Bool) (M:Mem),e=[(0,E),(1,S Y),(13,Value.bool b3)]/\St w0 M0 M [] w/\Sl M encB E p0/\some b3=some o1) [] ?_ ?_ (trivial)
 .
  refine RG (MV G G (ST (q0o Tu23 u G) G ?_));by_cases U:(p0.length:Int)=(0:Int)
  .
   rw[if_pos U] at e2;refine DT U (q0u G G) G (MV G G (GT G G G (GT G G G (PT G G G (NL ?_)))));exact MN ⟨_,_,G,H,u,e2⟩
  rw[if_neg U] at e2;refine DF U (q0u G G) G (MV G G (SG (q06 G) G G G (SG (q0B G G) G G G (PF G G G (NL ?_)))));exact MN ⟨_,_,G,H,u,e2⟩
 rintro e w ⟨b3,M,rfl,H,u,q5⟩;obtain rfl:=oI q5;refine TN ?_;refine q0a G (fun Z=>?_) (fun Z=>?_)
 .
  subst Z;rw[if_pos rfl] at h;refine SQ (RG (MV G G (AS G G (NL (TN (RT ?_))))));obtain rfl:=oI h;exact q07 G G H.ext u
 subst Z;rw[if_neg l00] at h;refine SK (TN (SQ (SQ ?_)));obtain⟨o7,V,h⟩:=bnd h;refine q0c (fun e w =>∃(b9:Bool) (M:Mem),e=[(0,E),(1,S Y),(22,Value.bool b9)]/\St w0 M0 M [] w/\Sl M encB E p0/\some b9=some o7) [] ?_ ?_ (trivial)
 .
  refine RG (MV G G (ST (q0g Tu9 G) G ?_));by_cases J:(Y.length:Int)=(1:Int)
  .
   rw[if_pos J] at V;obtain⟨ae,a1,V⟩:=bnd V;refine DT J (q0u G G) G (MV G G (SG (q06 G) G G G (SG (q0p Tu9 G G a1) G G G (SG (Ex.lssB (i:=ae.toNat) (j:=128) G G) G G G (PT G G G (NL ?_))))));exact MN ⟨_,_,G,H,u,V⟩
  rw[if_neg J] at V;refine DF J (q0u G G) G (MV G G (q0i 3 G G (PF G G G (NL ?_))));exact MN ⟨_,_,G,H,u,V⟩
 rintro e w ⟨b9,M,rfl,H,u,ah⟩;obtain rfl:=oI ah;refine TN ?_;refine q0a G (fun N=>?_) (fun N=>?_)
 .
  subst N;rw[if_pos rfl] at h;refine SQ ?_;obtain⟨an,a2,h⟩:=bnd h;obtain⟨ao,a9,h⟩:=bnd h;refine RG (MV G G (MV G G (ST (q0p Tu9 G G a2) G (q02 H (Y4V a9) G (u) (q00 G) G ?_))));intro ap M w H K hR;have a3:=hR;refine AS G G (NL (TN (RT ?_)));obtain rfl:=oI h;exact q07 G G H.ext a3
 subst N;rw[if_neg l00] at h;refine SK (TN (SQ (SQ ?_)));obtain⟨⟨ai,aq⟩,aa,h⟩:=bnd h;try dsimp only at h
 obtain⟨ar,a4,h⟩:=bnd h;obtain⟨au,a5,h⟩:=bnd h;refine RG (MV G G (q02 H (Y55 aa) G trivial (q00 G) G ?_));intro av M w H K hR;replace u:=u.mono K;try dsimp only at hR
 obtain rfl:=hR;refine MV G G (ST (q05 G G) G (ST (q05 G G) G (q09 (List.map encBo (List.replicate 256 false:List Bool)) H Tryz.zeroValue307 Kr (q00 G) G ?_)));intro aj w H;refine q1z (l2:=ai) H G G (fun _=>G) (fun _=>by repeat first|exact .head|apply Upd.tail) a4 a5 Ts307 (q00 G) ?_;intro w H;refine AS G G (NL (TN (SQ (RG (MV G G (NL (TN ?_)))))));refine q0a G (fun O=>?_) (fun O=>?_)
 .
  subst O;rw[if_pos rfl] at h;refine SQ ?_;obtain⟨aw,ab,h⟩:=bnd h;refine RG (MV G G ?_);obtain⟨M,K,ac,H⟩:=H.freezeVar (b:=aj) Kv;replace u:=u.mono K;refine q02 H (Y4M ab) G ⟨u,ac⟩ (q00 G) G ?_;intro ax M w H K hR;have a6:=hR;refine AS G G (NL (TN (RT ?_)));obtain rfl:=oI h;exact q07 G G H.ext a6
 subst O;rw[if_neg l00] at h;cases h
theorem Y5U {p0:UInt8}{r:(UInt8 × Bool)}(h:Y3N p0=some r):Ct Tryz.prog 255 [encB p0] (fun M=>True) (fun v M=>v=Value.tuple #[encB r.1,Value.bool r.2]):=by
 refine Ct.of Tryz.func255 (enters Tryz.func255 Kr G) G G G ?_;intro w0 M0 H hp;unfold Y3N at h;refine SQ (RG (AS G G (AS G G (NL (TN (SQ (BL (SQ ?_))))))));obtain⟨o1,Y,h⟩:=bnd h;refine q0c (fun e w =>∃(b3:Bool) (M:Mem),e=[(0,encB p0),(4,Value.bool b3)]/\St w0 M0 M [] w/\some b3=some o1) [] ?_ ?_ (trivial)
 .
  by_cases N:48<=p0.toNat
  .
   rw[if_pos N] at Y;refine RG (MV G G (DT N (q1g (i:=p0.toNat) (j:=48) G G) G (MV G G (SG (q06 G) G G G (SG (Ex.leqB (i:=p0.toNat) (j:=57) G G) G G G (PT G G G (AS G G (NL ?_))))))));exact MN ⟨_,_,G,H,Y⟩
  rw[if_neg N] at Y;refine RG (MV G G (DF N (q1g (i:=p0.toNat) (j:=48) G G) G (MV G G (GF G G G (GF G G G (PF G G G (AS G G (NL ?_))))))));exact MN ⟨_,_,G,H,Y⟩
 rintro e w ⟨b3,M,rfl,H,q5⟩;obtain rfl:=oI q5;refine TN ?_;refine q0a G (fun U=>?_) (fun U=>?_)
 .
  subst U;rw[if_pos rfl] at h;refine SQ (RG (MV G G (ST (Ex.subB (c:=p0) (d:=48) G G) G (AS G G (AS G G (NL (TN (RT ?_))))))));obtain rfl:=oI h;exact q0t G G G H.ext G
 subst U;rw[if_neg l00] at h;refine SQ ?_;obtain⟨o7,Z,h⟩:=bnd h;refine q0c (fun e w =>∃(b9:Bool) (M:Mem),e=[(0,encB p0),(13,Value.bool b9)]/\St w0 M0 M [] w/\some b9=some o7) [] ?_ ?_ (trivial)
 .
  by_cases u:65<=p0.toNat
  .
   rw[if_pos u] at Z;refine RG (MV G G (DT u (q1g (i:=p0.toNat) (j:=65) G G) G (MV G G (SG (q06 G) G G G (SG (Ex.leqB (i:=p0.toNat) (j:=70) G G) G G G (PT G G G (AS G G (NL ?_))))))));exact MN ⟨_,_,G,H,Z⟩
  rw[if_neg u] at Z;refine RG (MV G G (DF u (q1g (i:=p0.toNat) (j:=65) G G) G (MV G G (GF G G G (GF G G G (PF G G G (AS G G (NL ?_))))))));exact MN ⟨_,_,G,H,Z⟩
 rintro e w ⟨b9,M,rfl,H,a3⟩;obtain rfl:=oI a3;refine TN ?_;refine q0a G (fun J=>?_) (fun J=>?_)
 .
  subst J;rw[if_pos rfl] at h;refine SQ (RG (MV G G (ST (Ex.subB (c:=p0) (d:=65) G G) G (ST (Ex.addB (c:=(p0-(65:UInt8))) (d:=10) G G) G (AS G G (AS G G (NL (TN (RT ?_)))))))));obtain rfl:=oI h;exact q0t G G G H.ext G
 subst J;rw[if_neg l00] at h;refine SQ ?_;obtain⟨a4,O,h⟩:=bnd h;refine q0c (fun e w =>∃(V:Bool) (M:Mem),e=[(0,encB p0),(23,Value.bool V)]/\St w0 M0 M [] w/\some V=some a4) [] ?_ ?_ (trivial)
 .
  by_cases E:97<=p0.toNat
  .
   rw[if_pos E] at O;refine RG (MV G G (DT E (q1g (i:=p0.toNat) (j:=97) G G) G (MV G G (SG (q06 G) G G G (SG (Ex.leqB (i:=p0.toNat) (j:=102) G G) G G G (PT G G G (AS G G (NL ?_))))))));exact MN ⟨_,_,G,H,O⟩
  rw[if_neg E] at O;refine RG (MV G G (DF E (q1g (i:=p0.toNat) (j:=97) G G) G (MV G G (GF G G G (GF G G G (PF G G G (AS G G (NL ?_))))))));exact MN ⟨_,_,G,H,O⟩
 rintro e w ⟨V,M,rfl,H,a5⟩;obtain rfl:=oI a5;refine TN ?_;refine q0a G (fun K=>?_) (fun K=>?_)
 .
  subst K;rw[if_pos rfl] at h;refine SQ (RG (MV G G (ST (Ex.subB (c:=p0) (d:=97) G G) G (ST (Ex.addB (c:=(p0-(97:UInt8))) (d:=10) G G) G (AS G G (AS G G (NL (TN (RT ?_)))))))));obtain rfl:=oI h;exact q0t G G G H.ext G
 subst K;rw[if_neg l00] at h;refine SK (IB (TN (SQ (RG (AS G G (AS G G (NL (TN (RT ?_)))))))));obtain rfl:=oI h;exact q0t G G G H.ext G
theorem Y5B {p0:Ls}{r:(UInt8 × Bool)}(h:Y2q p0=some r):Ct Tryz.prog 238 [S p0] (fun M=>True) (fun v M=>v=Value.tuple #[encB r.1,Value.bool r.2]):=by
 refine Ct.of Tryz.func238 (enters Tryz.func238 Kr G) G G G ?_;intro w0 M0 H hp;unfold Y2q at h;refine SQ (RG (AS G G (AS G G (NL (TN (SQ (SQ (RG (MV G G (ST (q0g Tu9 G) G (ST (q0m G G) G (NL (TN ?_)))))))))))));refine CB (p:=(p0.length:Int)<(2:Int)) G (fun E=>?_) fun E=>?_
 .
  rw[if_pos E] at h;refine SQ (RG (AS G G (AS G G (NL (TN (RT ?_))))));obtain rfl:=oI h;exact q0t G G G H.ext G
 rw[if_neg E] at h;refine SK (TN (SQ ?_));obtain⟨c2,N,h⟩:=bnd h;obtain⟨⟨U,b4⟩,V,h⟩:=bnd h;try dsimp only at h
 refine RG (MV G G (ST (q0p Tu9 G G N) G (q02 H (Y5U V) G trivial (q00 G) G ?_)));intro a5 M w H Y hR;try dsimp only at hR
 obtain rfl:=hR;refine MV G G (ST (q05 G G) G (ST (q05 G G) G (AS G G (AS G G (NL (TN (SQ ?_)))))));obtain⟨c6,O,h⟩:=bnd h;obtain⟨⟨c7,b8⟩,Z,h⟩:=bnd h;try dsimp only at h
 refine RG (MV G G (ST (q0p Tu9 G G O) G (q02 H (Y5U Z) G trivial (q00 G) G ?_)));intro a6 M w H Y hR;try dsimp only at hR
 obtain rfl:=hR;refine MV G G (ST (q05 G G) G (ST (q05 G G) G (AS G G (AS G G (NL (TN (SQ ?_)))))));obtain⟨a0,u,h⟩:=bnd h;refine q0c (fun e w =>∃(J:UInt8) (K:Bool) (M:Mem),e=[(2,encB J),(3,Value.bool K)]/\St w0 M0 M [] w/\some (J,K)=some a0) [] ?_ ?_ (trivial)
 .
  refine RG (MV G G (ST (Ex.shlB (c:=U) (m:=4) G G Dc) G (MV G G (ST (Ex.orB (c:=(UInt8.ofNat (U.toNat*2 ^ 4))) (d:=c7) G G) G (MV G G (MV G G ?_))))));rcases b4 with _|_
  .
   rw[if_neg l00] at u;refine GF G G G (PF G G G (AS G G (AS G G (NL ?_))));exact MN ⟨_,_,_,G,H,u⟩
  rw[if_pos rfl] at u;refine SG (q06 G) G G G (PT G G G (AS G G (AS G G (NL ?_))));exact MN ⟨_,_,_,G,H,u⟩
 rintro e w ⟨J,K,M,rfl,H,a1⟩;obtain rfl:=oI a1;try dsimp only at h
 refine TN (RT ?_);obtain rfl:=oI h;exact q0t G G G H.ext G
theorem quoted_plain_ct {p0:Ls}{K:Value}{r:Ls}(h:quoted_plain p0=some r):Ct Tryz.prog 210 [K] (fun M=>Sl M encB K p0) (fun v M=>Sl M encB v r):=by
 refine Ct.of Tryz.func210 (enters Tryz.func210 Kr G) G G G ?_;intro w0 M0 H hp;have u:=hp;unfold quoted_plain at h;refine SQ (RG (AS G G (NL (TN (SQ (RG (AS G G (NL (TN (SQ (SQ (RG (AS G G (NL (TN ?_)))))))))))))));obtain⟨o1,J,h⟩:=bnd h;refine q0c (fun e w =>∃(l4:Ls) (v5:Value) (M:Mem),e=[(3,v5)]/\St w0 M0 M [RowI 5 encB v5 l4] w/\some l4=some o1) [] ?_ ?_ (trivial)
 .
  refine BL ?_;replace H:=H.newRow 5 encB;refine q0l (fun m e w =>∃(l7:Ls) (v8:Value) (n9:Int) (M:Mem),e=[(0,K),(3,v8),(4,I n9)]/\St w0 M0 M [RowI 5 encB v8 l7] w/\Sl M encB K p0/\quoted_plain_L1 p0 m l7 n9=some o1) FU [(0,_),(3,_),(4,_)] ⟨rfl,rfl,rfl,trivial⟩ ⟨_,_,_,_,rfl,H,u,J⟩ ?_;rintro Y e w ⟨l7,v8,n9,M,rfl,H,u,J⟩;rcases Y with _|Y
  . rw[quoted_plain_L1] at J;cases J
  rw[quoted_plain_L1] at J;refine SQ (SQ (RG (MV G G (MV G G (ST (q0o Tu23 u G) G (ST (q0m G G) G (NL (TN ?_))))))));refine CB (p:=n9<(p0.length:Int)) G (fun O=>?_) fun O=>?_
  .
   rw[if_pos O] at J;refine SK (TN (SQ (BL (SQ (SQ ?_)))));obtain⟨al,aa,J⟩:=bnd J;obtain⟨b5,b7,ap,aq⟩:=u.atC aa;refine RG (MV G G (MV G G (ST (q0s ap Tu23 Ts5 G G) G (ST (q0n H G aq Ta5) G (ST (q0L (c:=al) (d:=61) G G) G (NL (TN ?_)))))));obtain⟨am,E,J⟩:=bnd J;refine q0c (fun e w =>∃(Z:Ls) (a1:Value) (a2:Int) (M:Mem),e=[(0,K),(3,a1),(4,I a2)]/\St w0 M0 M [RowI 5 encB a1 Z] w/\Sl M encB K p0/\some (.inl (Z,a2))=some am) [(1,fun e w =>∃(a3:Ls) (a4:Value) (a5:Int) (M:Mem),e=[(0,K),(3,a4),(4,I a5)]/\St w0 M0 M [RowI 5 encB a4 a3] w/\Sl M encB K p0/\some (.inr (a3,a5))=some am)] ?_ ?_ (⟨?_,trivial⟩)
   .
    refine CB (p:=al=61) G (fun U=>?_) fun U=>?_
    .
     rw[if_pos U] at E;refine SQ ?_;obtain⟨b8,ab,E⟩:=bnd E;obtain⟨b9,ac,E⟩:=bnd E;obtain⟨ba,a0,E⟩:=bnd E;obtain⟨⟨b0,bb⟩,ar,E⟩:=bnd E;try dsimp only at E
     refine RG (MV G G (MV G G (ST (q0e G G ab) G (MV G G (ST (q0e G G ac) G (MV G G (ST (q0o Tu23 u G) G (ST (Ex.min2 G G) G (ST (Ex.sliceVC Tu23 Ts5 (u) G G G a0) G (ST (q0Y Tu23 Tu5 Tu9 H ((u.subV a0)) G) G (q02 H (Y5B ar) G trivial (q00 G) G ?_)))))))))));intro bc M w H N hR;replace u:=u.mono N;try dsimp only at hR
     obtain rfl:=hR;refine MV G G (ST (q05 G G) G (ST (q05 G G) G (AS G G (AS G G (NL (TN (SQ (RG (MV G G (NL (TN ?_)))))))))));refine q0a G (fun V=>?_) (fun V=>?_)
     .
      subst V;rw[if_pos rfl] at E;refine SQ ?_;obtain⟨bd,ad,E⟩:=bnd E;refine RG (MV G G (MV G G (q0O (enc:=encB) xty23 ([b0]:Ls) H G Kf (fun _=>G) G G (q00 G) G ?_)));intro be M w H N au;replace u:=u.mono N;refine q0H (l:=l7) xty23 G (fun _=>G) H G (fun _=>by repeat first|exact .head|apply Upd.tail) G (au) ad (q00 G) G ?_;intro bg w H;refine AS G G (NL (TN (SQ ?_)));obtain⟨bh,ae,E⟩:=bnd E;refine RG (MV G G (ST (q0e G G ae) G (AS G G (NL (TN (q0j ?_))))));exact WQ.meetX G [(0,_),(3,_),(4,_)] ⟨G,G,G,trivial⟩ ⟨_,_,_,_,G,H,u,E⟩
     subst V;rw[if_neg l00] at E;refine SK ?_;exact MN ⟨_,_,_,_,G,H,u,E⟩
    rw[if_neg U] at E;refine SK ?_;exact MN ⟨_,_,_,_,G,H,u,E⟩
   .
    rintro e w ⟨Z,a1,a2,M,rfl,H,u,b1⟩;obtain rfl:=oI b1;try dsimp only at J
    refine TN ?_;obtain⟨b2,ah,J⟩:=bnd J;obtain⟨b6,bi,av,aw⟩:=u.atC ah;obtain⟨bj,ai,J⟩:=bnd J;refine RG (MV G G (MV G G (MV G G (ST (q0s av Tu23 Ts5 G G) G (ST (q0n H G aw Ta5) G (q0O (enc:=encB) xty23 ([b2]:Ls) H G Kf (fun _=>G) G G (q00 G) G ?_))))));intro bm M w H N ax;replace u:=u.mono N;refine q0H (l:=Z) xty23 G (fun _=>G) H G (fun _=>by repeat first|exact .head|apply Upd.tail) G (ax) ai (q00 G) G ?_;intro bn w H;refine AS G G (NL (IB (TN ?_)));obtain⟨bo,aj,J⟩:=bnd J;refine RG (MV G G (ST (q0e G G aj) G (AS G G (NL ?_))));exact AG Y ⟨_,_,_,_,G,H,u,J⟩ (l06 _)
   rintro e w ⟨a3,a4,a5,M,rfl,H,u,b3⟩;obtain rfl:=oI b3;try dsimp only at J
   refine q03 (q0b (TN ?_));obtain⟨bp,ak,J⟩:=bnd J;refine RG (MV G G (ST (q0e G G ak) G (AS G G (NL ?_))));exact AG Y ⟨_,_,_,_,G,H,u,J⟩ (l06 _)
  rw[if_neg O] at J;refine q0j (q03 (q03 (q0b ?_)));exact MN ⟨_,_,_,G,H,J⟩
 rintro e w ⟨l4,v5,M,rfl,H,b4⟩;obtain rfl:=oI b4;refine TN (SQ (RG (MV G G (AS G G (NL (TN (RT ?_)))))));obtain⟨M,N,ay,H⟩:=H.freezeRow (v:=v5) (enc:=encB) (t:=5) Kv;obtain rfl:=oI h;exact q07 G G H.ext ay
theorem quoted_Lenient_ct {p0:Ls}{ay:Value}{r:(Ls × (Int × Int))}(h:quoted_Lenient p0=some r):Ct Tryz.prog 176 [ay] (fun M=>Sl M encB ay p0) (fun v M =>∃x0,v=Value.tuple #[x0,Value.agg #[I r.2.1,I r.2.2]]/\Sl M encB x0 r.1):=by
 refine Ct.of Tryz.func176 (enters Tryz.func176 Kr G) G G G ?_;intro w0 M0 H hp;have az:=hp;unfold quoted_Lenient at h;refine SQ (RG (AS G G (q09 [_,_] H Tz28 G (q00 G) G ?_)));intro N w H;refine NL (TN (SQ (SQ (RG (MV G G (ST (q0o Tu23 az G) G (ST (q0C G G) G (NL (TN ?_)))))))));refine CB (p:=(48000:Int)<(p0.length:Int)) G (fun ah=>?_) fun ah=>?_
 .
  rw[if_pos ah] at h;refine SQ ?_;obtain⟨⟨n2,n3⟩,be,h⟩:=bnd h;try dsimp only at h
  refine RG (q02 H (Y02 be) G trivial (q00 G) G ?_);intro bt M w H J hR;try dsimp only at hR
  obtain rfl:=hR;refine AS G G (q04 [_,_] H G G G Ku Ts28 G Kf Kf (q00 G) ?_);intro w H;refine NL (TN (RT ?_));obtain rfl:=oI h;exact q0t G G ⟨_,G,H.loadAgg Km Ta28 Ts28 Kf⟩ H.ext (⟨_,G,q0U _ _⟩)
 rw[if_neg ah] at h;refine SK (TN (SQ (RG (AS G G (NL (TN (SQ ?_)))))));obtain⟨o5,E,h⟩:=bnd h;refine q0c (fun e w =>∃(l8:Ls) (a8:Value) (M:Mem),e=[(3,ptr N 0),(4,a8)]/\St w0 M0 M [.blk N (.cells #[I 0,I 0] 28),RowI 5 encB a8 l8] w/\some l8=some o5) [] ?_ ?_ (trivial)
 .
  refine BL ?_;replace H:=H.newRow 5 encB;refine q0l (fun m e w =>∃(Z:Ls) (O:Value) (a0:Ls) (U:Value) (M:Mem),e=[(0,O),(3,ptr N 0),(4,U)]/\St w0 M0 M [.blk N (.cells #[I 0,I 0] 28),RowI 5 encB U a0] w/\Sl M encB O Z/\quoted_Lenient_L1  m Z a0=some o5) FU [(0,_),(3,_),(4,_)] ⟨rfl,rfl,rfl,trivial⟩ ⟨_,_,_,_,_,rfl,(H.pick (L':=[.blk N (.cells #[I 0,I 0] 28),RowI 5 encB (Value.slice none 0 0) []]) Kp),az,E⟩ ?_;rintro ai e w ⟨Z,O,a0,U,M,rfl,H,u,E⟩;rcases ai with _|ai
  . rw[quoted_Lenient_L1] at E;cases E
  rw[quoted_Lenient_L1] at E;refine SQ (SQ (RG (MV G G (ST (q0o Tu23 u G) G (ST (q0C G G) G (NL (TN ?_)))))));refine CB (p:=(0:Int)<(Z.length:Int)) G (fun a3=>?_) fun a3=>?_
  .
   rw[if_pos a3] at E;refine SK (TN (BL (SQ ?_)));obtain⟨bu,b1,E⟩:=bnd E;obtain⟨bh,aq,E⟩:=bnd E;refine RG (MV G G (q02 H (Y3B b1) G (u) (q00 G) G ?_));intro bv M w H J hR;replace u:=u.mono J;obtain rfl:=hR;refine ST (q0e G G aq) G (AS G G (NL (TN (SQ (SQ (RG (MV G G (ST (q0u G G) G (NL (TN ?_))))))))));obtain⟨bi,a9,E⟩:=bnd E;refine q0c (fun e w =>∃(a1:Int) (M:Mem),e=[(0,O),(3,ptr N 0),(4,U),(5,I a1)]/\St w0 M0 M [.blk N (.cells #[I 0,I 0] 28),RowI 5 encB U a0] w/\Sl M encB O Z/\some a1=some bi) [] ?_ ?_ (trivial)
   .
    refine CB (p:=bh=(0:Int)) G (fun a4=>?_) fun a4=>?_
    .
     rw[if_pos a4] at a9;refine RG (MV G G (ST (q0o Tu23 u G) G (AS G G (NL ?_))));exact MN ⟨_,_,G,H,u,a9⟩
    rw[if_neg a4] at a9;refine SK ?_;exact MN ⟨_,_,G,H,u,a9⟩
   rintro e w ⟨a1,M,rfl,H,u,bj⟩;obtain rfl:=oI bj;refine TN (SQ ?_);obtain⟨bw,aa,E⟩:=bnd E;obtain⟨bm,b2,E⟩:=bnd E;refine RG (MV G G (MV G G (ST (q1K Tu23 Ts5 (u) G G aa) G (WR.litC xty23 Tu5 ([10]:Ls) H G Kf G G (q00 G) G (fun _=>q00 G) G ?_))));intro bx M w H J b3;replace u:=u.mono J;refine q02 H (Y3o b2) G ⟨(u.subV aa),b3⟩ (q00 G) G ?_;intro bz M w H J hR;replace u:=u.mono J;have V:=hR;refine AS G G (NL (TN (SQ (SQ (RG (MV G G (ST (q0o Tu23 V G) G (MV G G (ST (q0m G G) G (NL (TN ?_)))))))))));obtain⟨bn,a2,E⟩:=bnd E;refine q0c (fun e w =>∃(aj:Ls) (ak:Value) (M:Mem),e=[(0,O),(3,ptr N 0),(4,U),(5,I a1),(6,ak)]/\St w0 M0 M [.blk N (.cells #[I 0,I 0] 28),RowI 5 encB U a0] w/\Sl M encB O Z/\Sl M encB ak aj/\some aj=some bn) [] ?_ ?_ (trivial)
   .
    refine CB (p:=(bm.length:Int)<a1) G (fun a5=>?_) fun a5=>?_
    .
     rw[if_pos a5] at a2;obtain⟨c0,b4,a2⟩:=bnd a2;refine RG (MV G G (WR.litC xty23 Tu5 ([13]:Ls) H G Kf G G (q00 G) G (fun _=>q00 G) G ?_));intro c1 M w H J b5;replace u:=u.mono J;replace V:=V.mono J;refine q02 H (Y3o b4) G ⟨V,b5⟩ (q00 G) G ?_;intro c2 M w H J hR;replace u:=u.mono J;have ar:=hR;refine AS G G (NL ?_);exact MN ⟨_,_,_,G,H,u,ar,a2⟩
    rw[if_neg a5] at a2;refine SK ?_;exact MN ⟨_,_,_,G,H,u,V,a2⟩
   rintro e w ⟨aj,ak,M,rfl,H,u,al,bo⟩;obtain rfl:=oI bo;refine TN (SQ ?_);obtain⟨c3,ab,E⟩:=bnd E;refine RG (MV G G (MV G G (ST (q0o Tu23 al G) G (MV G G (ST (Ex.sliceVC Tu23 Ts5 (u) G G G ab) G (AS G G (NL (TN (SQ ?_)))))))));obtain⟨c4,b6,E⟩:=bnd E;refine RG (MV G G (q02 H (Y5A b6) G (al) (q00 G) G ?_));intro c5 M w H J hR;replace u:=u.mono J;have K:=hR;refine AS G G (NL (TN (SQ (SQ ?_))));obtain⟨c6,b7,E⟩:=bnd E;refine RG (MV G G (WR.litC xty23 Tu5 ([61]:Ls) H G Kf G G (q00 G) G (fun _=>q00 G) G ?_));intro c7 M w H J b8;replace u:=u.mono J;replace K:=K.mono J;refine q02 H (Y4l b7) G ⟨K,b8⟩ (q00 G) G ?_;intro c8 M w H J hR;replace u:=u.mono J;replace K:=K.mono J;obtain rfl:=hR;refine NL (TN ?_);obtain⟨bp,Y,E⟩:=bnd E;refine q0c (fun e w =>∃(am:Ls) (an:Value) (ao:Ls) (ap:Value) (M:Mem),e=[(0,O),(3,ptr N 0),(4,U),(5,I a1),(6,an),(7,ap)]/\St w0 M0 M [.blk N (.cells #[I 0,I 0] 28),RowI 5 encB U a0] w/\Sl M encB O Z/\Sl M encB an am/\Sl M encB ap ao/\some (am,ao)=some bp) [] ?_ ?_ (trivial)
   .
    refine q0a G (fun a6=>?_) (fun a6=>?_)
    .
     subst a6;rw[if_pos rfl] at Y;obtain⟨c9,au,Y⟩:=bnd Y;obtain⟨ca,ac,Y⟩:=bnd Y;refine RG (MV G G (MV G G (ST (q0o Tu23 K G) G (ST (q0K G G au) G (ST (q1K Tu23 Ts5 (K) G G ac) G (AS G G (AS G G (NL ?_))))))));exact MN ⟨_,_,_,_,_,G,H,u,(K.subV ac),q0U _ _,Y⟩
    subst a6;rw[if_neg l00] at Y;refine SK ?_;exact MN ⟨_,_,_,_,_,G,H,u,K,(u.subV ab),Y⟩
   rintro e w ⟨am,an,ao,ap,M,rfl,H,u,b9,a7,bq⟩;obtain rfl:=oI bq;try dsimp only at E
   refine TN (SQ ?_);obtain⟨cb,ba,E⟩:=bnd E;obtain⟨br,av,E⟩:=bnd E;obtain⟨cc,aw,E⟩:=bnd E;refine RG (MV G G (MV G G (q02 H (quoted_plain_ct ba) G (b9) (q00 G) G ?_)));intro cd M w H J hR;replace u:=u.mono J;replace a7:=a7.mono J;have ax:=hR;refine q0H (l:=a0) xty23 G (fun _=>G) H G (fun _=>by repeat first|exact .head|apply Upd.tail) G (ax) av (q00 G) G ?_;intro ce w H;refine MV G G (q0H (l:=br) xty23 G (fun _=>G) H G (fun _=>by repeat first|exact .head|apply Upd.tail) G (a7) aw (q00 G) G ?_);intro cf w H;refine AS G G (NL (TN ?_));obtain⟨cg,ad,E⟩:=bnd E;refine RG (MV G G (MV G G (ST (q1E Tu23 Ts5 (u) G G ad) G (AS G G (NL (IB ?_))))));exact AG ai ⟨_,_,_,_,_,G,H,(u.subV ad),E⟩ (l06 _)
  rw[if_neg a3] at E;refine q0j (q03 (q03 (q0b ?_)));exact MN ⟨_,_,_,G,H,E⟩
 rintro e w ⟨l8,a8,M,rfl,H,bs⟩;obtain rfl:=oI bs;refine TN (SQ ?_);obtain⟨⟨ch,ci⟩,bb,h⟩:=bnd h;try dsimp only at h
 refine RG (MV G G (q02 H (Y07 bb) G trivial (q00 G) G ?_));intro cj M w H J hR;try dsimp only at hR
 obtain rfl:=hR;refine AS G G (q04 [_,_] H G G G Ku Ts28 G Kf Kf (q00 G) ?_);intro w H;refine NL (TN (RT ?_));obtain⟨M,J,bc,H⟩:=H.freezeRow (v:=a8) (enc:=encB) (t:=5) Kv;obtain rfl:=oI h;exact q0t G G ⟨_,G,H.loadAgg Km Ta28 Ts28 Kf⟩ H.ext (⟨_,G,bc⟩)
theorem Y3K {p0:Ls}{r:Ls}(h:Y3l p0=some r):Ct Tryz.prog 58 [S p0] (fun M=>True) (fun v M=>v=S r):=by
 refine Ct.of Tryz.func58 (enters Tryz.func58 Kr G) G G G ?_;intro w0 M0 H hp;unfold Y3l at h;refine SQ (RG (AS G G (NL (TN (SQ ?_)))));obtain⟨N,ac,h⟩:=bnd h;refine RG (MV G G (WR.toBytesC H Tu9 Tu23 Tu5 G ac (q00 G) G ?_));intro J E w aa H;refine AS G G (NL (TN (SQ (SQ (RG (MV G G (ST (Ex.lenSOK Tu23 aa G) G (MV G G (NL (TN ?_))))))))));obtain⟨o4,u,h⟩:=bnd h;refine q0c (fun e w =>∃(l6:Ls) (M:Mem),e=[(3,(Value.slice (some ⟨J,0,none⟩) N.length E))]/\St w0 M0 M [SRow J E 5 l6] w/\SOK M l6 N.length E/\some l6=some o4) [] ?_ ?_ (trivial)
 .
  refine BL (q0l (fun m e w =>∃(l8:Ls) (U:Int) (M:Mem),e=[(3,(Value.slice (some ⟨J,0,none⟩) N.length E)),(8,(Value.slice (some ⟨J,0,none⟩) N.length E)),(9,I (N.length:Int)),(10,I U)]/\St w0 M0 M [SRow J E 5 l8] w/\SOK M l8 N.length E/\Y1j N m l8 U=some o4) FU [(3,_),(8,_),(9,_),(10,_)] ⟨rfl,rfl,rfl,rfl,trivial⟩ ⟨_,_,_,rfl,H,aa,u⟩ ?_);rintro a0 e w ⟨l8,U,M,rfl,H,K,u⟩;rcases a0 with _|a0
  . rw[Y1j] at u;cases u
  rw[Y1j] at u;refine SQ (RG (ST (q0m G G) G (NL (TN (SQ ?_)))));refine CB (p:=U<(N.length:Int)) G (fun Y=>?_) fun Y=>?_
  .
   rw[if_pos Y] at u;refine SK (TN (SQ (BL (SQ ?_))));obtain⟨O,a1,u⟩:=bnd u;refine RG (MV G G (ST (Ex.idxSC Tu23 Ts5 K G G a1) G (ST (Ex.loadSC H G Km a1 Ta5) G ?_)));refine AS G G (AS G G (NL (TN (SQ ?_))));obtain⟨ah,a2,u⟩:=bnd u;refine q0c (fun e w =>∃(a4:Bool) (M:Mem),e=[(3,(Value.slice (some ⟨J,0,none⟩) N.length E)),(4,I U),(5,encB O),(8,(Value.slice (some ⟨J,0,none⟩) N.length E)),(9,I (N.length:Int)),(10,I U),(20,Value.bool a4)]/\St w0 M0 M [SRow J E 5 l8] w/\SOK M l8 N.length E/\some a4=some ah) [] ?_ ?_ (trivial)
   .
    by_cases V:65<=O.toNat
    .
     rw[if_pos V] at a2;refine RG (MV G G (DT V (q1g (i:=O.toNat) (j:=65) G G) G (MV G G (SG (q06 G) G G G (SG (Ex.leqB (i:=O.toNat) (j:=90) G G) G G G (PT G G G (NL ?_)))))));exact MN ⟨_,_,G,H,K,a2⟩
    rw[if_neg V] at a2;refine RG (MV G G (DF V (q1g (i:=O.toNat) (j:=65) G G) G (MV G G (GF G G G (GF G G G (PF G G G (NL ?_)))))));exact MN ⟨_,_,G,H,K,a2⟩
   rintro e w ⟨a4,M,rfl,H,K,ai⟩;obtain rfl:=oI ai;refine TN ?_;refine q0a G (fun Z=>?_) (fun Z=>?_)
   .
    subst Z;rw[if_pos rfl] at u;obtain⟨al,a6,u⟩:=bnd u;obtain⟨am,a7,u⟩:=bnd u;refine RG (MV G G (MV G G (MV G G (ST (Ex.addB (c:=O) (d:=97) G G) G (ST (Ex.subB (c:=(O+(97:UInt8))) (d:=65) G G) G (ST (Ex.idxSC Tu23 Ts5 K G G a6) G (WR.storeSC H G G K (fun _=>by repeat first|exact .head|apply Upd.tail) a7 Ts5 (q00 G) ?_)))))));intro w ad H;refine NL (IB (TN ?_));obtain⟨an,a8,u⟩:=bnd u;refine RG (ST (q0e G G a8) G (MV G G (NL ?_)));exact AG a0 ⟨_,_,_,G,H,ad,u⟩ (l06 _)
   subst Z;rw[if_neg l00] at u;refine SK (IB (TN ?_));obtain⟨ao,a9,u⟩:=bnd u;refine RG (ST (q0e G G a9) G (MV G G (NL ?_)));exact AG a0 ⟨_,_,_,G,H,K,u⟩ (l06 _)
  rw[if_neg Y] at u;refine q0j (q03 (q03 (q0b ?_)));exact MN ⟨_,_,G,H,K,u⟩
 rintro e w ⟨l6,M,rfl,H,aj,ak⟩;obtain rfl:=oI ak;refine TN (SQ (RG (MV G G (ST (Ex.toStrS Tu23 Tu5 Tu9 H Km aj.1.symm G) G ?_))));refine AS G G (NL (TN (RT ?_)));obtain rfl:=oI h;exact q07 G G H.ext G
theorem Y18 {p0:Ls}{J:Ls}{r:Bool}(h:Y0N p0 J=some r):Ct Tryz.prog 30 [S p0,S J] (fun M=>True) (fun v M=>v=Value.bool r):=by
 refine Ct.of Tryz.func30 (enters Tryz.func30 Kr G) G G G ?_;intro V M0 H hp;unfold Y0N at h;refine SQ (RG (AS G G (NL (TN (SQ ?_)))));obtain⟨Y,u,h⟩:=bnd h;refine q0c (fun e w =>∃(K:Bool) (M:Mem),e=[(4,Value.bool K)]/\St V M0 M [] w/\some K=some Y) [] ?_ ?_ (trivial)
 .
  refine RG (MV G G (ST (q0g Tu9 G) G (MV G G (ST (q0g Tu9 G) G ?_))));by_cases E:(p0.length:Int)=(J.length:Int)
  .
   rw[if_pos E] at u;obtain⟨s5,N,u⟩:=bnd u;obtain⟨s7,O,u⟩:=bnd u;refine DT E (q0u G G) G (MV G G (SG (q06 G) G G G (q02 H (Y3K N) G trivial (q0h G G G) G ?_)));intro a0 M w H U hR;obtain rfl:=hR;refine SG (q06 G) G G G (q02 H (Y3K O) G trivial (q0h G G G) G ?_);intro a1 M w H U hR;obtain rfl:=hR;refine SG (q0B G G) G G G (PT G G G (AS G G (NL ?_)));exact MN ⟨_,_,G,H,u⟩
  rw[if_neg E] at u;refine DF E (q0u G G) G (MV G G (q0i 5 G G (PF G G G (AS G G (NL ?_)))));exact MN ⟨_,_,G,H,u⟩
 rintro e w ⟨K,M,rfl,H,Z⟩;obtain rfl:=oI Z;refine TN (RT ?_);obtain rfl:=oI h;exact q07 G G H.ext G
theorem Y06 {p0:(Int × Int)}{r:Bool}(h:Y08 p0=some r):Ct Tryz.prog 16 [Value.agg #[I p0.1,I p0.2]] (fun M=>True) (fun v M=>v=Value.bool r):=by
 refine Ct.of Tryz.func16 (enters Tryz.func16 Kr G) G G G ?_;intro E M0 H hp;unfold Y08 at h;refine SQ (RG (q0F [_,_] H G G (q00 G) G ?_));intro u w H;refine AS G G (NL (TN (SQ (RG (ST (q01 Tu28 G Ts3 Dc G) G (ST (XL H Ta3) G ?_))))));refine ST (q1j G G) G (AS G G (NL (TN (RT ?_))));obtain rfl:=oI h;exact q07 G G H.ext G
def xefn : Nat × Nat->Value
 |(0,b) => .func (.func 203) #[] #[ptr b 0]
 |(1,_) => .func (.func 173) #[] #[]
 | _ => .func (.func 175) #[] #[]
def xtfn : Nat->Value
 | 0 => .nilFunc
 | 1 => .func (.func 205) #[] #[]
 | 2 => .func (.func 174) #[] #[]
 | _ => .func (.func 176) #[] #[]
theorem xefn_one (x:Nat × Nat):(xefn x).oneCell'=true:=by unfold xefn;split <;> rfl
theorem xtfn_one (x:Nat):(xtfn x).oneCell'=true:=by unfold xtfn;split <;> rfl
abbrev xenC (x:Ls × (Nat × Nat) × Nat):List Value:=[S x.1,xefn x.2.1,xtfn x.2.2]
theorem transfer_plain_ct {s:Ls}{c:UInt8}:Ct Tryz.prog 172 [S s,encB c] (fun _=>True) (fun v _ =>∃b,v=Value.agg #[S s,xefn (0,b),xtfn 1]):=by
 refine Ct.of Tryz.func172 (enters Tryz.func172 Kr G) G G G ?_;intro E M0 H hp;refine SQ (RG (q0F [_] H G G (q00 G) G ?_));intro u w H;refine q09 [_,_,_] H Tz182 G (q00 G) G ?_;intro J w H;refine NL (TN (SQ (RG (MV G G (ST (q1s G) G (ST (q0v [S s,xefn (0,u),xtfn 1] Tu182 Tz182 (xplaces182 Tu182) G Kr) G (q04 [_,_,_] H G G G Ku Ts182 G Kf Kf (q00 G) ?_)))))));intro w H;refine NL (TN (RT ?_));exact q07 G ⟨_,G,H.loadAgg Km Ta182 Ts182 Kf⟩ H.ext ⟨_,G⟩
theorem transfer_find_ct {p0:Ls}{r:Ls × Nat × Bool}(h:transfer_find p0=some r):Ct Tryz.prog 141 [S p0] (fun _=>True) (fun v M =>∃u:Value,u.oneCell'=true/\v = .tuple #[.agg #[S r.1,u,xtfn r.2.1], .bool r.2.2]):=by
 refine Ct.of Tryz.func141 (enters Tryz.func141 Kr G) G G G ?_;intro w0 M0 H hp;unfold transfer_find at h;refine SQ (RG (q09 [_,_,_] H Tz182 G (q00 G) G ?_));intro N w H;refine AS G G (NL (TN (SQ (SQ (RG (q02 H (transfer_plain_ct (s:=[55,98,105,116]) (c:=127)) G trivial (q00 G) G ?_))))));rintro _ M w H J ⟨b6,rfl⟩;refine q02 H (transfer_plain_ct (s:=[56,98,105,116]) (c:=255)) G trivial (q00 G) G ?_;rintro _ M w H J ⟨b7,rfl⟩;refine ST (q0v [S [98,97,115,101,54,52],xefn (1,0),xtfn 2] Tu182 Tz182 (xplaces182 Tu182) G Kr) G (ST (q0v [S [113,117,111,116,101,100,45,112,114,105,110,116,97,98,108,101],xefn (2,0),xtfn 3] Tu182 Tz182 (xplaces182 Tu182) G Kr) G ?_);obtain⟨E,K⟩ :∃E:List (Ls × (Nat × Nat) × Nat),E=[([55,98,105,116],(0,b6),1),([56,98,105,116],(0,b7),1),([98,97,115,101,54,52],(1,0),2),([113,117,111,116,101,100,45,112,114,105,110,116,97,98,108,101],(2,0),3)]:=⟨_,rfl⟩
 have hlen:E.length=4:=by rw[K];rfl
 refine q1t (enc:=xenC) xty253 E H (fun _=>G) G (by subst K;kernel_rfl) hlen G G (q00 G) G ?_;intro O M w H J hs;refine ST (q0N Tu253 hs G) G (MV G G (NL (TN ?_)));have h':transfer_findL p0 ((E.drop 0).map fun x=>(x.1,x.2.2))=some r:=by rw[K];exact h
 clear h K;refine BL (q0l (fun mm e w =>∃(i:Nat) (M:Mem),e=[(0,S p0),(2,ptr N 0),(10,O),(11,I E.length),(12,I i)]/\St w0 M0 M [.blk N (.cells #[S [], .nilFunc, .nilFunc] 182)] w/\SlS M 3 xenC O E/\mm=E.length-i/\i<=E.length/\transfer_findL p0 ((E.drop i).map fun x=>(x.1,x.2.2))=some r) E.length [(0,_),(2,_),(10,_),(11,_),(12,_)] ⟨rfl,rfl,rfl,rfl,rfl,trivial⟩ ⟨0,_,rfl,H,hs,rfl,l0o _,h'⟩ ?_);clear h' H hs J;rintro mm e w ⟨i,M,rfl,H,hs,hmm,hi,h⟩;refine SQ (RG (ST (q0m G G) G (NL (TN (SQ ?_)))));refine q0a G (fun hk=>?_) (fun hk=>?_)
 rotate_left
 . replace hk :¬((i:Int)<(E.length:Int)):=of_decide_eq_false hk;have Z:i=E.length:=by omega
   rw[Z,l0B,l0I,transfer_findL] at h;obtain rfl:=oI h;refine q0j (q03 (q03 (q0b (TN (SQ (RG (ST (q0v [S [], .nilFunc, .nilFunc] Tu182 Tz182 (xplaces182 Tu182) G Kr) G (q04 [_,_,_] H G G G Ku Ts182 G Kf Kf (q00 G) ?_))))))));intro w H;refine AS G G (NL (TN (RT ?_)));exact q0t G ⟨_,G,H.loadAgg Km Ta182 Ts182 Kf⟩ G H.ext ⟨.nilFunc,G,G⟩
 replace hk:(i:Int)<(E.length:Int):=of_decide_eq_true hk;have U:i<E.length:=by omega
 have ha:idx E (i:Int)=some E[i]:=by rw[idx_nat];exact List.getElem?_eq_getElem U
 rw[l0g U,l0j,transfer_findL] at h;obtain⟨bb,hx,h⟩:=bnd h;dsimp only at hx;generalize E[i]=a at ha hx h;refine SK (TN (SQ (BL (SQ ?_))));obtain⟨a3,a4,V,Y⟩:=hs.atC ha;refine RG (ST (q0s V Tu253 Ts182 G G) G (ST (q0G H G Y Ta182 Ts182 Kf) G ?_));refine q09 [_,_,_] H Tz182 G (q00 G) G ?_;intro a5 w H;refine q04 [_,_,_] H G G G Ku Ts182 G Kf (by simp only[l0b,l0i,xefn_one,xtfn_one];rfl) (q00 G) ?_;intro w H;refine NL (TN (SQ (RG (ST (q01 Tu182 G Ts9 Dc G) G (ST (XL H Ta9) G ?_)))));refine MV G G (q02 H (Y18 hx) G trivial (q00 G) G ?_);intro a6 M w H J hR;replace hs:=hs.mono J;obtain rfl:=hR;refine NL (TN ?_);refine q0a G (fun hk=>?_) (fun hk=>?_)
 . subst hk;rw[if_pos rfl] at h;obtain rfl:=oI h;refine SQ (RG (ST (q08 H G Km Ta182 Ts182 Kf) G ?_));refine q04 [_,_,_] H G G G Ku Ts182 G Kf (by simp only[l0b,l0i,xefn_one,xtfn_one];rfl) (q00 G) ?_;intro w H;refine AS G G (NL (TN (RT ?_)));exact q0t G ⟨_,G,H.loadAgg Km Ta182 Ts182 Kf⟩ G H.ext ⟨_,xefn_one _,G⟩
 subst hk;rw[if_neg l00] at h;refine SK (IB (TN (RG (ST (q0e G G (chk_succ (i:=i) Om)) G ?_))));refine MV G G (NL ?_);exact WQ.againP (E.length-(i+1)) [(0,_),(2,_),(10,_),(11,_),(12,_)] ⟨G,G,G,G,G,trivial⟩ ⟨i+1,_,G,H.pick (by repeat(first|refine Pick.cons Kv ?_|exact q1A (by repeat(first|exact List.Sublist.refl _|apply List.Sublist.cons)))),hs,G,by omega,h⟩ Om
theorem transfer_valid_ct {p0 U:Ls}{O:Value}{r:(Ls × Nat) × (Int × Int)}(h:transfer_valid p0 U=some r):Ct Tryz.prog 103 [O,S U] (fun M=>Sl M encB O p0) (fun v M =>∃u:Value,u.oneCell'=true/\v = .tuple #[.agg #[S r.1.1,u,xtfn r.1.2], .agg #[I r.2.1,I r.2.2]]):=by
 refine Ct.of Tryz.func103 (enters Tryz.func103 Kr G) G G G ?_;intro w0 M0 H hp;have N:=hp;unfold transfer_valid at h;obtain⟨⟨s,k,ok⟩,hx,h⟩:=bnd h;dsimp only at h;refine SQ (RG (q09 [_,_,_] H Tz182 G (q00 G) G ?_));intro Z w H;refine q09 [_,_] H Tz28 G (q00 G) G ?_;intro a0 w H;refine NL (TN (SQ (RG (MV G G (q02 H (transfer_find_ct hx) G trivial (q00 G) G ?_)))));rintro a1 M w H J ⟨u,hu,rfl⟩;replace N:=N.mono J;refine MV G G (ST (q05 G G) G (ST (q05 G G) G (q09 [_,_,_] H Tz182 G (q00 G) G ?_)));intro a2 w H;refine q04 [_,_,_] H G G G Ku Ts182 G Kf (by simp only[l0b,l0i,hu,xtfn_one];rfl) (q00 G) ?_;intro w H;refine AS G G (NL (TN (SQ (SQ (RG (MV G G (ST (q0y G) G (NL (TN ?_)))))))));refine q0a G (fun hk=>?_) (fun hk=>?_)
 . replace hk:ok=false:=by simpa using hk
   subst hk;rw[if_neg l00] at h;obtain⟨⟨V,Y⟩,E,h⟩:=bnd h;obtain rfl:=oI h;refine SQ (q0x (m:=4) G G H ?_);intro w H;refine q0E (i:=0) (j:=1) Kr G G ?_ ?_
   . refine ST (q08 H G Km Ta182 Ts182 Kf) G ?_;refine NA (q0k (fuel:=0) [1,2,3] G Kr (q02 H (Y02 E) G trivial (q00 G) G ?_));intro K M w H J hR;try dsimp only at hR
     obtain rfl:=hR;refine q04 [_,_,_] H G G G Ku Ts182 G Kf (by simp only[l0b,l0i,hu,xtfn_one];rfl) (q00 G) ?_;intro w H;refine q04 [_,_] H G G G Ku Ts28 G Kf Kf (q00 G) ?_;intro w H;refine NA (q0f Kr (TN (RT ?_)));exact q0t G ⟨_,G,H.loadAgg Km Ta182 Ts182 Kf⟩ ⟨_,G,H.loadAgg Km Ta28 Ts28 Kf⟩ H.ext ⟨_,hu,G⟩
   refine q02 H (Y02 E) G trivial (q00 G) G ?_;intro K M w H J hR;try dsimp only at hR
   obtain rfl:=hR;refine NA (q0k (fuel:=0) [0,2,3] G Kr (ST (q08 H G Km Ta182 Ts182 Kf) G ?_));refine q04 [_,_,_] H G G G Ku Ts182 G Kf (by simp only[l0b,l0i,hu,xtfn_one];rfl) (q00 G) ?_;intro w H;refine q04 [_,_] H G G G Ku Ts28 G Kf Kf (q00 G) ?_;intro w H;refine NA (q0f Kr (TN (RT ?_)));exact q0t G ⟨_,G,H.loadAgg Km Ta182 Ts182 Kf⟩ ⟨_,G,H.loadAgg Km Ta28 Ts28 Kf⟩ H.ext ⟨_,hu,G⟩
 replace hk:ok=true:=by simpa using hk
 subst hk;rw[if_pos rfl] at h;refine SK (TN (SQ (SQ (RG (MV G G (ST (q0o Tu23 N G) G (ST (q0C G G) G (NL (TN ?_)))))))));refine q0a G (fun hk=>?_) (fun hk=>?_)
 . replace hk:(12000:Int)<(p0.length:Int):=of_decide_eq_true hk;rw[if_pos hk] at h;obtain⟨⟨V,Y⟩,E,h⟩:=bnd h;obtain rfl:=oI h;refine SQ (q0x (m:=4) G G H ?_);intro w H;refine q0E (i:=0) (j:=1) Kr G G ?_ ?_
   . refine ST (q08 H G Km Ta182 Ts182 Kf) G ?_;refine NA (q0k (fuel:=0) [1,2,3] G Kr (q02 H (Y02 E) G trivial (q00 G) G ?_));intro K M w H J hR;try dsimp only at hR
     obtain rfl:=hR;refine q04 [_,_,_] H G G G Ku Ts182 G Kf (by simp only[l0b,l0i,hu,xtfn_one];rfl) (q00 G) ?_;intro w H;refine q04 [_,_] H G G G Ku Ts28 G Kf Kf (q00 G) ?_;intro w H;refine NA (q0f Kr (TN (RT ?_)));exact q0t G ⟨_,G,H.loadAgg Km Ta182 Ts182 Kf⟩ ⟨_,G,H.loadAgg Km Ta28 Ts28 Kf⟩ H.ext ⟨_,hu,G⟩
   refine q02 H (Y02 E) G trivial (q00 G) G ?_;intro K M w H J hR;try dsimp only at hR
   obtain rfl:=hR;refine NA (q0k (fuel:=0) [0,2,3] G Kr (ST (q08 H G Km Ta182 Ts182 Kf) G ?_));refine q04 [_,_,_] H G G G Ku Ts182 G Kf (by simp only[l0b,l0i,hu,xtfn_one];rfl) (q00 G) ?_;intro w H;refine q04 [_,_] H G G G Ku Ts28 G Kf Kf (q00 G) ?_;intro w H;refine NA (q0f Kr (TN (RT ?_)));exact q0t G ⟨_,G,H.loadAgg Km Ta182 Ts182 Kf⟩ ⟨_,G,H.loadAgg Km Ta28 Ts28 Kf⟩ H.ext ⟨_,hu,G⟩
 replace hk :¬((12000:Int)<(p0.length:Int)):=of_decide_eq_false hk;rw[if_neg hk] at h;obtain⟨⟨V,Y⟩,E,h⟩:=bnd h;obtain rfl:=oI h;refine SK (TN (SQ (q0x (m:=4) G G H ?_)));intro w H;refine q0E (i:=0) (j:=1) Kr G G ?_ ?_
 . refine ST (q08 H G Km Ta182 Ts182 Kf) G ?_;refine NA (q0k (fuel:=0) [1,2,3] G Kr (q02 H (Y07 E) G trivial (q00 G) G ?_));intro K M w H J hR;try dsimp only at hR
   obtain rfl:=hR;refine q04 [_,_,_] H G G G Ku Ts182 G Kf (by simp only[l0b,l0i,hu,xtfn_one];rfl) (q00 G) ?_;intro w H;refine q04 [_,_] H G G G Ku Ts28 G Kf Kf (q00 G) ?_;intro w H;refine NA (q0f Kr (TN (RT ?_)));exact q0t G ⟨_,G,H.loadAgg Km Ta182 Ts182 Kf⟩ ⟨_,G,H.loadAgg Km Ta28 Ts28 Kf⟩ H.ext ⟨_,hu,G⟩
 refine q02 H (Y07 E) G trivial (q00 G) G ?_;intro K M w H J hR;try dsimp only at hR
 obtain rfl:=hR;refine NA (q0k (fuel:=0) [0,2,3] G Kr (ST (q08 H G Km Ta182 Ts182 Kf) G ?_));refine q04 [_,_,_] H G G G Ku Ts182 G Kf (by simp only[l0b,l0i,hu,xtfn_one];rfl) (q00 G) ?_;intro w H;refine q04 [_,_] H G G G Ku Ts28 G Kf Kf (q00 G) ?_;intro w H;refine NA (q0f Kr (TN (RT ?_)));exact q0t G ⟨_,G,H.loadAgg Km Ta182 Ts182 Kf⟩ ⟨_,G,H.loadAgg Km Ta28 Ts28 Kf⟩ H.ext ⟨_,hu,G⟩
theorem transfer_Decode_ct {p0 U:Ls}{O:Value}{r:Ls × (Int × Int)}(h:transfer_Decode p0 U=some r):Ct Tryz.prog 62 [O,S U] (fun M=>Sl M encB O p0) (fun v M =>∃N,v = .tuple #[N, .agg #[I r.2.1,I r.2.2]]/\Sl M encB N r.1):=by
 refine Ct.of Tryz.func62 (enters Tryz.func62 Kr G) G G G ?_;intro w0 M0 H hp;have E:=hp;unfold transfer_Decode at h;obtain⟨⟨⟨s,k⟩,n1,n2⟩,hx,h⟩:=bnd h;dsimp only at h;obtain⟨bf,V,J⟩:=bnd h;refine SQ (RG (AS G G (q09 [_,_] H Tz28 G (q00 G) G ?_)));intro Z w H;refine NL (TN (SQ (RG (MV G G (MV G G (q02 H (transfer_valid_ct hx) G E (q00 G) G ?_))))));rintro a0 M w H K ⟨u,hu,rfl⟩;replace E:=E.mono K;refine MV G G (ST (q05 G G) G (ST (q05 G G) G (q09 [_,_,_] H Tz182 G (q00 G) G ?_)));intro a1 w H;refine q09 [_,_] H Tz28 G (q00 G) G ?_;intro a2 w H;refine q04 [_,_,_] H G G G Ku Ts182 G Kf (by simp only[l0b,l0i,hu,xtfn_one];rfl) (q00 G) ?_;intro w H;refine q04 [_,_] H G G G Ku Ts28 G Kf Kf (q00 G) ?_;intro w H;refine NL (TN (SQ (SQ (RG (ST (q08 H G Km Ta28 Ts28 Kf) G ?_)))));refine q02 H (Y06 V) G trivial (q00 G) G ?_;intro a3 M w H K hR;replace E:=E.mono K;obtain rfl:=hR;refine NL (TN ?_);refine q0a G (fun hk=>?_) (fun hk=>?_)
 . subst hk;rw[if_pos rfl] at J;obtain rfl:=oI J;refine SQ (q0x (m:=3) G G H ?_);intro w H;refine TK 1 G (fun _=>q1u G) G (q0k (fuel:=0) [0,2] G Kr (ST (q08 H G Km Ta28 Ts28 Kf) G ?_));refine q04 [_,_] H G G G Ku Ts28 G Kf Kf (q00 G) ?_;intro w H;refine NA (q0f Kr (TN (RT ?_)));exact q0t G G ⟨_,G,H.loadAgg Km Ta28 Ts28 Kf⟩ H.ext ⟨_,G,q0U _ _⟩
 subst hk;rw[if_neg l00] at J;refine SK (TN (SQ (RG (ST (q01 Tu182 G Tryz.sizeOf180 Dc G) G (ST (XL H Tryz.isAgg180) G ?_)))));refine MV G G ?_;have hc:FnV Tryz.prog M (xtfn k) [O] (fun v M =>∃N,v=Value.tuple #[N,Value.agg #[I r.2.1,I r.2.2]]/\Sl M encB N r.1):=by
  unfold transfer_dec at J;split at J
  . rename_i hk;subst hk;exact FnV.of (transfer_copied_ct J) (fun _ hm=>E.mono hm)
  split at J
  . rename_i hk;subst hk;exact FnV.of (Y5L J) (fun _ hm=>E.mono hm)
  split at J
  . rename_i hk;subst hk;exact FnV.of (quoted_Lenient_ct J) (fun _ hm=>E.mono hm)
  cases J
 refine WR.callF H hc G G (q00 G) G ?_;rintro a4 M w H K ⟨N,rfl,Y⟩;refine ST (q05 G G) G (ST (q05 G G) G (AS G G (q04 [_,_] H G G G Ku Ts28 G Kf Kf (q00 G) ?_)));intro w H;refine NL (TN (RT ?_));exact q0t G G ⟨_,G,H.loadAgg Km Ta28 Ts28 Kf⟩ H.ext ⟨_,G,Y⟩
theorem Y4m {p0:Ls}{O:(UInt8->Option Bool)}{K:Value}{r:Bool}(h:Y2S p0 O=some r):Ct Tryz.prog 105 [S p0,K] (fun M=>FnT82 M K O) (fun v M=>v=Value.bool r):=by
 refine Ct.of Tryz.func105 (enters Tryz.func105 Kr G) G G G ?_;intro w0 M0 H hp;have J:=hp;unfold Y2S at h;refine SQ (RG (AS G G (NL (TN (SQ (SQ (RG (MV G G (ST (q0g Tu9 G) G (MV G G (NL (TN ?_))))))))))));obtain⟨o1,u,h⟩:=bnd h;refine q0c (fun e w =>∃  (M:Mem),e=[]/\St w0 M0 M [] w/\some (.inl ())=some o1) [] ?_ ?_ (trivial)
 .
  refine BL (q0l (fun m e w =>∃(U:Int) (M:Mem),e=[(0,S p0),(1,K),(7,I (p0.length:Int)),(8,I U)]/\St w0 M0 M [] w/\FnT82 M K O/\Y1C p0 O m U=some o1) FU [(0,_),(1,_),(7,_),(8,_)] ⟨rfl,rfl,rfl,rfl,trivial⟩ ⟨_,_,rfl,H,J,u⟩ ?_);rintro Y e w ⟨U,M,rfl,H,J,u⟩;rcases Y with _|Y
  . rw[Y1C] at u;cases u
  rw[Y1C] at u;refine SQ (RG (ST (q0m G G) G (NL (TN (SQ ?_)))));refine CB (p:=U<(p0.length:Int)) G (fun N=>?_) fun N=>?_
  .
   rw[if_pos N] at u;refine SK (TN (SQ (BL (SQ (RG (MV G G (AS G G (NL (TN (SQ ?_))))))))));obtain⟨c6,Z,u⟩:=bnd u;obtain⟨b7,a3,u⟩:=bnd u;refine RG (MV G G (MV G G (MV G G (ST (q0p Tu9 G G Z) G (WR.callF H (J _ _ a3) G G (q00 G) G ?_)))));intro a6 M w H a4 hR;replace J:=J.mono a4;obtain rfl:=hR;refine ST (q0y G) G (NL (TN ?_));refine q0a G (fun E=>?_) (fun E=>?_)
   .
    replace E:b7=false:=by simpa using E
    subst E;rw[if_neg l00] at u;refine SQ (RG (AS G G (NL (TN (RT ?_)))));obtain rfl:=oI u;try dsimp only at h
    obtain rfl:=oI h;exact q07 G G H.ext G
   replace E:b7=true:=by simpa using E
   subst E;rw[if_pos rfl] at u;refine SK (IB (TN ?_));obtain⟨a7,V,u⟩:=bnd u;refine RG (ST (q0e G G V) G (MV G G (NL ?_)));exact AG Y ⟨_,_,G,H,J,u⟩ (l06 _)
  rw[if_neg N] at u;refine q0j (q03 (q03 (q0b ?_)));exact MN ⟨_,G,H,u⟩
 rintro e w ⟨M,rfl,H,a5⟩;obtain rfl:=oI a5;try dsimp only at h
 refine TN (SQ (RG (AS G G (NL (TN (RT ?_))))));obtain rfl:=oI h;exact q07 G G H.ext G
theorem Y6c {p0:UInt8}{r:Bool}(h:Y44 p0=some r):Ct Tryz.prog 106 [encB p0] (fun M=>True) (fun v M=>v=Value.bool r):=by
 refine Ct.of Tryz.func106 (enters Tryz.func106 Kr G) G G G ?_;intro N M0 H hp;unfold Y44 at h;refine SQ (RG (AS G G (NL (TN (SQ ?_)))));obtain⟨O,u,h⟩:=bnd h;refine q0c (fun e w =>∃(K:Bool) (M:Mem),e=[(2,Value.bool K)]/\St N M0 M [] w/\some K=some O) [] ?_ ?_ (trivial)
 .
  by_cases E:33<=p0.toNat
  .
   rw[if_pos E] at u;refine RG (MV G G (DT E (q1g (i:=p0.toNat) (j:=33) G G) G (MV G G (SG (q06 G) G G G ?_))));by_cases J:p0.toNat<=126
   .
    rw[if_pos J] at u;refine DU J (Ex.leqB (i:=p0.toNat) (j:=126) G G) G G G (PT G G G (MV G G (SG (q06 G) G G G (SG (Ex.neqB (c:=p0) (d:=58) G G) G G G (PT G G G (AS G G (NL ?_)))))));exact MN ⟨_,_,G,H,u⟩
   rw[if_neg J] at u;refine DG J (Ex.leqB (i:=p0.toNat) (j:=126) G G) G G G (PT G G G (MV G G (GF G G G (GF G G G (PF G G G (AS G G (NL ?_)))))));exact MN ⟨_,_,G,H,u⟩
  rw[if_neg E] at u;refine RG (MV G G (DF E (q1g (i:=p0.toNat) (j:=33) G G) G (MV G G (GF G G G (GF G G G (PF G G G (MV G G (GF G G G (GF G G G (PF G G G (AS G G (NL ?_))))))))))));exact MN ⟨_,_,G,H,u⟩
 rintro e w ⟨K,M,rfl,H,U⟩;obtain rfl:=oI U;refine TN (RT ?_);obtain rfl:=oI h;exact q07 G G H.ext G
theorem Y6A {p0:Ls}{r:Bool}(h:Y50 p0=some r):Ct Tryz.prog 65 [S p0] (fun M=>True) (fun v M=>v=Value.bool r):=by
 refine Ct.of Tryz.func65 (enters Tryz.func65 Kr G) G G G ?_;intro O M0 H hp;unfold Y50 at h;refine SQ (RG (AS G G (NL (TN (SQ ?_)))));obtain⟨U,u,h⟩:=bnd h;refine q0c (fun e w =>∃(K:Bool) (M:Mem),e=[(2,Value.bool K)]/\St O M0 M [] w/\some K=some U) [] ?_ ?_ (trivial)
 .
  by_cases E:p0=[]
  .
   rw[if_pos E] at u;refine RG (MV G G (q0D (v' := .bool false) (q1m G G) (congrArg Value.bool (by rw[decide_eq_true E];rfl)) (q00 G) G G ?_));refine MV G G (q0i 3 G G (PF G G G (MV G G (GF G G G (GF G G G (PF G G G (AS G G (NL ?_))))))));exact MN ⟨_,_,G,H,u⟩
  rw[if_neg E] at u;refine RG (MV G G (q0D (v' := .bool true) (q1m G G) (congrArg Value.bool (by rw[decide_eq_false E];rfl)) (q00 G) G G ?_));refine MV G G (SG (q06 G) G G G (SG (q0g Tu9 G) G G G ?_));by_cases J:(p0.length:Int)<=(60:Int)
  .
   rw[if_pos J] at u;obtain⟨b6,N,u⟩:=bnd u;refine DU J (q1q G G) G G G (PT G G G (MV G G (SG (q06 G) G G G (q02 H (Y4m N) G ((fun _ _ h=>FnV.of (Y6c h) (fun _ _=>trivial))) (q0h G G G) G ?_))));intro Y M w H Z hR;obtain rfl:=hR;refine PT G G G (AS G G (NL ?_));exact MN ⟨_,_,G,H,u⟩
  rw[if_neg J] at u;refine DG J (q1q G G) G G G (PT G G G (MV G G (GF G G G (GF G G G (PF G G G (AS G G (NL ?_)))))));exact MN ⟨_,_,G,H,u⟩
 rintro e w ⟨K,M,rfl,H,V⟩;obtain rfl:=oI V;refine TN (RT ?_);obtain rfl:=oI h;exact q07 G G H.ext G
theorem Y5M {p0:Int}{r:Bool}(h:Y2g p0=some r):Ct Tryz.prog 187 [Value.int .i32 p0] (fun M=>True) (fun v M=>v=Value.bool r):=by
 refine Ct.of Tf187 (enters Tf187 Kr G) G G G ?_;intro Y M0 H hp;unfold Y2g at h;refine SQ (RG (AS G G (NL (TN (SQ (BL (SQ ?_)))))));obtain⟨o1,N,h⟩:=bnd h;refine q0c (fun e w =>∃(U:Bool) (M:Mem),e=[(0,Value.int .i32 p0),(3,Value.bool U)]/\St Y M0 M [] w/\some U=some o1) [] ?_ ?_ (trivial)
 .
  by_cases J:(0:Int)<=p0
  .
   rw[if_pos J] at N;refine RG (MV G G (DT J (q1q G G) G (MV G G (SG (q06 G) G G G (SG (q0m G G) G G G (PT G G G (AS G G (NL ?_))))))));exact MN ⟨_,_,G,H,N⟩
  rw[if_neg J] at N;refine RG (MV G G (DF J (q1q G G) G (MV G G (GF G G G (GF G G G (PF G G G (AS G G (NL ?_))))))));exact MN ⟨_,_,G,H,N⟩
 rintro e w ⟨U,M,rfl,H,q5⟩;obtain rfl:=oI q5;refine TN ?_;refine q0a G (fun K=>?_) (fun K=>?_)
 .
  subst K;rw[if_pos rfl] at h;refine SQ (RG (AS G G (NL (TN (RT ?_)))));obtain rfl:=oI h;exact q07 G G H.ext G
 subst K;rw[if_neg l00] at h;refine SQ ?_;obtain⟨o7,O,h⟩:=bnd h;refine q0c (fun e w =>∃(V:Bool) (M:Mem),e=[(10,Value.bool V)]/\St Y M0 M [] w/\some V=some o7) [] ?_ ?_ (trivial)
 .
  by_cases u:(57343:Int)<p0
  .
   rw[if_pos u] at O;refine RG (MV G G (DT u (q0m G G) G (MV G G (SG (q06 G) G G G (SG (q1q G G) G G G (PT G G G (AS G G (NL ?_))))))));exact MN ⟨_,_,G,H,O⟩
  rw[if_neg u] at O;refine RG (MV G G (DF u (q0m G G) G (MV G G (GF G G G (GF G G G (PF G G G (AS G G (NL ?_))))))));exact MN ⟨_,_,G,H,O⟩
 rintro e w ⟨V,M,rfl,H,Z⟩;obtain rfl:=oI Z;refine TN ?_;refine q0a G (fun E=>?_) (fun E=>?_)
 .
  subst E;rw[if_pos rfl] at h;refine SQ (RG (AS G G (NL (TN (RT ?_)))));obtain rfl:=oI h;exact q07 G G H.ext G
 subst E;rw[if_neg l00] at h;refine SK (IB (TN (SQ (RG (AS G G (NL (TN (RT ?_))))))));obtain rfl:=oI h;exact q07 G G H.ext G
end Go.Proofs.YtkgohbecojnfaaaGreatDoor
end
