/-
  Twt3, Twt4, Twt5, Twt6: own texts of this repository (wip/tpl, wip/plans), merged and shaken by wip/tools/pack.py.
-/
import Derived.KernelRfl
import Derived.Test.YtkgohbecojnfaaaGreatDoorE2c
set_option maxRecDepth 100000
set_option linter.unusedVariables false
set_option linter.unusedSimpArgs false
section
namespace Go.Proofs.YtkgohbecojnfaaaGreatDoor
open Go Go.RowKit Go.Ph Go.Ph.Pl Go.Ph.Pf
theorem Y4t {p0:Ls}{V:Int}{r:Int}(h:Y2h p0 V=some r):Ct Tryz.prog 149 [S p0,Value.int .i32 V] (fun M=>True) (fun v M=>v=I r):=by
 refine Ct.of Tf149 (enters Tf149 Kr G) G G G ?_;intro w0 M0 H hp;unfold Y2h at h;refine SR (AN G G (BL (SQ ?_)));obtain⟨o1,e2,h⟩:=bnd h;refine q0c (fun e w =>∃(b3:Bool) (M:Mem),e=[(0,S p0),(1,Value.int .i32 V),(160,Value.bool b3)]/\St w0 M0 M [] w/\some b3=some o1) [] ?_ ?_ (trivial)
 .
  by_cases a7:(0:Int)<=V
  .
   rw[l01 a7] at e2;refine RM G G (DT a7 (q1q G G) G (MV G G (SG (q06 G) G G G (SG (q0m G G) G G G (PT G G G (AS G G (NL ?_)))))));exact MN ⟨_,_,G,H,e2⟩
  rw[l00 a7] at e2;refine RM G G (DF a7 (q1q G G) G (MV G G (GF G G G (GF G G G (PF G G G (AS G G (NL ?_)))))));exact MN ⟨_,_,G,H,e2⟩
 rintro e w ⟨b3,M,rfl,H,q5⟩;obtain rfl:=oI q5;refine TN ?_;refine q0a G (fun ab=>?_) (fun ab=>?_)
 .
  subst ab;rw[l01 rfl] at h;refine SQ ?_;obtain⟨n7,bc,h⟩:=bnd h;refine RM G G (MV G G (ST (Ex.convU8C Tu21 Tu5 G) G (q02 H (Y3v bc) G trivial (q00 G) G ?_)));intro bo M w H b2 hR;obtain rfl:=hR;refine AR G G ?_;obtain rfl:=oI h;exact q07 G G H.ext G
 subst ab;rw[l00 l03] at h;refine SM G G (ST (q0s G G) G (AN G G ?_));refine CB (p:=V=(65533:Int)) G (fun ac=>?_) fun ac=>?_
 .
  rw[l01 ac] at h;refine SQ (SM G G (WR.rangeStr H Tu9 G (q00 G) G ?_));intro a8 w H;refine NT ?_;obtain⟨b4,K,h⟩:=bnd h;refine q0c (fun e w =>∃  (M:Mem),e=[]/\St w0 M0 M [] w/\some (.inl ())=some b4) [] ?_ ?_ (trivial)
  .
   refine BL (q0l (fun m e w =>∃(Y:Nat) (M:Mem),e=[(175,ptr a8 0)]/\St w0 M0 M [.blk a8 (.stringIter ⟨((p0):Ls).toArray⟩ Y)] w/\Y23 p0 m Y=some b4) FU [(175,_)] ⟨rfl,trivial⟩ ⟨_,_,rfl,H,K⟩ ?_);rintro ad e w ⟨Y,M,rfl,H,K⟩;rcases ad with _|ad
   . rw[Y23] at K;cases K
   rw[Y23] at K;refine SQ ?_;by_cases a1:Y<p0.length
   .
    rw[l01 a1] at K;refine RG (WR.nextT H a1 G Ku (q00 G) G ?_);intro w H;refine ST (q05 G G) G (NQ (CT G (SK (TN (BL (SR (ST (q05 G G) G (ST (q05 G G) G (AS G G (AN G G (SM G G (ST (q0s G G) G (NT ?_)))))))))))));refine CB (p:=((Utf.dr (p0.drop Y)).1:Int)=(65533:Int)) G (fun a3=>?_) fun a3=>?_
    .
     rw[l01 a3] at K;refine SM G G (AR G G ?_);obtain rfl:=oI K;try dsimp only at h
     obtain rfl:=oI h;exact q07 G G H.ext G
    rw[l00 a3] at K;refine SK (IB ?_);exact AG ad ⟨_,_,G,H,K⟩ (l0a _)
   rw[l00 a1] at K;refine RG (WR.nextF H (l3n a1) G Km (q00 G) G ?_);refine ST (q05 G G) G (NQ (CF G (q0j (q03 (q03 (q0b ?_))))));exact MN ⟨_,G,(H.pick (L':=[]) Kp),K⟩
  rintro e w ⟨M,rfl,H,bd⟩;obtain rfl:=oI bd;try dsimp only at h
  refine TN (SR (AR G G ?_));obtain rfl:=oI h;exact q07 G G H.ext G
 rw[l00 ac] at h;refine SQ ?_;obtain⟨b5,ba,h⟩:=bnd h;refine RM G G (q02 H (Y6X ba) G trivial (q00 G) G ?_);intro bp M w H b2 hR;obtain rfl:=hR;refine ST (q0w G) G (AN G G ?_);refine q0a G (fun N=>?_) (fun N=>?_)
 .
  replace N:b5=false:=by simpa using N
  subst N;rw[l00 l03] at h;refine SR (AR G G ?_);obtain rfl:=oI h;exact q07 G G H.ext G
 replace N:b5=true:=by simpa using N
 subst N;rw[l01 rfl] at h;refine WC.scope (SM G G (ST (Ex.runeStr Tu21 Tu9 G) G (AQ G G ?_)));obtain⟨Z,am,h⟩:=bnd h;refine RM G G (ST (q0g Tu9 G) G (ST (q0I G G am) G (AN G G (SM G G (AQ G G (RG (AQ G G ?_)))))));obtain⟨b6,u,h⟩:=bnd h;refine q0c (fun e w =>∃  (M:Mem),e=[]/\St w0 M0 M [] w/\some (.inl ())=some b6) [] ?_ ?_ (trivial)
 .
  refine BL (q0l (fun m e w =>∃(a9:Int) (M:Mem),e=[(0,S p0),(7,S (Chs.utf8 V)),(8,I Z),(9,I a9)]/\St w0 M0 M [] w/\Y25 p0 V Z m a9=some b6) FU [(0,_),(7,_),(8,_),(9,_)] ⟨rfl,rfl,rfl,rfl,trivial⟩ ⟨_,_,rfl,H,u⟩ ?_);rintro b7 e w ⟨a9,M,rfl,H,u⟩;rcases b7 with _|b7
  . rw[Y25] at u;cases u
  rw[Y25] at u;refine SQ (SM G G (MV G G (ST (q0g Tu9 G) G (ST (q0m G G) G (NT ?_)))));refine CB (p:=a9<(p0.length:Int)) G (fun a4=>?_) fun a4=>?_
  .
   rw[l01 a4] at u;refine SK (TN (BL (WC.scope (SQ (SQ ?_)))));obtain⟨ae,an,u⟩:=bnd u;obtain⟨ah,ao,u⟩:=bnd u;refine q0v (m:=7) G G H ?_;intro w H;refine TK 0 G (fun _=>q06 G) G (TK 1 G (fun _=>q06 G) G (TK 2 G (fun _=>q0p Tu9 G G an) G (TK 3 G (fun _=>q06 G) G (q0k (fuel:=0) [4,5,6] G Kr (MV G G (ST (q0p Tu9 G G ao) G (ST (Ex.neqB (c:=ae) (d:=ah) G G) G (NA (q0f Kr (TN ?_))))))))));obtain⟨be,J,u⟩:=bnd u;refine q0c (fun e w =>∃(a0:Int) (M:Mem),e=[(0,S p0),(7,S (Chs.utf8 V)),(8,I Z),(9,I a0)]/\St w0 M0 M [] w/\some (.inl a0)=some be) [] ?_ ?_ (trivial)
   .
    refine q0a G (fun O=>?_) (fun O=>?_)
    .
     replace O :¬(ae=ah):=of_not_decide O;rw[l00 O] at J;refine SQ ?_;obtain⟨bq,ap,J⟩:=bnd J;obtain⟨br,aq,J⟩:=bnd J;obtain⟨bs,ar,J⟩:=bnd J;obtain⟨bg,bb,J⟩:=bnd J;refine q0v (m:=9) G G H ?_;intro w H;refine TK 0 G (fun _=>q06 G) G (TK 1 G (fun _=>q06 G) G (TK 2 G (fun _=>q0e G G ap) G (TK 3 G (fun _=>q1f Tu9 G G aq) G (TK 4 G (fun _=>q06 G) G (q0k (fuel:=0) [5,6,7,8] G Kr (MV G G (ST (q0p Tu9 G G ar) G (q02 H (Y3v bb) G trivial (q00 G) G ?_))))))));intro bt M w H b2 hR;obtain rfl:=hR;refine AS G G (NA (q0f Kr (TN (SQ (SM G G (ST (q0m G G) G (NT ?_)))))));refine CB (p:=bg<(0:Int)) G (fun a5=>?_) fun a5=>?_
     .
      rw[l01 a5] at J;refine SR (AR G G ?_);obtain rfl:=oI J;try dsimp only at u
      obtain rfl:=oI u;try dsimp only at h
      obtain rfl:=oI h;exact q07 G G H.ext G
     rw[l00 a5] at J;refine SK (TN ?_);obtain⟨bu,au,J⟩:=bnd J;obtain⟨bv,av,J⟩:=bnd J;refine RM G G (MV G G (ST (q0e G G au) G (ST (q0e G G av) G (AS G G (NL ?_)))));exact MN ⟨_,_,G,H,J⟩
    replace O:ae=ah:=of_not_decide' O;rw[l01 O] at J;refine SK ?_;exact MN ⟨_,_,G,H,J⟩
   rintro e w ⟨a0,M,rfl,H,bh⟩;obtain rfl:=oI bh;try dsimp only at u
   refine TN (SQ (SR (AN G G ?_)));obtain⟨b8,E,u⟩:=bnd u;refine q0c (fun e w =>∃  (M:Mem),e=[(8,I Z),(9,I a0)]/\St w0 M0 M [] w/\some ()=some b8) [] ?_ ?_ (trivial)
   .
    refine BL (q0l (fun m e w =>∃(aa:Int) (M:Mem),e=[(0,S p0),(7,S (Chs.utf8 V)),(8,I Z),(9,I a0),(12,I aa)]/\St w0 M0 M [] w/\Y24 p0 V Z a0 m aa=some b8) FU [(0,_),(7,_),(8,_),(9,_),(12,_)] ⟨rfl,rfl,rfl,rfl,rfl,trivial⟩ ⟨_,_,rfl,H,E⟩ ?_);rintro ai e w ⟨aa,M,rfl,H,E⟩;rcases ai with _|ai
    . rw[Y24] at E;cases E
    rw[Y24] at E;refine SQ (SM G G (MV G G (ST (q0g Tu9 G) G (ST (q0m G G) G (NT ?_)))));refine CB (p:=aa<((Chs.utf8 V).length:Int)) G (fun a6=>?_) fun a6=>?_
    .
     rw[l01 a6] at E;refine KQ (BL (SQ ?_));obtain⟨bw,aw,E⟩:=bnd E;obtain⟨aj,ax,E⟩:=bnd E;obtain⟨bx,ay,E⟩:=bnd E;obtain⟨ak,az,E⟩:=bnd E;refine q0v (m:=11) G G H ?_;intro w H;refine TK 0 G (fun _=>q06 G) G (TK 1 G (fun _=>q06 G) G (TK 2 G (fun _=>q06 G) G (TK 3 G (fun _=>q0I G G aw) G (TK 4 G (fun _=>q0p Tu9 G G ax) G (TK 5 G (fun _=>q06 G) G (TK 6 G (fun _=>q06 G) G ?_))))));refine q0k (fuel:=0) [7,8,9,10] G Kr (MV G G (ST (q0I G G ay) G (ST (q0p Tu9 G G az) G (ST (Ex.neqB (c:=aj) (d:=ak) G G) G (NA (q0f Kr (TN ?_)))))));refine q0a G (fun U=>?_) (fun U=>?_)
     .
      replace U :¬(aj=ak):=of_not_decide U;rw[l00 U] at E;cases E
     replace U:aj=ak:=of_not_decide' U;rw[l01 U] at E;refine SK (IB (TN ?_));obtain⟨bz,b0,E⟩:=bnd E;refine RM G G (ST (q0e G G b0) G (AS G G (NL ?_)));exact AG ai ⟨_,_,G,H,E⟩ (l0a _)
    rw[l00 a6] at E;refine q0j (q03 (q03 (q0b ?_)));exact MN ⟨_,G,H,E⟩
   rintro e w ⟨M,rfl,H,bi⟩;obtain rfl:=oI bi;try dsimp only at u
   refine TN (SQ (SQ ?_));obtain⟨c0,b1,u⟩:=bnd u;refine RM G G (MV G G (ST (q0I G G b1) G (AR G G ?_)));obtain rfl:=oI u;try dsimp only at h
   obtain rfl:=oI h;exact q07 G G H.ext G
  rw[l00 a4] at u;refine q0j (q03 (q03 (q0b ?_)));exact MN ⟨_,G,H,u⟩
 rintro e w ⟨M,rfl,H,bj⟩;obtain rfl:=oI bj;try dsimp only at h
 refine TN (SQ (SR (AR G G ?_)));obtain rfl:=oI h;exact q07 G G H.ext G
theorem Y4w {p0:Int}{r:Bool}(h:Y0J p0=some r):Ct Tryz.prog 213 [I p0] (fun M=>True) (fun v M=>v=Value.bool r):=by
 refine Ct.of Tf213 (enters Tf213 Kr G) G G G ?_;intro u M0 H hp;unfold Y0J at h;refine SR (AN G G (SM G G (ST (q0A G G) G (AR G G ?_))));obtain rfl:=oI h;exact q07 G G H.ext G
theorem Y2b {p0:Ls}{r:Z06}(h:Y0j p0=some r):Ct Tryz.prog 75 [S p0] (fun M=>True) (fun v M=>v=Value.tuple #[Value.agg (List.map encBo r.1).toArray,Value.bool r.2]):=by
 refine Ct.of Tf75 (enters Tf75 Kr G) G G G ?_;intro w0 M0 H hp;unfold Y0j at h;refine SR (q09 (List.map encBo (List.replicate 256 false:List Bool)) H Tz143 Kr (q00 G) G ?_);intro E w H;refine AQ G G (SR (AN G G ?_));obtain⟨o1,u,h⟩:=bnd h;refine q0c (fun e w =>∃(l3:List Bool) (M:Mem),e=[(2,ptr E 0)]/\St w0 M0 M [.blk E (.cells (List.map encBo l3).toArray 143)] w/\some (.inl l3)=some o1) [] ?_ ?_ (trivial)
 .
  refine BL (q0l (fun m e w =>∃(N:List Bool) (O:Int) (M:Mem),e=[(0,S p0),(2,ptr E 0),(4,I O)]/\St w0 M0 M [.blk E (.cells (List.map encBo N).toArray 143)] w/\Y1y p0 m N O=some o1) FU [(0,_),(2,_),(4,_)] ⟨rfl,rfl,rfl,trivial⟩ ⟨_,_,_,rfl,H,u⟩ ?_);rintro m6 e w ⟨N,O,M,rfl,H,u⟩;rcases m6 with _|m6
  . rw[Y1y] at u;cases u
  rw[Y1y] at u;refine SQ (SM G G (MV G G (ST (q0g Tu9 G) G (ST (q0m G G) G (NT ?_)))));refine CB (p:=O<(p0.length:Int)) G (fun J=>?_) fun J=>?_
  .
   rw[l01 J] at u;refine KQ (BL (SQ ?_));obtain⟨c8,a8,u⟩:=bnd u;refine RM G G (MV G G (ST (q0p Tu9 G G a8) G (AQ G G (SM G G (ST (q1g (i:=c8.toNat) (j:=128) G G) G (NT ?_))))));refine CB (p:=128<=c8.toNat) G (fun K=>?_) fun K=>?_
   .
    rw[l01 K] at u;refine SQ ?_;obtain⟨ac,U,u⟩:=bnd u;obtain⟨ah,V,u⟩:=bnd u;obtain⟨ai,Y,u⟩:=bnd u;refine RG (ST (Ex.loadAggA H G Km Ta143 Ts143 U) G ?_);refine q1A (l2:=ac) H G G (fun _=>G) Ud V Y Ts143 (q00 G) ?_;intro w H;refine AR G G ?_;obtain⟨aj,Z,u⟩:=bnd u;obtain rfl:=oI u;try dsimp only at h
    obtain rfl:=oI h;exact q0r G ⟨_,G,H.loadAggA Km Ta143 Ts143 Z⟩ G H.ext G
   rw[l00 K] at u;refine SK (TN ?_);obtain⟨ak,a0,u⟩:=bnd u;obtain⟨al,a1,u⟩:=bnd u;refine RM G G (ST (Ex.idxArrC (l:=N) Tu143 Ts4 G G a0) G (WR.storeArr (a:=true) H G G ⟨G,G⟩ Ud a1 Ts4 (q00 G) ?_));intro w H;refine NL (IB (TN ?_));obtain⟨am,a2,u⟩:=bnd u;refine RM G G (ST (q0e G G a2) G (AS G G (NL ?_)));exact AG m6 ⟨_,_,_,G,H,u⟩ (l0a _)
  rw[l00 J] at u;refine q0j (q03 (q03 (q0b ?_)));exact MN ⟨_,_,G,H,u⟩
 rintro e w ⟨l3,M,rfl,H,ad⟩;obtain rfl:=oI ad;try dsimp only at h
 refine TN (SQ ?_);obtain⟨ae,a3,h⟩:=bnd h;obtain⟨an,a4,h⟩:=bnd h;obtain⟨ao,a5,h⟩:=bnd h;refine RG (ST (Ex.loadAggA H G Km Ta143 Ts143 a3) G ?_);refine q1A (l2:=ae) H G G (fun _=>G) Ud a4 a5 Ts143 (q00 G) ?_;intro w H;refine AR G G ?_;obtain⟨ap,a6,h⟩:=bnd h;obtain rfl:=oI h;exact q0r G ⟨_,G,H.loadAggA Km Ta143 Ts143 a6⟩ G H.ext G
theorem Y2c {p0:List Bool}{J:UInt8}{E:Nat}{r:Bool}(h:Y0d p0 J=some r):Ct Tryz.prog 111 [ptr E 0,encB J] (fun M=>PtM M E (.cells (List.map encBo p0).toArray 143)) (fun v M=>v=Value.bool r):=by
 refine Ct.of Tf111 (enters Tf111 Kr G) G G G ?_;intro N M0 H hp;have K:=hp;unfold Y0d at h;refine SR (AQ G G ?_);obtain⟨O,u,h⟩:=bnd h;refine RM G G (MV G G (ST (q0S G) G (ST (Ex.idxArrC (l:=p0) Tu143 Ts4 G G u) G (ST (Ex.loadArrM H G K u Ta4) G (AR G G ?_)))));obtain rfl:=oI h;exact q07 G G H.ext G
theorem Y6x {p0:Ls}{V:Ls}{r:Int}(h:Y2s p0 V=some r):Ct Tryz.prog 182 [S p0,S V] (fun M=>True) (fun v M=>v=I r):=by
 refine Ct.of Tryz.func182 (enters Tryz.func182 Kr G) G G G ?_;intro w0 M0 H hp;unfold Y2s at h;refine SR (AQ G G (SM G G (ST (q0z G G) G (NT ?_))));refine CB (p:=V=[]) G (fun a5=>?_) fun a5=>?_
 .
  rw[l01 a5] at h;refine SR (AR G G ?_);obtain rfl:=oI h;exact q07 G G H.ext G
 rw[l00 a5] at h;refine KQ (SM G G (ST (q0g Tu9 G) G (ST (q0s G G) G (NT ?_))));refine CB (p:=(V.length:Int)=(1:Int)) G (fun a6=>?_) fun a6=>?_
 .
  rw[l01 a6] at h;refine SQ ?_;obtain⟨c3,am,h⟩:=bnd h;refine RM G G (ST (q0p Tu9 G G am) G (ST (Ex.conv Tu5 Tu21 G) G (AQ G G (SM G G (ST (q0Q G G) G (NT ?_))))));obtain⟨o4,e5,h⟩:=bnd h;refine q0c (fun e w =>∃(n6:Int) (M:Mem),e=[(0,S p0),(5,Value.int .i32 n6)]/\St w0 M0 M [] w/\some n6=some o4) [] ?_ ?_ (trivial)
  .
   refine CB (p:=(128:Int)<=(IntKind.i32.wrap (c3.toNat:Int))) G (fun a7=>?_) fun a7=>?_
   .
    rw[l01 a7] at e5;refine RG (AS G G (NL ?_));exact MN ⟨_,_,G,H,e5⟩
   rw[l00 a7] at e5;refine SK ?_;exact MN ⟨_,_,G,H,e5⟩
  rintro e w ⟨n6,M,rfl,H,q8⟩;obtain rfl:=oI q8;refine TN (SQ ?_);obtain⟨n9,ao,h⟩:=bnd h;refine RM G G (MV G G (q02 H (Y4t ao) G trivial (q00 G) G ?_));intro b3 M w H N hR;obtain rfl:=hR;refine AR G G ?_;obtain rfl:=oI h;exact q07 G G H.ext G
 rw[l00 a6] at h;refine KQ (SQ ?_);obtain⟨b4,ap,h⟩:=bnd h;refine RM G G (ST (q0g Tu9 G) G (q02 H (Y4w ap) G trivial (q00 G) G ?_));intro b5 M w H N hR;obtain rfl:=hR;refine NT ?_;obtain⟨av,u,h⟩:=bnd h;refine q0c (fun e w =>∃  (M:Mem),e=[(0,S p0),(1,S V)]/\St w0 M0 M [] w/\some (.inl ())=some av) [] ?_ ?_ (trivial)
 .
  refine q0a G (fun Y=>?_) (fun Y=>?_)
  .
   subst Y;rw[l01 rfl] at u;refine SQ ?_;obtain⟨⟨a8,b6⟩,aq,u⟩:=bnd u;try dsimp only at u
   obtain⟨b7,ae,u⟩:=bnd u;obtain⟨b8,ah,u⟩:=bnd u;refine RM G G (q02 H (Y2b aq) G trivial (q00 G) G ?_);intro b9 M w H N hR;try dsimp only at hR
   obtain rfl:=hR;refine MV G G (ST (q05 G G) G (ST (q05 G G) G (q09 (List.map encBo (List.replicate 256 false:List Bool)) H Tz143 Kr (q00 G) G ?_)));intro a9 w H;refine q1A (l2:=a8) H G G (fun _=>G) Ud ae ah Ts143 (q00 G) ?_;intro w H;refine AN G G (SM G G (NT ?_));refine q0a G (fun Z=>?_) (fun Z=>?_)
   .
    subst Z;rw[l01 rfl] at u;refine SQ (SR (AN G G ?_));obtain⟨ak,E,u⟩:=bnd u;refine q0c (fun e w =>∃  (M:Mem),e=[]/\St w0 M0 M [] w/\some (.inl ())=some ak) [] ?_ ?_ (trivial)
    .
     refine BL ?_;obtain⟨M,N,K,H⟩:=H.freezeVar (b:=a9) Kv;refine q0l (fun m e w =>∃(a3:Int) (M:Mem),e=[(0,S p0),(6,ptr a9 0),(8,I a3)]/\St w0 M0 M [] w/\PtM M a9 (.cells (List.map encBo a8).toArray 143)/\Y0O p0 a8 m a3=some ak) FU [(0,_),(6,_),(8,_)] ⟨rfl,rfl,rfl,trivial⟩ ⟨_,_,rfl,H,K,E⟩ ?_;rintro aa e w ⟨a3,M,rfl,H,K,E⟩;rcases aa with _|aa
     . rw[Y0O] at E;cases E
     rw[Y0O] at E;refine SQ (SM G G (MV G G (ST (q0g Tu9 G) G (ST (q0m G G) G (NT ?_)))));refine CB (p:=a3<(p0.length:Int)) G (fun a0=>?_) fun a0=>?_
     .
      rw[l01 a0] at E;refine KQ (BL (SQ ?_));obtain⟨ba,ai,E⟩:=bnd E;obtain⟨bb,ar,E⟩:=bnd E;refine RM G G (MV G G (ST (q0p Tu9 G G ai) G (q02 H (Y2c ar) G (K) (q00 G) G ?_)));intro bc M w H N hR;have K:=K.mono N;obtain rfl:=hR;refine NT ?_;refine q0a G (fun a1=>?_) (fun a1=>?_)
      .
       subst a1;rw[l01 rfl] at E;refine SM G G (AR G G ?_);obtain rfl:=oI E;try dsimp only at u
       obtain rfl:=oI u;try dsimp only at h
       obtain rfl:=oI h;exact q07 G G H.ext G
      subst a1;rw[l00 l03] at E;refine SK (IB (TN ?_));obtain⟨bd,aj,E⟩:=bnd E;refine RM G G (ST (q0e G G aj) G (AS G G (NL ?_)));exact AG aa ⟨_,_,G,H,K,E⟩ (l0a _)
     rw[l00 a0] at E;refine q0j (q03 (q03 (q0b ?_)));exact MN ⟨_,G,H,E⟩
    rintro e w ⟨M,rfl,H,aw⟩;obtain rfl:=oI aw;try dsimp only at u
    refine TN (SR (AR G G ?_));obtain rfl:=oI u;try dsimp only at h
    obtain rfl:=oI h;exact q07 G G H.ext G
   subst Z;rw[l00 l03] at u;refine SK ?_;exact MN ⟨_,G,(H.pick (L':=[]) Kp),u⟩
  subst Y;rw[l00 l03] at u;refine SK ?_;exact MN ⟨_,G,H,u⟩
 rintro e w ⟨M,rfl,H,ax⟩;obtain rfl:=oI ax;try dsimp only at h
 refine TN (SQ (SM G G (WR.rangeStr H Tu9 G (q00 G) G ?_)));intro ab w H;refine NT ?_;obtain⟨al,J,h⟩:=bnd h;refine q0c (fun e w =>∃  (M:Mem),e=[]/\St w0 M0 M [] w/\some (.inl ())=some al) [] ?_ ?_ (trivial)
 .
  refine BL (q0l (fun m e w =>∃(O:Nat) (M:Mem),e=[(1,S V),(45,ptr ab 0)]/\St w0 M0 M [.blk ab (.stringIter ⟨((p0):Ls).toArray⟩ O)] w/\Y0P p0 V m O=some al) FU [(1,_),(45,_)] ⟨rfl,rfl,trivial⟩ ⟨_,_,rfl,H,J⟩ ?_);rintro ac e w ⟨O,M,rfl,H,J⟩;rcases ac with _|ac
  . rw[Y0P] at J;cases J
  rw[Y0P] at J;refine SQ ?_;by_cases U:O<p0.length
  .
   rw[l01 U] at J;refine RG (WR.nextT H U G Ku (q00 G) G ?_);intro w H;refine ST (q05 G G) G (NQ (CT G (SK (TN (BL (SR (ST (q05 G G) G (ST (q05 G G) G (AS G G (AQ G G ?_))))))))));obtain⟨ay,au,J⟩:=bnd J;refine RM G G (MV G G (q02 H (Y4t au) G trivial (q00 G) G ?_));intro be M w H N hR;obtain rfl:=hR;refine ST (q0Q G G) G (NT ?_);refine CB (p:=(0:Int)<=ay) G (fun a2=>?_) fun a2=>?_
   .
    rw[l01 a2] at J;refine SM G G (AR G G ?_);obtain rfl:=oI J;try dsimp only at h
    obtain rfl:=oI h;exact q07 G G H.ext G
   rw[l00 a2] at J;refine SK (IB ?_);exact AG ac ⟨_,_,G,H,J⟩ (l0a _)
  rw[l00 U] at J;refine RG (WR.nextF H (l3n U) G Km (q00 G) G ?_);refine ST (q05 G G) G (NQ (CF G (q0j (q03 (q03 (q0b ?_))))));exact MN ⟨_,G,(H.pick (L':=[]) Kp),J⟩
 rintro e w ⟨M,rfl,H,az⟩;obtain rfl:=oI az;try dsimp only at h
 refine TN (SR (AR G G ?_));obtain rfl:=oI h;exact q07 G G H.ext G
theorem Y5L {p0:Ls}{u:Ls}{r:Bool}(h:Y1K p0 u=some r):Ct Tryz.prog 146 [S p0,S u] (fun M=>True) (fun v M=>v=Value.bool r):=by
 refine Ct.of Tryz.func146 (enters Tryz.func146 Kr G) G G G ?_;intro K M0 H hp;unfold Y1K at h;refine SR (AQ G G ?_);obtain⟨N,E,h⟩:=bnd h;refine RM G G (MV G G (q02 H (Y6x E) G trivial (q00 G) G ?_));intro O M w H J hR;obtain rfl:=hR;refine ST (q0Q G G) G (AR G G ?_);obtain rfl:=oI h;exact q07 G G H.ext G
theorem Y99 {p0:Ls}{r:Bool}(h:Y5Q p0=some r):Ct Tryz.prog 107 [S p0] (fun M=>True) (fun v M=>v=Value.bool r):=by
 refine Ct.of Tryz.func107 (enters Tryz.func107 Kr G) G G G ?_;intro J M0 H hp;unfold Y5Q at h;refine SR (AQ G G ?_);obtain⟨K,u,h⟩:=bnd h;refine RM G G (q02 H (Y5L u) G trivial (q00 G) G ?_);intro N M w H E hR;obtain rfl:=hR;refine AR G G ?_;obtain rfl:=oI h;exact q07 G G H.ext G
theorem Y33 {p0:UInt8}{r:Bool}(h:Y22 p0=some r):Ct Tryz.prog 40 [encB p0] (fun M=>True) (fun v M=>v=Value.bool r):=by
 refine Ct.of Tryz.func40 (enters Tryz.func40 Kr G) G G G ?_;intro K M0 H hp;unfold Y22 at h;refine SR (AQ G G ?_);obtain⟨N,E,h⟩:=bnd h;refine q0c (fun e w =>∃(J:Bool) (M:Mem),e=[(2,Value.bool J)]/\St K M0 M [] w/\some J=some N) [] ?_ ?_ (trivial)
 .
  by_cases u:p0=32
  .
   rw[l01 u] at E;refine RM G G (DT u (q0J (c:=p0) (d:=32) G G) G (MV G G (GT G G G (GT G G G (PT G G G (AS G G (NL ?_)))))));exact MN ⟨_,_,G,H,E⟩
  rw[l00 u] at E;refine RM G G (DF u (q0J (c:=p0) (d:=32) G G) G (MV G G (SG (q06 G) G G G (SG (q0J (c:=p0) (d:=9) G G) G G G (PF G G G (AS G G (NL ?_)))))));exact MN ⟨_,_,G,H,E⟩
 rintro e w ⟨J,M,rfl,H,O⟩;obtain rfl:=oI O;refine TN (RT ?_);obtain rfl:=oI h;exact q07 G G H.ext G
theorem Y8w {p0:Ls}{r:Bool}(h:Y5h p0=some r):Ct Tryz.prog 66 [S p0] (fun M=>True) (fun v M=>v=Value.bool r):=by
 refine Ct.of Tryz.func66 (enters Tryz.func66 Kr G) G G G ?_;intro w0 M0 H hp;unfold Y5h at h;refine SR (AQ G G ?_);obtain⟨o1,u,h⟩:=bnd h;refine q0c (fun e w =>∃(O:Bool) (M:Mem),e=[(2,Value.bool O)]/\St w0 M0 M [] w/\some O=some o1) [] ?_ ?_ (trivial)
 .
  obtain⟨b4,Y,u⟩:=bnd u;refine RM G G (q02 H (Y99 Y) G trivial (q00 G) G ?_);intro v4 M w H N hR;obtain rfl:=hR;refine ST (q0w G) G (MV G G ?_);rcases b4 with _|_
  .
   rw[l00 l03] at u;by_cases E:p0=[]
   .
    rw[l01 E] at u;refine SG (q06 G) G G G (DU E (q0z G G) G G G (SG (q06 G) G G G (q0i 13 G G (SG (Ex.pickT G G) G G G (PT G G G (AS G G (NL ?_)))))));exact MN ⟨_,_,G,H,u⟩
   rw[l00 E] at u;obtain⟨c7,U,u⟩:=bnd u;obtain⟨b8,Z,u⟩:=bnd u;refine SG (q06 G) G G G (DG E (q0z G G) G G G (SG (q06 G) G G G (SG (q06 G) G G G (SG (q0p Tu9 G G U) G G G (q02 H (Y33 Z) G trivial (q0h G G G) G ?_)))));intro a5 M w H N hR;obtain rfl:=hR;refine SG (q0w G) G G G (SG (q06 G) G G G ?_);rcases b8 with _|_
   .
    rw[l00 l03] at u;obtain⟨a6,J,u⟩:=bnd u;obtain⟨a7,K,u⟩:=bnd u;obtain⟨a8,V,u⟩:=bnd u;refine SG (q06 G) G G G (SG (q06 G) G G G (SG (q0g Tu9 G) G G G (SG (q0I G G J) G G G (SG (q0p Tu9 G G K) G G G (q02 H (Y33 V) G trivial (q0h G G G) G ?_)))));intro a9 M w H N hR;obtain rfl:=hR;refine SG (q0w G) G G G (SG (Ex.pickT G G) G G G (SG (Ex.pickF G G) G G G (PT G G G (AS G G (NL ?_)))));exact MN ⟨_,_,G,H,u⟩
   rw[l01 rfl] at u;refine q0i 7 G G (SG (Ex.pickF G G) G G G (SG (Ex.pickF G G) G G G (PT G G G (AS G G (NL ?_)))));exact MN ⟨_,_,G,H,u⟩
  rw[l01 rfl] at u;refine q0i 17 G G (PF G G G (AS G G (NL ?_)));exact MN ⟨_,_,G,H,u⟩
 rintro e w ⟨O,M,rfl,H,a0⟩;obtain rfl:=oI a0;refine TN (RT ?_);obtain rfl:=oI h;exact q07 G G H.ext G
theorem Y8x {p0:Ls}{p1:Int}{r:Int}(h:Y5i p0 p1=some r):Ct Tryz.prog 67 [S p0,I p1] (fun M=>True) (fun v M=>v=I r):=by
 refine Ct.of Tryz.func67 (enters Tryz.func67 Kr G) G G G ?_;intro w0 M0 H hp;unfold Y5i at h;refine SR (AQ G G (RG (AQ G G (SM G G (ST (Ex.max2 G G) G (AN G G ?_))))));obtain⟨o1,u,h⟩:=bnd h;refine q0c (fun e w =>∃(n3:Int) (M:Mem),e=[(5,I n3)]/\St w0 M0 M [] w/\some n3=some o1) [] ?_ ?_ (trivial)
 .
  refine BL (q0l (fun m e w =>∃(U:Int) (V:Int) (M:Mem),e=[(0,S p0),(5,I U),(6,I V)]/\St w0 M0 M [] w/\Y28 p0 m U V=some o1) FU [(0,_),(5,_),(6,_)] ⟨rfl,rfl,rfl,trivial⟩ ⟨_,_,_,rfl,H,u⟩ ?_);rintro m6 e w ⟨U,V,M,rfl,H,u⟩;rcases m6 with _|m6
  . rw[Y28] at u;cases u
  rw[Y28] at u;refine SQ (SM G G (MV G G (ST (q0g Tu9 G) G (ST (q0m G G) G (NT ?_)))));refine CB (p:=V<(p0.length:Int)) G (fun Y=>?_) fun Y=>?_
  .
   rw[l01 Y] at u;refine KQ (BL (SQ (SQ ?_)));obtain⟨o8,E,u⟩:=bnd u;refine q0c (fun e w =>∃(Z:Bool) (M:Mem),e=[(0,S p0),(5,I U),(6,I V),(26,Value.bool Z)]/\St w0 M0 M [] w/\some Z=some o8) [] ?_ ?_ (trivial)
   .
    obtain⟨am,a3,E⟩:=bnd E;obtain⟨ad,a9,E⟩:=bnd E;refine RM G G (MV G G (ST (q0p Tu9 G G a3) G (q02 H (Y33 a9) G trivial (q00 G) G ?_)));intro an M w H ae hR;obtain rfl:=hR;refine ST (q0w G) G (MV G G ?_);rcases ad with _|_
    .
     rw[l00 l03] at E;refine q0i 5 G G (PT G G G (NL ?_));exact MN ⟨_,_,G,H,E⟩
    rw[l01 rfl] at E;obtain⟨ao,a4,E⟩:=bnd E;obtain⟨ap,a5,E⟩:=bnd E;obtain⟨aq,aa,E⟩:=bnd E;refine SG (q06 G) G G G (SG (q06 G) G G G (SG (q0I G G a4) G G G (SG (q0p Tu9 G G a5) G G G (q02 H (Y33 aa) G trivial (q0h G G G) G ?_))));intro ar M w H ae hR;obtain rfl:=hR;refine PF G G G (NL ?_);exact MN ⟨_,_,G,H,E⟩
   rintro e w ⟨Z,M,rfl,H,ah⟩;obtain rfl:=oI ah;refine TN ?_;refine q0a G (fun K=>?_) (fun K=>?_)
   .
    subst K;rw[l01 rfl] at u;refine q0j (q03 (q0b (TN ?_)));obtain⟨au,a6,u⟩:=bnd u;refine RM G G (ST (q0e G G a6) G (AS G G (NL ?_)));exact AG m6 ⟨_,_,_,G,H,u⟩ (l0a _)
   subst K;rw[l00 l03] at u;refine KQ (SQ ?_);obtain⟨ai,O,u⟩:=bnd u;refine q0c (fun e w =>∃(a0:Bool) (M:Mem),e=[(0,S p0),(5,I U),(6,I V),(32,Value.bool a0)]/\St w0 M0 M [] w/\some a0=some ai) [] ?_ ?_ (trivial)
   .
    by_cases J:(0:Int)<U
    .
     rw[l01 J] at O;refine RM G G (DT J (q0A G G) G (MV G G (SG (q06 G) G G G (SG (q0A G G) G G G (PT G G G (NL ?_))))));exact MN ⟨_,_,G,H,O⟩
    rw[l00 J] at O;refine RM G G (DF J (q0A G G) G (MV G G (GF G G G (GF G G G (PF G G G (NL ?_))))));exact MN ⟨_,_,G,H,O⟩
   rintro e w ⟨a0,M,rfl,H,aj⟩;obtain rfl:=oI aj;refine TN ?_;refine q0a G (fun N=>?_) (fun N=>?_)
   .
    subst N;rw[l01 rfl] at u;refine q0j (q03 (q1s G (q03 (q03 (q0b ?_)))));exact MN ⟨_,_,G,H,u⟩
   subst N;rw[l00 l03] at u;refine SK (TN (RM G G (AS G G (NL (IB (TN ?_))))));obtain⟨av,a7,u⟩:=bnd u;refine RM G G (ST (q0e G G a7) G (AS G G (NL ?_)));exact AG m6 ⟨_,_,_,G,H,u⟩ (l0a _)
  rw[l00 Y] at u;refine q0j (q03 (q03 (q0b ?_)));exact MN ⟨_,_,G,H,u⟩
 rintro e w ⟨n3,M,rfl,H,ak⟩;obtain rfl:=oI ak;refine TN (SM G G (AR G G ?_));obtain rfl:=oI h;exact q07 G G H.ext G
theorem Y4Y {p0:Ls}{p1:Ls}{r:Z0p}(h:Y4g p0 p1=some r):Ct Tryz.prog 38 [S p0,S p1] (fun M=>True) (fun v M =>∃x0,v=Value.tuple #[x0,Value.agg #[I r.2.1,I r.2.2]]/\Sl M encS x0 r.1):=by
 refine Ct.of Tryz.func38 (enters Tryz.func38 Kr G) G G G ?_;intro w0 M0 H hp;unfold Y4g at h;refine SR (AS G G (q09 [_,_] H Tz28 G (q00 G) G ?_));intro N w H;refine NQ (BL (SQ ?_));obtain⟨b1,bc,h⟩:=bnd h;refine RM G G (q02 H (Y98 bc) G trivial (q00 G) G ?_);intro bm M w H J hR;obtain rfl:=hR;refine ST (q0w G) G (AN G G ?_);refine q0a G (fun O=>?_) (fun O=>?_)
 .
  replace O:b1=false:=by simpa using O
  subst O;rw[l00 l03] at h;refine SQ ?_;obtain⟨⟨n4,n5⟩,bd,h⟩:=bnd h;try dsimp only at h
  refine RG (q02 H (Y02 bd) G trivial (q00 G) G ?_);intro bn M w H J hR;try dsimp only at hR
  obtain rfl:=hR;refine AS G G (q04 [_,_] H G G G Ku Ts28 G Kf Kf (q00 G) ?_);intro w H;refine NR ?_;obtain rfl:=oI h;exact q0r G G ⟨_,G,H.loadAgg Km Ta28 Ts28 Kf⟩ H.ext (⟨_,G,q0U _ _⟩)
 replace O:b1=true:=by simpa using O
 subst O;rw[l01 rfl] at h;refine SM G G (ST (q0g Tu9 G) G (ST (q0A G G) G (AN G G ?_)));refine CB (p:=(4000:Int)<(p1.length:Int)) G (fun a8=>?_) fun a8=>?_
 .
  rw[l01 a8] at h;refine SQ ?_;obtain⟨⟨n8,n9⟩,az,h⟩:=bnd h;try dsimp only at h
  refine RG (q02 H (Y02 az) G trivial (q00 G) G ?_);intro bo M w H J hR;try dsimp only at hR
  obtain rfl:=hR;refine AS G G (q04 [_,_] H G G G Ku Ts28 G Kf Kf (q00 G) ?_);intro w H;refine NR ?_;obtain rfl:=oI h;exact q0r G G ⟨_,G,H.loadAgg Km Ta28 Ts28 Kf⟩ H.ext (⟨_,G,q0U _ _⟩)
 rw[l00 a8] at h;refine SQ ?_;obtain⟨av,b0,h⟩:=bnd h;refine RM G G (q02 H (Y8w b0) G trivial (q00 G) G ?_);intro bp M w H J hR;obtain rfl:=hR;refine ST (q0w G) G (AN G G ?_);refine q0a G (fun K=>?_) (fun K=>?_)
 .
  replace K:av=false:=by simpa using K
  subst K;rw[l00 l03] at h;refine SQ ?_;obtain⟨⟨bq,br⟩,b2,h⟩:=bnd h;try dsimp only at h
  refine RG (q02 H (Y02 b2) G trivial (q00 G) G ?_);intro bs M w H J hR;try dsimp only at hR
  obtain rfl:=hR;refine AS G G (q04 [_,_] H G G G Ku Ts28 G Kf Kf (q00 G) ?_);intro w H;refine NR ?_;obtain rfl:=oI h;exact q0r G G ⟨_,G,H.loadAgg Km Ta28 Ts28 Kf⟩ H.ext (⟨_,G,q0U _ _⟩)
 replace K:av=true:=by simpa using K
 subst K;rw[l01 rfl] at h;refine SK (IB (TN (SQ ?_)));obtain⟨bt,al,h⟩:=bnd h;obtain⟨bu,am,h⟩:=bnd h;obtain⟨bv,an,h⟩:=bnd h;refine RM G G (ST (q0d G G al) G (MV G G (ST (q0d G G am) G (MV G G (ST (q0g Tu9 G) G (ST (q0e G G an) G (AS G G (AQ G G (RG (AQ G G ?_))))))))));obtain⟨aw,u,h⟩:=bnd h;refine q0c (fun e w =>∃(a2:Ls) (a3:List Ls) (a9:Value) (M:Mem),e=[(5,ptr N 0),(6,S a2),(8,a9)]/\St w0 M0 M [.blk N (.cells #[I 0,I 0] 28),RowI 9 encS a9 a3] w/\some (a2,a3)=some aw) [] ?_ ?_ (trivial)
 .
  refine BL ?_;replace H:=H.newRow 9 encS;refine q0l (fun m e w =>∃(a4:Ls) (aa:Int) (a5:List Ls) (ab:Value) (M:Mem),e=[(5,ptr N 0),(6,S a4),(7,I aa),(8,ab)]/\St w0 M0 M [.blk N (.cells #[I 0,I 0] 28),RowI 9 encS ab a5] w/\Y2R  m a4 aa a5=some aw) FU [(5,_),(6,_),(7,_),(8,_)] ⟨rfl,rfl,rfl,rfl,trivial⟩ ⟨_,_,_,_,_,rfl,(H.pick (L':=[.blk N (.cells #[I 0,I 0] 28),RowI 9 encS (Value.slice none 0 0) []]) Kp),u⟩ ?_;rintro ac e w ⟨a4,aa,a5,ab,M,rfl,H,u⟩;rcases ac with _|ac
  . rw[Y2R] at u;cases u
  rw[Y2R] at u;refine SQ (SM G G (ST (q0g Tu9 G) G (ST (q0A G G) G (NT ?_))));refine CB (p:=(78:Int)<(a4.length:Int)) G (fun Y=>?_) fun Y=>?_
  .
   rw[l01 Y] at u;refine SK (TN (BL (SQ ?_)));obtain⟨be,b3,u⟩:=bnd u;refine RM G G (MV G G (q02 H (Y8x b3) G trivial (q00 G) G ?_));intro bw M w H J hR;obtain rfl:=hR;refine AQ G G (SM G G (ST (q0s G G) G (NT ?_)));refine CB (p:=be=(0:Int)) G (fun Z=>?_) fun Z=>?_
   .
    rw[l01 Z] at u;refine q0j (q03 (q1s G (q03 (q0b ?_))));exact MN ⟨_,_,_,_,G,H,u⟩
   rw[l00 Z] at u;refine KQ ?_;obtain⟨bg,ao,u⟩:=bnd u;obtain⟨bx,ap,u⟩:=bnd u;refine RM G G (MV G G (MV G G (ST (q1z Tu9 G G ao) G (q0M (enc:=encS) xty77 ([bg]:List Ls) H G Kf (fun _=>G) G G (q00 G) G ?_))));intro bz M w H J b4;refine q0F (l:=a5) xty77 G (fun _=>G) H G Ud G (b4) ap (q00 G) G ?_;intro c0 w H;refine AN G G ?_;obtain⟨c1,aq,u⟩:=bnd u;refine RM G G (MV G G (ST (q1f Tu9 G G aq) G (AS G G (AS G G (NL (IB ?_))))));exact AG ac ⟨_,_,_,_,_,G,H,u⟩ (l0a _)
  rw[l00 Y] at u;refine q0j (q03 (q03 (q0b ?_)));exact MN ⟨_,_,_,_,G,H,u⟩
 rintro e w ⟨a2,a3,a9,M,rfl,H,bh⟩;obtain rfl:=oI bh;try dsimp only at h
 refine TN (SQ ?_);obtain⟨U,ar,h⟩:=bnd h;refine RM G G (MV G G (q0M (enc:=encS) xty77 ([a2]:List Ls) H G Kf (fun _=>G) G G (q00 G) G ?_));intro c2 M w H J b5;refine q0F (l:=a3) xty77 G (fun _=>G) H G Ud G (b5) ar (q00 G) G ?_;intro V w H;refine AQ G G (SM G G (ST (q1x (l:=U) Tu77 H Km G) G ?_));refine MV G G (NT ?_);obtain⟨ax,E,h⟩:=bnd h;refine q0c (fun e w =>∃(ad:Int) (ae:Int) (M:Mem),e=[(5,ptr N 0),(8,V)]/\St w0 M0 M [.blk N (.cells #[I ad,I ae] 28),RowI 9 encS V U] w/\some (.inl (ad,ae))=some ax) [] ?_ ?_ (trivial)
 .
  refine BL (q0l (fun m e w =>∃(ah:Int) (ai:Int) (a6:Int) (M:Mem),e=[(5,ptr N 0),(8,V),(55,V),(56,I (U.length:Int)),(57,I a6)]/\St w0 M0 M [.blk N (.cells #[I ah,I ai] 28),RowI 9 encS V U] w/\Y2S U m ah ai a6=some ax) FU [(5,_),(8,_),(55,_),(56,_),(57,_)] ⟨rfl,rfl,rfl,rfl,rfl,trivial⟩ ⟨_,_,_,_,rfl,H,E⟩ ?_);rintro aj e w ⟨ah,ai,a6,M,rfl,H,E⟩;rcases aj with _|aj
  . rw[Y2S] at E;cases E
  rw[Y2S] at E;refine SR (ST (q0m G G) G (NQ ?_));refine CB (p:=a6<(U.length:Int)) G (fun a0=>?_) fun a0=>?_
  .
   rw[l01 a0] at E;refine KQ (BL (SQ ?_));obtain⟨bi,a7,E⟩:=bnd E;refine RM G G (WR.idxRowC (l:=U) H Tu77 Ts9 Km G G a7 (q00 G) G ?_);intro c3 b6;refine ST (Ex.loadRowC H G b6 Km a7 Ta9) G ?_;refine AS G G (AN G G (SM G G (ST (q0g Tu9 G) G (ST (q0A G G) G (NT ?_)))));refine CB (p:=(998:Int)<(bi.length:Int)) G (fun a1=>?_) fun a1=>?_
   .
    rw[l01 a1] at E;refine SQ ?_;obtain⟨⟨c4,c5⟩,b7,E⟩:=bnd E;try dsimp only at E
    refine RM G G (q02 H (Y02 b7) G trivial (q00 G) G ?_);intro c6 M w H J hR;try dsimp only at hR
    obtain rfl:=hR;refine AS G G (q04 [_,_] H G G G Ku Ts28 G Kf Kf (q00 G) ?_);intro w H;refine NR ?_;obtain rfl:=oI E;try dsimp only at h
    obtain rfl:=oI h;exact q0r G G ⟨_,G,H.loadAgg Km Ta28 Ts28 Kf⟩ H.ext (⟨_,G,q0U _ _⟩)
   rw[l00 a1] at E;refine SK (IB (TN ?_));obtain⟨c7,au,E⟩:=bnd E;refine RG (ST (q0e G G au) G (MV G G (NL ?_)));exact AG aj ⟨_,_,_,_,G,H,E⟩ (l0a _)
  rw[l00 a0] at E;refine q0j (q03 (q03 (q0b ?_)));exact MN ⟨_,_,_,G,H,E⟩
 rintro e w ⟨ad,ae,M,rfl,H,bj⟩;obtain rfl:=oI bj;try dsimp only at h
 refine TN (SQ ?_);obtain⟨⟨c8,c9⟩,b8,h⟩:=bnd h;try dsimp only at h
 refine RM G G (q02 H (Y07 b8) G trivial (q00 G) G ?_);intro ca M w H J hR;try dsimp only at hR
 obtain rfl:=hR;refine AS G G (q04 [_,_] H G G G Ku Ts28 G Kf Kf (q00 G) ?_);intro w H;refine NR ?_;obtain⟨M,J,b9,H⟩:=H.freezeRow (v:=V) (enc:=encS) (t:=9) Kv;obtain rfl:=oI h;exact q0r G G ⟨_,G,H.loadAgg Km Ta28 Ts28 Kf⟩ H.ext (⟨_,G,b9⟩)
theorem Y4Z {p0:List Z00}{U:Value}{r:Z02}(h:Y2J p0=some r):Ct Tryz.prog 36 [U] (fun M=>SlS M 2 xenc46 U p0) (fun v M=>v=Value.agg #[I r.1,I r.2]):=by
 refine Ct.of Tryz.func36 (enters Tryz.func36 Kr G) G G G ?_;intro w0 M0 H hp;have E:=hp;unfold Y2J at h;refine SR (q09 [_,_] H Tz28 G (q00 G) G ?_);intro K w H;refine NQ (SM G G (ST (q0L Tu22 E G) G (ST (q0A G G) G (NT ?_))));refine CB (p:=(60:Int)<(p0.length:Int)) G (fun Z=>?_) fun Z=>?_
 .
  rw[l01 Z] at h;refine SQ ?_;obtain⟨⟨n2,n3⟩,ad,h⟩:=bnd h;try dsimp only at h
  refine RG (q02 H (Y02 ad) G trivial (q00 G) G ?_);intro al M w H J hR;try dsimp only at hR
  obtain rfl:=hR;refine q04 [_,_] H G G G Ku Ts28 G Kf Kf (q00 G) ?_;intro w H;refine NR ?_;obtain rfl:=oI h;exact q07 G ⟨_,G,H.loadAgg Km Ta28 Ts28 Kf⟩ H.ext G
 rw[l00 Z] at h;refine KQ (SM G G (ST (q0L Tu22 E G) G (MV G G (NT ?_))));obtain⟨o5,u,h⟩:=bnd h;refine q0c (fun e w =>∃(n7:Int) (n8:Int) (M:Mem),e=[(2,ptr K 0)]/\St w0 M0 M [.blk K (.cells #[I n7,I n8] 28)] w/\some (.inl (n7,n8))=some o5) [] ?_ ?_ (trivial)
 .
  refine BL (q0l (fun m e w =>∃(n9:Int) (V:Int) (Y:Int) (M:Mem),e=[(2,ptr K 0),(11,U),(12,I (p0.length:Int)),(13,I Y)]/\St w0 M0 M [.blk K (.cells #[I n9,I V] 28)] w/\SlS M 2 xenc46 U p0/\Y0M p0 m n9 V Y=some o5) FU [(2,_),(11,_),(12,_),(13,_)] ⟨rfl,rfl,rfl,rfl,trivial⟩ ⟨_,_,_,_,rfl,H,E,u⟩ ?_);rintro a0 e w ⟨n9,V,Y,M,rfl,H,E,u⟩;rcases a0 with _|a0
  . rw[Y0M] at u;cases u
  rw[Y0M] at u;refine SR (ST (q0m G G) G (NQ ?_));refine CB (p:=Y<(p0.length:Int)) G (fun N=>?_) fun N=>?_
  .
   rw[l01 N] at u;refine KQ (BL (SQ ?_));obtain⟨am,a2,u⟩:=bnd u;obtain⟨ak,an,a6,a7⟩:=E.atC a2;refine RM G G (ST (q0q a6 Tu22 Ts46 G G) G (ST (q0E H G a7 Ta46 Ts46 Kf) G ?_));refine q09 [_,_] H Tz46 G (q00 G) G ?_;intro ao w H;refine AS G G (q04 [_,_] H G G G Ku Ts46 G Kf Kf (q00 G) ?_);intro w H;refine NQ ?_;obtain⟨⟨ap,⟨aq,ar⟩⟩,a8,u⟩:=bnd u;try dsimp only at u
   refine RG (ST (q01 Tu46 G Ts9 Dc G) G (ST (XL H Ta9) G ?_));refine ST (q01 Tu46 G Ts9 Dc G) G (ST (XL H Ta9) G ?_);refine q02 H (Y4Y a8) G trivial (q00 G) G ?_;intro au M w H J hR;have E:=E.mono J;try dsimp only at hR
   obtain⟨ai,rfl,aj⟩:=hR;refine MV G G (ST (q05 G G) G (ST (q05 G G) G (q09 [_,_] H Tz28 G (q00 G) G ?_)));intro av w H;refine AS G G (q04 [_,_] H G G G Ku Ts28 G Kf Kf (q00 G) ?_);intro w H;refine NQ ?_;obtain⟨aw,a9,u⟩:=bnd u;refine RG (ST (q08 H G Km Ta28 Ts28 Kf) G ?_);refine q02 H (Y06 a9) G trivial (q00 G) G ?_;intro ax M w H J hR;have E:=E.mono J;obtain rfl:=hR;refine NT ?_;refine q0a G (fun O=>?_) (fun O=>?_)
   .
    subst O;rw[l01 rfl] at u;refine SQ ?_;obtain⟨⟨ay,az⟩,aa,u⟩:=bnd u;try dsimp only at u
    refine RG (ST (q01 Tu28 G Ts3 Dc G) G (ST (XL H Ta3) G ?_));refine MV G G (q02 H (Y02 aa) G trivial (q00 G) G ?_);intro b0 M w H J hR;try dsimp only at hR
    obtain rfl:=hR;refine q04 [_,_] H G G G Ku Ts28 G Kf Kf (q00 G) ?_;intro w H;refine NR ?_;obtain rfl:=oI u;try dsimp only at h
    obtain rfl:=oI h;exact q07 G ⟨_,G,H.loadAgg Km Ta28 Ts28 Kf⟩ H.ext G
   subst O;rw[l00 l03] at u;refine SK (IB (TN ?_));obtain⟨b1,a3,u⟩:=bnd u;refine RG (ST (q0e G G a3) G (MV G G (NL ?_)));exact AG a0 ⟨_,_,_,_,G,(H.pick (L':=[.blk K (.cells #[I n9,I V] 28)]) Kp),E,u⟩ (l0a _)
  rw[l00 N] at u;refine q0j (q03 (q03 (q0b ?_)));exact MN ⟨_,_,_,G,H,u⟩
 rintro e w ⟨n7,n8,M,rfl,H,ah⟩;obtain rfl:=oI ah;try dsimp only at h
 refine TN (SQ ?_);obtain⟨⟨b2,b3⟩,ab,h⟩:=bnd h;try dsimp only at h
 refine RG (q02 H (Y07 ab) G trivial (q00 G) G ?_);intro b4 M w H J hR;try dsimp only at hR
 obtain rfl:=hR;refine q04 [_,_] H G G G Ku Ts28 G Kf Kf (q00 G) ?_;intro w H;refine NR ?_;obtain rfl:=oI h;exact q07 G ⟨_,G,H.loadAgg Km Ta28 Ts28 Kf⟩ H.ext G
theorem Y5D {p0:Z0h}{J:Value}{K:Value}{r:Ls}(h:Y29 p0=some r):Ct Tryz.prog 17 [Value.agg #[J,K]] (fun M=>SlS M 2 xenc46 J p0.1/\Sl M encB K p0.2) (fun v M=>Sl M encB v r):=by
 refine Ct.of Tryz.func17 (enters Tryz.func17 Kr G) G G G ?_;intro w0 M0 H hp;obtain⟨E,u⟩:=hp;unfold Y29 at h;refine SR (q0D [_,_] H G G (q00 G) G ?_);intro Y w H;refine AQ G G (RG (AQ G G (SR (ST (q01 Tu25 G Ts22 Dc G) G (ST (XL H Ta22) G ?_)))));refine ST (q0L Tu22 E G) G (MV G G (NT ?_));obtain⟨o1,U,h⟩:=bnd h;refine q0c (fun e w =>∃(l4:Ls) (v5:Value) (M:Mem),e=[(1,ptr Y 0),(3,v5)]/\St w0 M0 M [.blk Y (.cells #[J,K] 25),RowI 5 encB v5 l4] w/\SlS M 2 xenc46 J p0.1/\Sl M encB K p0.2/\some l4=some o1) [] ?_ ?_ (trivial)
 .
  refine BL ?_;replace H:=H.newRow 5 encB;refine q0l (fun m e w =>∃(l7:Ls) (v8:Value) (n9:Int) (M:Mem),e=[(1,ptr Y 0),(3,v8),(11,J),(12,I (p0.1.length:Int)),(13,I n9)]/\St w0 M0 M [.blk Y (.cells #[J,K] 25),RowI 5 encB v8 l7] w/\SlS M 2 xenc46 J p0.1/\Sl M encB K p0.2/\Y1f p0 m l7 n9=some o1) FU [(1,_),(3,_),(11,_),(12,_),(13,_)] ⟨rfl,rfl,rfl,rfl,rfl,trivial⟩ ⟨_,_,_,_,rfl,(H.pick (L':=[.blk Y (.cells #[J,K] 25),RowI 5 encB (Value.slice none 0 0) []]) Kp),E,u,U⟩ ?_;rintro ae e w ⟨l7,v8,n9,M,rfl,H,E,u,U⟩;rcases ae with _|ae
  . rw[Y1f] at U;cases U
  rw[Y1f] at U;refine SR (ST (q0m G G) G (NQ ?_));refine CB (p:=n9<(p0.1.length:Int)) G (fun a3=>?_) fun a3=>?_
  .
   rw[l01 a3] at U;refine KQ (BL (SQ ?_));obtain⟨bd,ao,U⟩:=bnd U;obtain⟨bb,be,az,b0⟩:=E.atC ao;refine RG (ST (q0q az Tu22 Ts46 G G) G (ST (q0E H G b0 Ta46 Ts46 Kf) G ?_));refine q09 [_,_] H Tz46 G (q00 G) G ?_;intro bg w H;refine q04 [_,_] H G G G Ku Ts46 G Kf Kf (q00 G) ?_;intro w H;refine NQ ?_;obtain⟨⟨a5,⟨bh,bi⟩⟩,b1,U⟩:=bnd U;try dsimp only at U
   refine RG (ST (q01 Tu46 G Ts9 Dc G) G (ST (XL H Ta9) G ?_));refine ST (q01 Tu46 G Ts9 Dc G) G (ST (XL H Ta9) G ?_);refine q02 H (Y4Y b1) G trivial (q00 G) G ?_;intro bj M w H V hR;have E:=E.mono V;have u:=u.mono V;try dsimp only at hR
   obtain⟨a6,rfl,O⟩:=hR;refine MV G G (ST (q05 G G) G (ST (q05 G G) G (q09 [_,_] H Tz28 G (q00 G) G ?_)));intro bm w H;refine AS G G (q04 [_,_] H G G G Ku Ts28 G Kf Kf (q00 G) ?_);intro w H;refine NT (SM G G (ST (q0o Tu77 O G) G (MV G G (NT ?_))));obtain⟨aw,N,U⟩:=bnd U;refine q0c (fun e w =>∃(ah:Ls) (ai:Value) (M:Mem),e=[(1,ptr Y 0),(3,ai),(11,J),(12,I (p0.1.length:Int)),(13,I n9)]/\St w0 M0 M [.blk Y (.cells #[J,K] 25),RowI 5 encB ai ah] w/\SlS M 2 xenc46 J p0.1/\Sl M encB K p0.2/\some ah=some aw) [] ?_ ?_ (trivial)
   .
    refine BL ?_;refine q0l (fun m e w =>∃(a7:Ls) (aj:Value) (a8:Int) (M:Mem),e=[(1,ptr Y 0),(3,aj),(11,J),(12,I (p0.1.length:Int)),(13,I n9),(25,a6),(26,I (a5.length:Int)),(27,I a8)]/\St w0 M0 M [.blk Y (.cells #[J,K] 25),RowI 5 encB aj a7] w/\SlS M 2 xenc46 J p0.1/\Sl M encB K p0.2/\Sl M encS a6 a5/\Y1e a5 m a7 a8=some aw) FU [(1,_),(3,_),(11,_),(12,_),(13,_),(25,_),(26,_),(27,_)] ⟨rfl,rfl,rfl,rfl,rfl,rfl,rfl,rfl,trivial⟩ ⟨_,_,_,_,rfl,(H.pick (L':=[.blk Y (.cells #[J,K] 25),RowI 5 encB v8 l7]) Kp),E,u,O,N⟩ ?_;rintro ak e w ⟨a7,aj,a8,M,rfl,H,E,u,O,N⟩;rcases ak with _|ak
    . rw[Y1e] at N;cases N
    rw[Y1e] at N;refine SR (ST (q0m G G) G (NQ ?_));refine CB (p:=a8<(a5.length:Int)) G (fun a4=>?_) fun a4=>?_
    .
     rw[l01 a4] at N;refine KQ (BL (SQ ?_));obtain⟨bn,ap,N⟩:=bnd N;obtain⟨bc,bo,b2,b3⟩:=O.atC ap;refine RG (ST (q0q b2 Tu77 Ts9 G G) G (ST (q0n H G b3 Ta9) G (AN G G ?_)));obtain⟨b7,aq,N⟩:=bnd N;obtain⟨bp,ar,N⟩:=bnd N;refine RM G G (MV G G (q1D (l:=a7) xty23 Tu9 H G Ud G aq (q00 G) G ?_));intro bq w H;refine q0M (enc:=encB) xty23 ([13,10]:Ls) H G Kf (fun _=>G) G G (q00 G) G ?_;intro br M w H V b4;have E:=E.mono V;have O:=O.mono V;have u:=u.mono V;refine q0F (l:=b7) xty23 G (fun _=>G) H G Ud G (b4) ar (q00 G) G ?_;intro bs w H;refine AS G G (NL (IB (TN ?_)));obtain⟨bt,au,N⟩:=bnd N;refine RG (ST (q0e G G au) G (MV G G (NL ?_)));exact AG ak ⟨_,_,_,_,G,H,E,u,O,N⟩ (l0a _)
    rw[l00 a4] at N;refine q0j (q03 (q03 (q0b ?_)));exact MN ⟨_,_,_,G,H,E,u,N⟩
   rintro e w ⟨ah,ai,M,rfl,H,E,u,b8⟩;obtain rfl:=oI b8;refine IB (TN ?_);obtain⟨bu,av,U⟩:=bnd U;refine RG (ST (q0e G G av) G (MV G G (NL ?_)));exact AG ae ⟨_,_,_,_,G,H,E,u,U⟩ (l0a _)
  rw[l00 a3] at U;refine q0j (q03 (q03 (q0b ?_)));exact MN ⟨_,_,_,G,H,E,u,U⟩
 rintro e w ⟨l4,v5,M,rfl,H,E,u,b9⟩;obtain rfl:=oI b9;refine TN (SQ ?_);obtain⟨al,Z,h⟩:=bnd h;obtain⟨a9,a0,h⟩:=bnd h;refine q0V (fun e w =>∃(aa:Value) (M:Mem),e=[(2,aa)]/\St w0 M0 M [RowI 5 encB aa a9] w) ?_ ?_
 .
  refine q0v (m:=7) G G H ?_;intro w H;refine TK 0 G (fun _=>q06 G) G (TK 3 G (fun _=>q01 Tu25 G Ts23 Dc G) G ?_);refine q0C (i:=1) (j:=4) Kr G G ?_ ?_
  .
   refine q0M (enc:=encB) xty23 ([13,10]:Ls) H G Kf (fun _=>G) G G (q00 G) G ?_;intro ba M w H V a1;have u:=u.mono V;refine NA ?_;refine q0C (i:=2) (j:=4) Kr G G ?_ ?_
   .
    refine q0F (l:=l4) xty23 G (fun _=>G) H G Ud G (a1) Z (q00 G) G ?_;intro ax w H;refine NA (q0k (fuel:=0) [4,5,6] G Kr (ST (XL H Ta23) G ?_));refine q0F (l:=al) xty23 G (fun _=>G) H G Ud G (u) a0 (q00 G) G ?_;intro a2 w H;refine AS G G (NA (q0f Kr ?_));exact MP ⟨_,_,G,(H.pick (L':=[RowI 5 encB a2 a9]) Kp)⟩
   refine ST (XL H Ta23) G ?_;refine NA (q0k (fuel:=0) [2,5,6] G Kr (q0F (l:=l4) xty23 G (fun _=>G) H G Ud G (a1) Z (q00 G) G ?_));intro ax w H;refine q0F (l:=al) xty23 G (fun _=>G) H G Ud G (u) a0 (q00 G) G ?_;intro a2 w H;refine AS G G (NA (q0f Kr ?_));exact MP ⟨_,_,G,(H.pick (L':=[RowI 5 encB a2 a9]) Kp)⟩
  refine ST (XL H Ta23) G ?_;refine NA (q0k (fuel:=0) [1,2,5,6] G Kr (q0M (enc:=encB) xty23 ([13,10]:Ls) H G Kf (fun _=>G) G G (q00 G) G ?_));intro ba M w H V a1;have u:=u.mono V;refine q0F (l:=l4) xty23 G (fun _=>G) H G Ud G (a1) Z (q00 G) G ?_;intro ax w H;refine q0F (l:=al) xty23 G (fun _=>G) H G Ud G (u) a0 (q00 G) G ?_;intro a2 w H;refine AS G G (NA (q0f Kr ?_));exact MP ⟨_,_,G,(H.pick (L':=[RowI 5 encB a2 a9]) Kp)⟩
 rintro e w ⟨aa,M,rfl,H⟩;refine TN (RT ?_);obtain⟨M,V,b5,H⟩:=H.freezeRow (v:=aa) (enc:=encB) (t:=5) Kv;obtain rfl:=oI h;exact q07 G G H.ext b5
theorem Y6H {p0:Ls}{K:Value}{r:Int}(h:Y2K p0=some r):Ct Tryz.prog 64 [K] (fun M=>Sl M encB K p0) (fun v M=>v=I r):=by
 refine Ct.of Tryz.func64 (enters Tryz.func64 Kr G) G G G ?_;intro w0 M0 H hp;have E:=hp;unfold Y2K at h;refine SR (AQ G G (RG (AQ G G (SR (AN G G ?_)))));obtain⟨o1,u,h⟩:=bnd h;refine q0c (fun e w =>∃  (M:Mem),e=[]/\St w0 M0 M [] w/\some (.inl ())=some o1) [] ?_ ?_ (trivial)
 .
  refine BL (q0l (fun m e w =>∃(n3:Int) (n4:Int) (M:Mem),e=[(0,K),(3,I n3),(4,I n4)]/\St w0 M0 M [] w/\Sl M encB K p0/\Y0g p0 m n3 n4=some o1) FU [(0,_),(3,_),(4,_)] ⟨rfl,rfl,rfl,trivial⟩ ⟨_,_,_,rfl,H,E,u⟩ ?_);rintro m5 e w ⟨n3,n4,M,rfl,H,E,u⟩;rcases m5 with _|m5
  . rw[Y0g] at u;cases u
  rw[Y0g] at u;refine SQ (SM G G (MV G G (ST (q0o Tu23 E G) G (ST (q0m G G) G (NT ?_)))));refine CB (p:=n4<(p0.length:Int)) G (fun a4=>?_) fun a4=>?_
  .
   rw[l01 a4] at u;refine KQ (BL (SQ ?_));obtain⟨V,ai,u⟩:=bnd u;obtain⟨ax,b0,aj,ak⟩:=E.atC ai;refine RM G G (MV G G (ST (q0q aj Tu23 Ts5 G G) G (ST (q0n H G ak Ta5) G (AQ G G (SQ ?_)))));obtain⟨o8,J,u⟩:=bnd u;refine q0c (fun e w =>∃(a5:Bool) (M:Mem),e=[(0,K),(3,I n3),(4,I n4),(5,encB V),(32,Value.bool a5)]/\St w0 M0 M [] w/\Sl M encB K p0/\some a5=some o8) [] ?_ ?_ (trivial)
   .
    by_cases N:V=13
    .
     rw[l01 N] at J;obtain⟨ao,a9,J⟩:=bnd J;refine RM G G (DT N (q0J (c:=V) (d:=13) G G) G (MV G G (SG (q06 G) G G G (SG (q0e G G a9) G G G (SG (q06 G) G G G (SG (q0o Tu23 E G) G G G ?_))))));by_cases O:ao<(p0.length:Int)
     .
      rw[l01 O] at J;obtain⟨b1,aa,J⟩:=bnd J;obtain⟨ap,ab,J⟩:=bnd J;obtain⟨az,b2,al,am⟩:=E.atC ab;refine DU O (q0m G G) G G G (PT G G G (MV G G (SG (q06 G) G G G (SG (q06 G) G G G (SG (q0e G G aa) G G G (SG (q0q al Tu23 Ts5 G G) G G G (SG (q0n H G am Ta5) G G G (SG (q0J (c:=ap) (d:=10) G G) G G G (PT G G G (NL ?_))))))))));exact MN ⟨_,_,G,H,E,J⟩
     rw[l00 O] at J;refine DG O (q0m G G) G G G (PT G G G (MV G G (q0i 6 G G (PF G G G (NL ?_)))));exact MN ⟨_,_,G,H,E,J⟩
    rw[l00 N] at J;refine RM G G (DF N (q0J (c:=V) (d:=13) G G) G (MV G G (q0i 5 G G (PF G G G (MV G G (q0i 6 G G (PF G G G (NL ?_))))))));exact MN ⟨_,_,G,H,E,J⟩
   rintro e w ⟨a5,M,rfl,H,E,aq⟩;obtain rfl:=oI aq;refine TN ?_;refine q0a G (fun Y=>?_) (fun Y=>?_)
   .
    subst Y;rw[l01 rfl] at u;refine SR (AQ G G ?_);obtain⟨b3,ac,u⟩:=bnd u;refine RM G G (ST (q0e G G ac) G (AN G G (q0j (q03 (q0b (TN ?_))))));obtain⟨b4,ad,u⟩:=bnd u;refine RM G G (ST (q0e G G ad) G (AS G G (NL ?_)));exact AG m5 ⟨_,_,_,G,H,E,u⟩ (l0a _)
   subst Y;rw[l00 l03] at u;refine KQ (SQ ?_);obtain⟨ar,a1,u⟩:=bnd u;refine q0c (fun e w =>∃(a6:Bool) (M:Mem),e=[(0,K),(3,I n3),(4,I n4),(40,Value.bool a6)]/\St w0 M0 M [] w/\Sl M encB K p0/\some a6=some ar) [] ?_ ?_ (trivial)
   .
    by_cases U:V=13
    .
     rw[l01 U] at a1;refine RM G G (DT U (q0J (c:=V) (d:=13) G G) G (MV G G (GT G G G (GT G G G (PT G G G (NL ?_))))));exact MN ⟨_,_,G,H,E,a1⟩
    rw[l00 U] at a1;refine RM G G (DF U (q0J (c:=V) (d:=13) G G) G (MV G G (SG (q06 G) G G G (SG (q0J (c:=V) (d:=10) G G) G G G (PF G G G (NL ?_))))));exact MN ⟨_,_,G,H,E,a1⟩
   rintro e w ⟨a6,M,rfl,H,E,au⟩;obtain rfl:=oI au;refine TN ?_;refine q0a G (fun Z=>?_) (fun Z=>?_)
   .
    subst Z;rw[l01 rfl] at u;refine SR (AR G G ?_);obtain rfl:=oI u;try dsimp only at h
    obtain rfl:=oI h;exact q07 G G H.ext G
   subst Z;rw[l00 l03] at u;refine KQ ?_;obtain⟨av,ae,u⟩:=bnd u;refine RM G G (ST (q0e G G ae) G (AN G G (SM G G (ST (q0A G G) G (NT ?_)))));refine CB (p:=(998:Int)<av) G (fun a0=>?_) fun a0=>?_
   .
    rw[l01 a0] at u;refine SR (AR G G ?_);obtain rfl:=oI u;try dsimp only at h
    obtain rfl:=oI h;exact q07 G G H.ext G
   rw[l00 a0] at u;refine SK (IB (TN ?_));obtain⟨b5,ah,u⟩:=bnd u;refine RM G G (ST (q0e G G ah) G (AS G G (NL ?_)));exact AG m5 ⟨_,_,_,G,H,E,u⟩ (l0a _)
  rw[l00 a4] at u;refine q0j (q03 (q03 (q0b ?_)));exact MN ⟨_,G,H,u⟩
 rintro e w ⟨M,rfl,H,aw⟩;obtain rfl:=oI aw;try dsimp only at h
 refine TN (SR (AR G G ?_));obtain rfl:=oI h;exact q07 G G H.ext G
theorem Y7r {p0:Ls}{K:Value}{r:Z02}(h:Y3g p0=some r):Ct Tryz.prog 37 [K] (fun M=>Sl M encB K p0) (fun v M=>v=Value.agg #[I r.1,I r.2]):=by
 refine Ct.of Tryz.func37 (enters Tryz.func37 Kr G) G G G ?_;intro w0 M0 H hp;have U:=hp;unfold Y3g at h;refine SR (q09 [_,_] H Tz28 G (q00 G) G ?_);intro a0 w H;refine NQ (SQ ?_);obtain⟨V,Y,h⟩:=bnd h;refine RM G G (q02 H (Y6H Y) G (U) (q00 G) G ?_);intro v4 M w H u hR;obtain rfl:=hR;refine NT (BL (SR (ST (q0s G G) G (AN G G ?_))));refine CB (p:=V=(11:Int)) G (fun E=>?_) fun E=>?_
 .
  rw[l01 E] at h;refine SQ ?_;obtain⟨⟨n4,n5⟩,Z,h⟩:=bnd h;try dsimp only at h
  refine RG (q02 H (Y02 Z) G trivial (q00 G) G ?_);intro v7 M w H u hR;try dsimp only at hR
  obtain rfl:=hR;refine q04 [_,_] H G G G Ku Ts28 G Kf Kf (q00 G) ?_;intro w H;refine NR ?_;obtain rfl:=oI h;exact q07 G ⟨_,G,H.loadAgg Km Ta28 Ts28 Kf⟩ H.ext G
 rw[l00 E] at h;refine SR (ST (q0s G G) G (AN G G ?_));refine CB (p:=V=(1:Int)) G (fun J=>?_) fun J=>?_
 .
  rw[l01 J] at h;refine SQ ?_;obtain⟨⟨n8,n9⟩,N,h⟩:=bnd h;try dsimp only at h
  refine RG (q02 H (Y02 N) G trivial (q00 G) G ?_);intro a1 M w H u hR;try dsimp only at hR
  obtain rfl:=hR;refine q04 [_,_] H G G G Ku Ts28 G Kf Kf (q00 G) ?_;intro w H;refine NR ?_;obtain rfl:=oI h;exact q07 G ⟨_,G,H.loadAgg Km Ta28 Ts28 Kf⟩ H.ext G
 rw[l00 J] at h;refine SK (IB (TN (SQ ?_)));obtain⟨⟨a2,a3⟩,O,h⟩:=bnd h;try dsimp only at h
 refine RG (q02 H (Y07 O) G trivial (q00 G) G ?_);intro a4 M w H u hR;try dsimp only at hR
 obtain rfl:=hR;refine q04 [_,_] H G G G Ku Ts28 G Kf Kf (q00 G) ?_;intro w H;refine NR ?_;obtain rfl:=oI h;exact q07 G ⟨_,G,H.loadAgg Km Ta28 Ts28 Kf⟩ H.ext G
theorem Y2Z {p0:Z0h}{K:Value}{N:Value}{r:Z02}(h:Y0G p0=some r):Ct Tryz.prog 15 [Value.agg #[K,N]] (fun M=>SlS M 2 xenc46 K p0.1/\Sl M encB N p0.2) (fun v M=>v=Value.agg #[I r.1,I r.2]):=by
 refine Ct.of Tryz.func15 (enters Tryz.func15 Kr G) G G G ?_;intro w0 M0 H hp;obtain⟨E,u⟩:=hp;unfold Y0G at h;refine SR (q0D [_,_] H G G (q00 G) G ?_);intro a4 w H;refine q09 [_,_] H Tz28 G (q00 G) G ?_;intro a5 w H;refine NQ (SQ ?_);obtain⟨⟨n1,n2⟩,a0,h⟩:=bnd h;try dsimp only at h
 refine RG (ST (q01 Tu25 G Ts22 Dc G) G (ST (XL H Ta22) G ?_));refine q02 H (Y4Z a0) G (E) (q00 G) G ?_;intro v6 M w H J hR;have E:=E.mono J;have u:=u.mono J;try dsimp only at hR
 obtain rfl:=hR;refine q09 [_,_] H Tz28 G (q00 G) G ?_;intro a6 w H;refine q04 [_,_] H G G G Ku Ts28 G Kf Kf (q00 G) ?_;intro w H;refine NQ ?_;obtain⟨b4,a1,h⟩:=bnd h;refine RG (ST (q08 H G Km Ta28 Ts28 Kf) G ?_);refine q02 H (Y06 a1) G trivial (q00 G) G ?_;intro v8 M w H J hR;have E:=E.mono J;have u:=u.mono J;obtain rfl:=hR;refine NT ?_;refine q0a G (fun O=>?_) (fun O=>?_)
 .
  subst O;rw[l01 rfl] at h;refine SR (ST (q08 H G Km Ta28 Ts28 Kf) G ?_);refine q04 [_,_] H G G G Ku Ts28 G Kf Kf (q00 G) ?_;intro w H;refine NR ?_;obtain rfl:=oI h;exact q07 G ⟨_,G,H.loadAgg Km Ta28 Ts28 Kf⟩ H.ext G
 subst O;rw[l00 l03] at h;refine KQ (SQ ?_);obtain⟨l7,a2,h⟩:=bnd h;refine RG (ST (q08 H G Km Ta25 Ts25 Kf) G ?_);refine q02 H (Y5D a2) G ⟨E,u⟩ (q00 G) G ?_;intro a7 M w H J hR;have u:=u.mono J;have V:=hR;refine ST (q0o Tu23 V G) G (ST (q0A G G) G (NT ?_));refine CB (p:=(12000:Int)<(l7.length:Int)) G (fun U=>?_) fun U=>?_
 .
  rw[l01 U] at h;refine SQ ?_;obtain⟨⟨a8,a9⟩,Y,h⟩:=bnd h;try dsimp only at h
  refine RG (q02 H (Y02 Y) G trivial (q00 G) G ?_);intro aa M w H J hR;try dsimp only at hR
  obtain rfl:=hR;refine q04 [_,_] H G G G Ku Ts28 G Kf Kf (q00 G) ?_;intro w H;refine NR ?_;obtain rfl:=oI h;exact q07 G ⟨_,G,H.loadAgg Km Ta28 Ts28 Kf⟩ H.ext G
 rw[l00 U] at h;refine KQ ?_;obtain⟨⟨ab,ac⟩,Z,h⟩:=bnd h;try dsimp only at h
 refine RG (ST (q01 Tu25 G Ts23 Dc G) G (ST (XL H Ta23) G ?_));refine q02 H (Y7r Z) G (u) (q00 G) G ?_;intro ad M w H J hR;try dsimp only at hR
 obtain rfl:=hR;refine q04 [_,_] H G G G Ku Ts28 G Kf Kf (q00 G) ?_;intro w H;refine NR ?_;obtain rfl:=oI h;exact q07 G ⟨_,G,H.loadAgg Km Ta28 Ts28 Kf⟩ H.ext G
theorem Y5E {p0:Z0h}{N:Value}{O:Value}{r:Z0j}(h:Y3q p0=some r):Ct Tryz.prog 6 [Value.agg #[N,O]] (fun M=>SlS M 2 xenc46 N p0.1/\Sl M encB O p0.2) (fun v M =>∃Y,v=Value.tuple #[Y,Value.agg #[I r.2.1,I r.2.2]]/\Sl M encB Y r.1):=by
 refine Ct.of Tryz.func6 (enters Tryz.func6 Kr G) G G G ?_;intro w0 M0 H hp;obtain⟨u,E⟩:=hp;unfold Y3q at h;refine SR (q0D [_,_] H G G (q00 G) G ?_);intro a2 w H;refine AS G G (q09 [_,_] H Tz28 G (q00 G) G ?_);intro a3 w H;refine NQ (SQ ?_);obtain⟨⟨n1,n2⟩,Z,h⟩:=bnd h;try dsimp only at h
 refine RG (ST (q08 H G Km Ta25 Ts25 Kf) G ?_);refine q02 H (Y2Z Z) G ⟨u,E⟩ (q00 G) G ?_;intro v6 M w H J hR;have u:=u.mono J;have E:=E.mono J;try dsimp only at hR
 obtain rfl:=hR;refine q09 [_,_] H Tz28 G (q00 G) G ?_;intro a4 w H;refine q04 [_,_] H G G G Ku Ts28 G Kf Kf (q00 G) ?_;intro w H;refine NQ ?_;obtain⟨b4,a0,h⟩:=bnd h;refine RG (ST (q08 H G Km Ta28 Ts28 Kf) G ?_);refine q02 H (Y06 a0) G trivial (q00 G) G ?_;intro v8 M w H J hR;have u:=u.mono J;have E:=E.mono J;obtain rfl:=hR;refine NT ?_;refine q0a G (fun U=>?_) (fun U=>?_)
 .
  subst U;rw[l01 rfl] at h;refine SQ (q0v (m:=3) G G H ?_);intro w H;refine TK 1 G (fun _=>q1v G) G (q0k (fuel:=0) [0,2] G Kr (ST (q08 H G Km Ta28 Ts28 Kf) G ?_));refine q04 [_,_] H G G G Ku Ts28 G Kf Kf (q00 G) ?_;intro w H;refine NA (q0f Kr (TN (RT ?_)));obtain rfl:=oI h;exact q0r G G ⟨_,G,H.loadAgg Km Ta28 Ts28 Kf⟩ H.ext (⟨_,G,q0U _ _⟩)
 subst U;rw[l00 l03] at h;refine KQ ?_;obtain⟨l7,a1,h⟩:=bnd h;obtain⟨⟨n9,a5⟩,V,h⟩:=bnd h;try dsimp only at h
 refine RG (ST (q08 H G Km Ta25 Ts25 Kf) G ?_);refine q02 H (Y5D a1) G ⟨u,E⟩ (q00 G) G ?_;intro a6 M w H J hR;have K:=hR;refine q02 H (Y07 V) G trivial (q00 G) G ?_;intro a7 M w H J hR;have K:=K.mono J;try dsimp only at hR
 obtain rfl:=hR;refine AS G G (q04 [_,_] H G G G Ku Ts28 G Kf Kf (q00 G) ?_);intro w H;refine NR ?_;obtain rfl:=oI h;exact q0r G G ⟨_,G,H.loadAgg Km Ta28 Ts28 Kf⟩ H.ext (⟨_,G,K⟩)
theorem Y83 {p0:Ls}{O:Value}{r:Z07}(h:Y4D p0=some r):Ct Tryz.prog 39 [O] (fun M=>Sl M encB O p0) (fun v M=>v=Value.tuple #[S r.1,I r.2]):=by
 refine Ct.of Tryz.func39 (enters Tryz.func39 Kr G) G G G ?_;intro w0 M0 H hp;have u:=hp;unfold Y4D at h;refine SR (AS G G (AQ G G ?_));obtain⟨n1,Y,h⟩:=bnd h;refine RM G G (q02 H (Y3Y Y) G (u) (q00 G) G ?_);intro v6 M w H E hR;have u:=u.mono E;obtain rfl:=hR;refine AQ G G (SM G G (ST (q0m G G) G (NT ?_)));refine CB (p:=n1<(0:Int)) G (fun J=>?_) fun J=>?_
 .
  rw[l01 J] at h;refine SM G G (ST (q0Y Tu23 Tu5 Tu9 H (u) G) G (MV G G (ST (q0o Tu23 u G) G (AS G G (AR G G ?_)))));obtain rfl:=oI h;exact q0r G G G H.ext G
 rw[l00 J] at h;refine KQ ?_;obtain⟨l4,K,h⟩:=bnd h;obtain⟨l5,Z,h⟩:=bnd h;obtain⟨n7,U,h⟩:=bnd h;refine RM G G (MV G G (ST (q1K Tu23 Ts5 (u) G G K) G (WR.litC xty23 Tu5 ([13]:Ls) H G Kf G G (q00 G) G (fun _=>q00 G) G ?_)));intro a1 M w H E V;have u:=u.mono E;refine q02 H (Y3M Z) G ⟨(u.subV K),V⟩ (q00 G) G ?_;intro a2 M w H E hR;have N:=hR;refine ST (q0Y Tu23 Tu5 Tu9 H (N) G) G (MV G G (ST (q0e G G U) G (AS G G (AR G G ?_))));obtain rfl:=oI h;exact q0r G G G H.ext G
theorem Y6I {p0:Ls}{N:Ls}{r:Z0b}(h:Y2l p0 N=some r):Ct Tryz.prog 110 [S p0,S N] (fun M=>Gv3 M) (fun v M=>v=Value.tuple #[S r.1,S r.2.1,Value.bool r.2.2]):=by
 refine Ct.of Tf110 (enters Tf110 Kr G) G G G ?_;intro w0 M0 H hp;have U:=hp;unfold Y2l at h;refine SR (AS G G (AS G G (AQ G G (SQ ?_))));obtain⟨V,O,h⟩:=bnd h;refine RM G G (MV G G (q02 H (Y6d O) G (U) (q00 G) G ?_));intro Y M w H Z hR;obtain rfl:=hR;refine AN G G (SM G G (ST (q0Q G G) G (NT ?_)));refine CB (p:=(0:Int)<=V) G (fun u=>?_) fun u=>?_
 .
  rw[l01 u] at h;refine SQ ?_;obtain⟨s4,E,h⟩:=bnd h;obtain⟨n5,J,h⟩:=bnd h;obtain⟨s6,K,h⟩:=bnd h;refine q0v (m:=12) G G H ?_;intro w H;refine TK 0 G (fun _=>q06 G) G (TK 1 G (fun _=>q06 G) G (TK 2 G (fun _=>q1z Tu9 G G E) G (TK 3 G (fun _=>q06 G) G (TK 4 G (fun _=>q06 G) G (TK 5 G (fun _=>q06 G) G (TK 6 G (fun _=>q0g Tu9 G) G ?_))))));refine TK 7 G (fun _=>q0e G G J) G (TK 8 G (fun _=>q1f Tu9 G G K) G (q0k (fuel:=0) [9,10,11] G Kr (AS G G (AS G G (AS G G (NA (q0f Kr (TN (RT ?_)))))))));obtain rfl:=oI h;exact WQ.ret3 G G G G H.ext G
 rw[l00 u] at h;refine SK (TN (SM G G (AS G G (AS G G (AR G G ?_)))));obtain rfl:=oI h;exact WQ.ret3 G G G G H.ext G
theorem Y6o {p0:Ls}{u:Ls}{r:Z0b}(h:Y2A p0 u=some r):Ct Tryz.prog 70 [S p0,S u] (fun M=>Gv3 M) (fun v M=>v=Value.tuple #[S r.1,S r.2.1,Value.bool r.2.2]):=by
 refine Ct.of Tryz.func70 (enters Tryz.func70 Kr G) G G G ?_;intro N M0 H hp;have J:=hp;unfold Y2A at h;refine SR (AS G G (AS G G (AQ G G ?_)));obtain⟨⟨O,U,V⟩,E,h⟩:=bnd h;try dsimp only at h
 refine RM G G (MV G G (q02 H (Y6I E) G (J) (q00 G) G ?_));intro Y M w H K hR;try dsimp only at hR
 obtain rfl:=hR;refine ST (q05 G G) G (ST (q05 G G) G (ST (q05 G G) G (AS G G (AS G G (AR G G ?_)))));obtain rfl:=oI h;exact WQ.ret3 G G G G H.ext G
theorem Y3P {p0:Ls}{N:UInt8}{r:Ls}(h:Y1m p0 N=some r):Ct Tryz.prog 74 [S p0,encB N] (fun M=>True) (fun v M=>v=S r):=by
 refine Ct.of Tf74 (enters Tf74 Kr G) G G G ?_;intro w0 M0 H hp;unfold Y1m at h;refine SR (AQ G G ?_);obtain⟨o1,u,h⟩:=bnd h;refine q0c (fun e w =>∃(s3:Ls) (M:Mem),e=[(0,S s3)]/\St w0 M0 M [] w/\some s3=some o1) [] ?_ ?_ (trivial)
 .
  refine BL (q0l (fun m e w =>∃(O:Ls) (M:Mem),e=[(0,S O),(1,encB N)]/\St w0 M0 M [] w/\Y1l N m O=some o1) FU [(0,_),(1,_)] ⟨rfl,rfl,trivial⟩ ⟨_,_,rfl,H,u⟩ ?_);rintro m5 e w ⟨O,M,rfl,H,u⟩;rcases m5 with _|m5
  . rw[Y1l] at u;cases u
  rw[Y1l] at u;refine SQ (SQ ?_);obtain⟨o6,E,u⟩:=bnd u;refine q0c (fun e w =>∃(b8:Bool) (M:Mem),e=[(0,S O),(1,encB N),(16,Value.bool b8)]/\St w0 M0 M [] w/\some b8=some o6) [] ?_ ?_ (trivial)
  .
   refine RM G G (ST (q0g Tu9 G) G ?_);by_cases K:(0:Int)<(O.length:Int)
   .
    rw[l01 K] at E;obtain⟨a9,U,E⟩:=bnd E;obtain⟨a5,V,E⟩:=bnd E;refine DT K (q0A G G) G (MV G G (SG (q06 G) G G G (SG (q06 G) G G G (SG (q0g Tu9 G) G G G (SG (q0I G G U) G G G (SG (q0p Tu9 G G V) G G G (SG (q06 G) G G G (SG (q0J (c:=a5) (d:=N) G G) G G G (PT G G G (NL ?_))))))))));exact MN ⟨_,_,G,H,E⟩
   rw[l00 K] at E;refine DF K (q0A G G) G (MV G G (q0i 7 G G (PF G G G (NL ?_))));exact MN ⟨_,_,G,H,E⟩
  rintro e w ⟨b8,M,rfl,H,a6⟩;obtain rfl:=oI a6;refine TN ?_;refine q0a G (fun J=>?_) (fun J=>?_)
  .
   subst J;rw[l01 rfl] at u;refine SK (TN (BL ?_));obtain⟨aa,Y,u⟩:=bnd u;obtain⟨ab,Z,u⟩:=bnd u;refine RM G G (MV G G (ST (q0g Tu9 G) G (ST (q0I G G Y) G (ST (q1z Tu9 G G Z) G (AS G G (NL (IB ?_)))))));exact AG m5 ⟨_,_,G,H,u⟩ (l0a _)
  subst J;rw[l00 l03] at u;refine q0j (q03 (q03 (q0b ?_)));exact MN ⟨_,_,G,H,u⟩
 rintro e w ⟨s3,M,rfl,H,a7⟩;obtain rfl:=oI a7;refine TN (SM G G (AR G G ?_));obtain rfl:=oI h;exact q07 G G H.ext G
theorem Y3B {p0:Ls}{O:List Bool}{K:Nat}{r:Ls}(h:Y12 p0 O=some r):Ct Tryz.prog 77 [S p0,ptr K 0] (fun M=>PtM M K (.cells (List.map encBo O).toArray 143)) (fun v M=>v=S r):=by
 refine Ct.of Tryz.func77 (enters Tryz.func77 Kr G) G G G ?_;intro w0 M0 H hp;have J:=hp;unfold Y12 at h;refine SR (AQ G G ?_);obtain⟨o1,u,h⟩:=bnd h;refine q0c (fun e w =>∃(Z:Ls) (M:Mem),e=[(0,S Z)]/\St w0 M0 M [] w/\some Z=some o1) [] ?_ ?_ (trivial)
 .
  refine BL (q0l (fun m e w =>∃(U:Ls) (M:Mem),e=[(0,S U),(1,ptr K 0)]/\St w0 M0 M [] w/\PtM M K (.cells (List.map encBo O).toArray 143)/\Y0m O m U=some o1) FU [(0,_),(1,_)] ⟨rfl,rfl,trivial⟩ ⟨_,_,rfl,H,J,u⟩ ?_);rintro m5 e w ⟨U,M,rfl,H,J,u⟩;rcases m5 with _|m5
  . rw[Y0m] at u;cases u
  rw[Y0m] at u;refine SQ (SM G G (ST (q0g Tu9 G) G (ST (q0A G G) G (NT ?_))));refine CB (p:=(0:Int)<(U.length:Int)) G (fun N=>?_) fun N=>?_
  .
   rw[l01 N] at u;refine SK (TN (BL (SQ (SQ ?_))));obtain⟨n7,a1,u⟩:=bnd u;obtain⟨c8,a2,u⟩:=bnd u;obtain⟨b9,a3,u⟩:=bnd u;refine RM G G (MV G G (MV G G (ST (q0g Tu9 G) G (ST (q0I G G a1) G (ST (q0p Tu9 G G a2) G (q02 H (Y2c a3) G (J) (q00 G) G ?_))))));intro a9 M w H a7 hR;have J:=J.mono a7;obtain rfl:=hR;refine ST (q0w G) G (NT ?_);refine q0a G (fun E=>?_) (fun E=>?_)
   .
    replace E:b9=false:=by simpa using E
    subst E;rw[l00 l03] at u;refine q0j (q03 (q1s G (q03 (q0b ?_))));exact MN ⟨_,_,G,H,u⟩
   replace E:b9=true:=by simpa using E
   subst E;rw[l01 rfl] at u;refine SK (TN ?_);obtain⟨aa,V,u⟩:=bnd u;obtain⟨ab,Y,u⟩:=bnd u;refine RM G G (MV G G (ST (q0g Tu9 G) G (ST (q0I G G V) G (ST (q1z Tu9 G G Y) G (AS G G (NL (IB ?_)))))));exact AG m5 ⟨_,_,G,H,J,u⟩ (l0a _)
  rw[l00 N] at u;refine q0j (q03 (q03 (q0b ?_)));exact MN ⟨_,_,G,H,u⟩
 rintro e w ⟨Z,M,rfl,H,a8⟩;obtain rfl:=oI a8;refine TN (SM G G (AR G G ?_));obtain rfl:=oI h;exact q07 G G H.ext G
theorem Y4u {p0:Ls}{O:Ls}{r:Ls}(h:Y2i p0 O=some r):Ct Tryz.prog 71 [S p0,S O] (fun M=>True) (fun v M=>v=S r):=by
 refine Ct.of Tryz.func71 (enters Tryz.func71 Kr G) G G G ?_;intro w0 M0 H hp;unfold Y2i at h;refine SR (AQ G G (SQ ?_));obtain⟨o1,Y,h⟩:=bnd h;refine q0c (fun e w =>∃(b3:Bool) (M:Mem),e=[(0,S p0),(1,S O),(12,Value.bool b3)]/\St w0 M0 M [] w/\some b3=some o1) [] ?_ ?_ (trivial)
 .
  by_cases K:p0=[]
  .
   rw[l01 K] at Y;refine RM G G (DT K (q0z G G) G (MV G G (GT G G G (GT G G G (PT G G G (NL ?_))))));exact MN ⟨_,_,G,H,Y⟩
  rw[l00 K] at Y;refine RM G G (DF K (q0z G G) G (MV G G (SG (q06 G) G G G (SG (q0z G G) G G G (PF G G G (NL ?_))))));exact MN ⟨_,_,G,H,Y⟩
 rintro e w ⟨b3,M,rfl,H,q5⟩;obtain rfl:=oI q5;refine TN ?_;refine q0a G (fun U=>?_) (fun U=>?_)
 .
  subst U;rw[l01 rfl] at h;refine SM G G (AR G G ?_);obtain rfl:=oI h;exact q07 G G H.ext G
 subst U;rw[l00 l03] at h;refine KQ (SQ ?_);obtain⟨o7,N,h⟩:=bnd h;refine q0c (fun e w =>∃(b9:Bool) (M:Mem),e=[(0,S p0),(1,S O),(21,Value.bool b9)]/\St w0 M0 M [] w/\some b9=some o7) [] ?_ ?_ (trivial)
 .
  refine RM G G (ST (q0g Tu9 G) G ?_);by_cases u:(O.length:Int)=(1:Int)
  .
   rw[l01 u] at N;obtain⟨aa,Z,N⟩:=bnd N;refine DT u (q0s G G) G (MV G G (SG (q06 G) G G G (SG (q0p Tu9 G G Z) G G G (SG (Ex.lssB (i:=aa.toNat) (j:=128) G G) G G G (PT G G G (NL ?_))))));exact MN ⟨_,_,G,H,N⟩
  rw[l00 u] at N;refine DF u (q0s G G) G (MV G G (q0i 3 G G (PF G G G (NL ?_))));exact MN ⟨_,_,G,H,N⟩
 rintro e w ⟨b9,M,rfl,H,ab⟩;obtain rfl:=oI ab;refine TN ?_;refine q0a G (fun E=>?_) (fun E=>?_)
 .
  subst E;rw[l01 rfl] at h;refine SQ ?_;obtain⟨aj,a0,h⟩:=bnd h;obtain⟨ak,a5,h⟩:=bnd h;refine RM G G (MV G G (ST (q0p Tu9 G G a0) G (q02 H (Y3P a5) G trivial (q00 G) G ?_)));intro al M w H V hR;obtain rfl:=hR;refine AR G G ?_;obtain rfl:=oI h;exact q07 G G H.ext G
 subst E;rw[l00 l03] at h;refine KQ (SQ ?_);obtain⟨⟨ac,am⟩,a6,h⟩:=bnd h;try dsimp only at h
 obtain⟨an,a1,h⟩:=bnd h;obtain⟨ao,a2,h⟩:=bnd h;refine RM G G (q02 H (Y2b a6) G trivial (q00 G) G ?_);intro ap M w H V hR;try dsimp only at hR
 obtain rfl:=hR;refine MV G G (ST (q05 G G) G (ST (q05 G G) G (q09 (List.map encBo (List.replicate 256 false:List Bool)) H Tz143 Kr (q00 G) G ?_)));intro ad w H;refine q1A (l2:=ac) H G G (fun _=>G) Ud a1 a2 Ts143 (q00 G) ?_;intro w H;refine AN G G (SM G G (NT ?_));refine q0a G (fun J=>?_) (fun J=>?_)
 .
  subst J;rw[l01 rfl] at h;refine SQ ?_;obtain⟨aq,a7,h⟩:=bnd h;refine RM G G ?_;obtain⟨M,V,a8,H⟩:=H.freezeVar (b:=ad) Kv;refine q02 H (Y3B a7) G (a8) (q00 G) G ?_;intro ar M w H V hR;obtain rfl:=hR;refine AR G G ?_;obtain rfl:=oI h;exact q07 G G H.ext G
 subst J;rw[l00 l03] at h;cases h
theorem Y84 {p0:Ls}{r:Bool}(h:Y4E p0=some r):Ct Tryz.prog 72 [S p0] (fun M=>True) (fun v M=>v=Value.bool r):=by
 refine Ct.of Tryz.func72 (enters Tryz.func72 Kr G) G G G ?_;intro V M0 H hp;unfold Y4E at h;refine SR (AQ G G ?_);obtain⟨⟨Y,⟨Z,n3⟩⟩,u,h⟩:=bnd h;try dsimp only at h
 refine RM G G (q02 H (Y4Y u) G trivial (q00 G) G ?_);intro v7 M w H E hR;try dsimp only at hR
 obtain⟨K,rfl,N⟩:=hR;refine MV G G (ST (q05 G G) G (ST (q05 G G) G (q09 [_,_] H Tz28 G (q00 G) G ?_)));intro O w H;refine AS G G (q04 [_,_] H G G G Ku Ts28 G Kf Kf (q00 G) ?_);intro w H;refine NQ ?_;obtain⟨b5,J,h⟩:=bnd h;refine RG (ST (q08 H G Km Ta28 Ts28 Kf) G ?_);refine q02 H (Y06 J) G trivial (q00 G) G ?_;intro U M w H E hR;obtain rfl:=hR;refine ST (q0w G) G (AR G G ?_);obtain rfl:=oI h;exact q07 G G H.ext G
theorem Y7g {p0:Ls}{r:Z0n}(h:Y3T p0=some r):Ct Tryz.prog 41 [S p0] (fun M=>Gv3 M) (fun v M=>v=Value.tuple #[Value.agg #[S r.1.1,S r.1.2],Value.bool r.2]):=by
 refine Ct.of Tryz.func41 (enters Tryz.func41 Kr G) G G G ?_;intro w0 M0 H hp;have u:=hp;unfold Y3T at h;refine SR (q09 [_,_] H Tz46 G (q00 G) G ?_);intro O w H;refine AQ G G ?_;obtain⟨⟨s1,s2,b3⟩,Y,h⟩:=bnd h;try dsimp only at h
 refine RM G G (q02 H (Y6o Y) G (u) (q00 G) G ?_);intro v9 M w H E hR;have u:=u.mono E;try dsimp only at hR
 obtain rfl:=hR;refine MV G G (ST (q05 G G) G (ST (q05 G G) G (ST (q05 G G) G (AS G G (AS G G (AQ G G ?_))))));obtain⟨s5,Z,h⟩:=bnd h;refine RM G G (q02 H (Y4u Z) G trivial (q00 G) G ?_);intro a6 M w H E hR;have u:=u.mono E;obtain rfl:=hR;refine AQ G G ?_;obtain⟨o7,J,h⟩:=bnd h;refine q0c (fun e w =>∃(U:Ls) (K:Ls) (N:Bool) (M:Mem),e=[(2,ptr O 0),(3,Value.bool N)]/\St w0 M0 M [.blk O (.cells #[S U,S K] 46)] w/\Gv3 M/\some (U,K,N)=some o7) [] ?_ ?_ (trivial)
 .
  refine RM G G (MV G G (ST (q0t [S s5,S s2] Tu46 Tz46 (xplaces46 Tu46) G G) G (MV G G (MV G G ?_))));rcases b3 with _|_
  .
   rw[l00 l03] at J;refine GF G G G (GF G G G (PF G G G (q04 [_,_] H G G G Ku Ts46 G Kf Kf (q00 G) ?_)));intro w H;refine AS G G (NL ?_);exact MN ⟨_,_,_,_,G,H,u,J⟩
  rw[l01 rfl] at J;obtain⟨a7,V,J⟩:=bnd J;refine SG (q06 G) G G G (q02 H (Y84 V) G trivial (q0h G G G) G ?_);intro a8 M w H E hR;have u:=u.mono E;obtain rfl:=hR;refine PT G G G (q04 [_,_] H G G G Ku Ts46 G Kf Kf (q00 G) ?_);intro w H;refine AS G G (NL ?_);exact MN ⟨_,_,_,_,G,H,u,J⟩
 rintro e w ⟨U,K,N,M,rfl,H,u,a0⟩;obtain rfl:=oI a0;try dsimp only at h
 refine TN (RT ?_);obtain rfl:=oI h;exact q0r G ⟨_,G,H.loadAgg Km Ta46 Ts46 Kf⟩ G H.ext G
theorem Y3Z {p0:Ls}{K:UInt8}{r:Ls}(h:Y1H p0 K=some r):Ct Tryz.prog 73 [S p0,encB K] (fun M=>True) (fun v M=>v=S r):=by
 refine Ct.of Tf73 (enters Tf73 Kr G) G G G ?_;intro Y M0 H hp;unfold Y1H at h;refine SR (AQ G G ?_);obtain⟨o1,u,h⟩:=bnd h;refine q0c (fun e w =>∃(Z:Ls) (M:Mem),e=[(0,S Z)]/\St Y M0 M [] w/\some Z=some o1) [] ?_ ?_ (trivial)
 .
  refine BL (q0l (fun m e w =>∃(O:Ls) (M:Mem),e=[(0,S O),(1,encB K)]/\St Y M0 M [] w/\Y1z K m O=some o1) FU [(0,_),(1,_)] ⟨rfl,rfl,trivial⟩ ⟨_,_,rfl,H,u⟩ ?_);rintro m5 e w ⟨O,M,rfl,H,u⟩;rcases m5 with _|m5
  . rw[Y1z] at u;cases u
  rw[Y1z] at u;refine SQ (SQ ?_);obtain⟨o6,N,u⟩:=bnd u;refine q0c (fun e w =>∃(b8:Bool) (M:Mem),e=[(0,S O),(1,encB K),(13,Value.bool b8)]/\St Y M0 M [] w/\some b8=some o6) [] ?_ ?_ (trivial)
  .
   refine RM G G (ST (q0g Tu9 G) G ?_);by_cases J:(0:Int)<(O.length:Int)
   .
    rw[l01 J] at N;obtain⟨a3,U,N⟩:=bnd N;refine DT J (q0A G G) G (MV G G (SG (q06 G) G G G (SG (q0p Tu9 G G U) G G G (SG (q06 G) G G G (SG (q0J (c:=a3) (d:=K) G G) G G G (PT G G G (NL ?_)))))));exact MN ⟨_,_,G,H,N⟩
   rw[l00 J] at N;refine DF J (q0A G G) G (MV G G (q0i 4 G G (PF G G G (NL ?_))));exact MN ⟨_,_,G,H,N⟩
  rintro e w ⟨b8,M,rfl,H,a4⟩;obtain rfl:=oI a4;refine TN ?_;refine q0a G (fun E=>?_) (fun E=>?_)
  .
   subst E;rw[l01 rfl] at u;refine SK (TN (BL ?_));obtain⟨a7,V,u⟩:=bnd u;refine RM G G (ST (q1f Tu9 G G V) G (AS G G (NL (IB ?_))));exact AG m5 ⟨_,_,G,H,u⟩ (l0a _)
  subst E;rw[l00 l03] at u;refine q0j (q03 (q03 (q0b ?_)));exact MN ⟨_,_,G,H,u⟩
 rintro e w ⟨Z,M,rfl,H,a5⟩;obtain rfl:=oI a5;refine TN (SM G G (AR G G ?_));obtain rfl:=oI h;exact q07 G G H.ext G
theorem Y3Q {p0:Ls}{O:List Bool}{K:Nat}{r:Ls}(h:Y1n p0 O=some r):Ct Tryz.prog 76 [S p0,ptr K 0] (fun M=>PtM M K (.cells (List.map encBo O).toArray 143)) (fun v M=>v=S r):=by
 refine Ct.of Tryz.func76 (enters Tryz.func76 Kr G) G G G ?_;intro w0 M0 H hp;have J:=hp;unfold Y1n at h;refine SR (AQ G G ?_);obtain⟨o1,u,h⟩:=bnd h;refine q0c (fun e w =>∃(Y:Ls) (M:Mem),e=[(0,S Y)]/\St w0 M0 M [] w/\some Y=some o1) [] ?_ ?_ (trivial)
 .
  refine BL (q0l (fun m e w =>∃(U:Ls) (M:Mem),e=[(0,S U),(1,ptr K 0)]/\St w0 M0 M [] w/\PtM M K (.cells (List.map encBo O).toArray 143)/\Y09 O m U=some o1) FU [(0,_),(1,_)] ⟨rfl,rfl,trivial⟩ ⟨_,_,rfl,H,J,u⟩ ?_);rintro Z e w ⟨U,M,rfl,H,J,u⟩;rcases Z with _|Z
  . rw[Y09] at u;cases u
  rw[Y09] at u;refine SQ (SM G G (ST (q0g Tu9 G) G (ST (q0A G G) G (NT ?_))));refine CB (p:=(0:Int)<(U.length:Int)) G (fun N=>?_) fun N=>?_
  .
   rw[l01 N] at u;refine SK (TN (BL (SQ (SQ ?_))));obtain⟨c7,a0,u⟩:=bnd u;obtain⟨b8,a4,u⟩:=bnd u;refine RM G G (MV G G (ST (q0p Tu9 G G a0) G (q02 H (Y2c a4) G (J) (q00 G) G ?_)));intro a7 M w H a5 hR;have J:=J.mono a5;obtain rfl:=hR;refine ST (q0w G) G (NT ?_);refine q0a G (fun E=>?_) (fun E=>?_)
   .
    replace E:b8=false:=by simpa using E
    subst E;rw[l00 l03] at u;refine q0j (q03 (q1s G (q03 (q0b ?_))));exact MN ⟨_,_,G,H,u⟩
   replace E:b8=true:=by simpa using E
   subst E;rw[l01 rfl] at u;refine SK (TN ?_);obtain⟨a8,V,u⟩:=bnd u;refine RM G G (ST (q1f Tu9 G G V) G (AS G G (NL (IB ?_))));exact AG Z ⟨_,_,G,H,J,u⟩ (l0a _)
  rw[l00 N] at u;refine q0j (q03 (q03 (q0b ?_)));exact MN ⟨_,_,G,H,u⟩
 rintro e w ⟨Y,M,rfl,H,a6⟩;obtain rfl:=oI a6;refine TN (SM G G (AR G G ?_));obtain rfl:=oI h;exact q07 G G H.ext G
theorem Y7s {p0:Ls}{V:Ls}{r:Ls}(h:Y4h p0 V=some r):Ct Tryz.prog 43 [S p0,S V] (fun M=>True) (fun v M=>v=S r):=by
 refine Ct.of Tryz.func43 (enters Tryz.func43 Kr G) G G G ?_;intro w0 M0 H hp;unfold Y4h at h;refine SR (AQ G G (SQ ?_));obtain⟨o1,Z,h⟩:=bnd h;refine q0c (fun e w =>∃(b3:Bool) (M:Mem),e=[(0,S p0),(1,S V),(12,Value.bool b3)]/\St w0 M0 M [] w/\some b3=some o1) [] ?_ ?_ (trivial)
 .
  by_cases O:p0=[]
  .
   rw[l01 O] at Z;refine RM G G (DT O (q0z G G) G (MV G G (GT G G G (GT G G G (PT G G G (NL ?_))))));exact MN ⟨_,_,G,H,Z⟩
  rw[l00 O] at Z;refine RM G G (DF O (q0z G G) G (MV G G (SG (q06 G) G G G (SG (q0z G G) G G G (PF G G G (NL ?_))))));exact MN ⟨_,_,G,H,Z⟩
 rintro e w ⟨b3,M,rfl,H,q5⟩;obtain rfl:=oI q5;refine TN ?_;refine q0a G (fun Y=>?_) (fun Y=>?_)
 .
  subst Y;rw[l01 rfl] at h;refine SM G G (AR G G ?_);obtain rfl:=oI h;exact q07 G G H.ext G
 subst Y;rw[l00 l03] at h;refine KQ (SQ ?_);obtain⟨o7,U,h⟩:=bnd h;refine q0c (fun e w =>∃(b9:Bool) (M:Mem),e=[(0,S p0),(1,S V),(21,Value.bool b9)]/\St w0 M0 M [] w/\some b9=some o7) [] ?_ ?_ (trivial)
 .
  refine RM G G (ST (q0g Tu9 G) G ?_);by_cases E:(V.length:Int)=(1:Int)
  .
   rw[l01 E] at U;obtain⟨ad,a0,U⟩:=bnd U;refine DT E (q0s G G) G (MV G G (SG (q06 G) G G G (SG (q0p Tu9 G G a0) G G G (SG (Ex.lssB (i:=ad.toNat) (j:=128) G G) G G G (PT G G G (NL ?_))))));exact MN ⟨_,_,G,H,U⟩
  rw[l00 E] at U;refine DF E (q0s G G) G (MV G G (q0i 3 G G (PF G G G (NL ?_))));exact MN ⟨_,_,G,H,U⟩
 rintro e w ⟨b9,M,rfl,H,ae⟩;obtain rfl:=oI ae;refine TN ?_;refine q0a G (fun K=>?_) (fun K=>?_)
 .
  subst K;rw[l01 rfl] at h;refine SQ ?_;obtain⟨am,a1,h⟩:=bnd h;obtain⟨an,a7,h⟩:=bnd h;obtain⟨ao,a2,h⟩:=bnd h;obtain⟨ap,a8,h⟩:=bnd h;refine q0v (m:=8) G G H ?_;intro w H;refine TK 0 G (fun _=>q06 G) G (TK 1 G (fun _=>q06 G) G (TK 2 G (fun _=>q0p Tu9 G G a1) G (TK 4 G (fun _=>q06 G) G (TK 5 G (fun _=>q0p Tu9 G G a2) G (q0k (fuel:=0) [3,6,7] G Kr (q02 H (Y3P a7) G trivial (q00 G) G ?_))))));intro aq M w H u hR;obtain rfl:=hR;refine q02 H (Y3Z a8) G trivial (q00 G) G ?_;intro ar M w H u hR;obtain rfl:=hR;refine AS G G (NA (q0f Kr (TN (RT ?_))));obtain rfl:=oI h;exact q07 G G H.ext G
 subst K;rw[l00 l03] at h;refine KQ (SQ ?_);obtain⟨⟨ah,au⟩,a9,h⟩:=bnd h;try dsimp only at h
 obtain⟨av,a3,h⟩:=bnd h;obtain⟨aw,a4,h⟩:=bnd h;refine RM G G (q02 H (Y2b a9) G trivial (q00 G) G ?_);intro ax M w H u hR;try dsimp only at hR
 obtain rfl:=hR;refine MV G G (ST (q05 G G) G (ST (q05 G G) G (q09 (List.map encBo (List.replicate 256 false:List Bool)) H Tz143 Kr (q00 G) G ?_)));intro ai w H;refine q1A (l2:=ah) H G G (fun _=>G) Ud a3 a4 Ts143 (q00 G) ?_;intro w H;refine AN G G (SM G G (NT ?_));refine q0a G (fun N=>?_) (fun N=>?_)
 .
  subst N;rw[l01 rfl] at h;refine SQ ?_;obtain⟨ay,aa,h⟩:=bnd h;obtain⟨az,ab,h⟩:=bnd h;refine RM G G ?_;obtain⟨M,u,J,H⟩:=H.freezeVar (b:=ai) Kv;refine q02 H (Y3B aa) G (J) (q00 G) G ?_;intro b0 M w H u hR;have J:=J.mono u;obtain rfl:=hR;refine q02 H (Y3Q ab) G (J) (q00 G) G ?_;intro b1 M w H u hR;obtain rfl:=hR;refine AR G G ?_;obtain rfl:=oI h;exact q07 G G H.ext G
 subst N;rw[l00 l03] at h;cases h
end Go.Proofs.YtkgohbecojnfaaaGreatDoor
end
section
namespace Go.Proofs.YtkgohbecojnfaaaGreatDoor
open Go Go.RowKit Go.Ph Go.Ph.Pl Go.Ph.Pf
theorem Y6p {p0:Ls}{a2:Value}{r:Z0m}(h:Y44 p0=some r):Ct Tryz.prog 19 [a2] (fun M=>Gv3 M/\Sl M encB a2 p0) (fun v M =>∃x0,v=Value.tuple #[x0,I r.2.1,Value.agg #[I r.2.2.1,I r.2.2.2]]/\SlS M 2 xenc46 x0 r.1):=by
 refine Ct.of Tryz.func19 (enters Tryz.func19 Kr G) G G G ?_;intro w0 M0 H hp;obtain⟨K,N⟩:=hp;unfold Y44 at h;refine SR (AS G G (AS G G (q09 [_,_] H Tz28 G (q00 G) G ?_)));intro O w H;refine NQ (SM G G (ST (q0o Tu23 N G) G (ST (q0A G G) G (NT ?_))));refine CB (p:=(12000:Int)<(p0.length:Int)) G (fun ar=>?_) fun ar=>?_
 .
  rw[l01 ar] at h;refine SQ ?_;obtain⟨⟨n2,n3⟩,c2,h⟩:=bnd h;try dsimp only at h
  refine RG (q02 H (Y02 c2) G trivial (q00 G) G ?_);intro cj M w H J hR;try dsimp only at hR
  obtain rfl:=hR;refine AS G G (AS G G (q04 [_,_] H G G G Ku Ts28 G Kf Kf (q00 G) ?_));intro w H;refine NR ?_;obtain rfl:=oI h;exact WQ.ret3 G G G ⟨_,G,H.loadAgg Km Ta28 Ts28 Kf⟩ H.ext (⟨_,G,(q1a _ _ (fun _=>G))⟩)
 rw[l00 ar] at h;refine KQ (RG (AQ G G (RG (AQ G G ?_))));obtain⟨o5,u,h⟩:=bnd h;refine q0c (fun e w =>∃(l8:List Z00) (Z:Value) (a5:Int) (M:Mem),e=[(4,ptr O 0),(5,Z),(6,I a5)]/\St w0 M0 M [.blk O (.cells #[I 0,I 0] 28),RowS 46 2 xenc46 Z l8] w/\Gv3 M/\some (l8,a5)=some o5) [] ?_ ?_ (trivial)
 .
  refine BL ?_;replace H:=H.newRowS 46 2 xenc46;refine q0l (fun m e w =>∃(U:List Z00) (a3:Value) (a6:Int) (M:Mem),e=[(0,a2),(4,ptr O 0),(5,a3),(6,I a6)]/\St w0 M0 M [.blk O (.cells #[I 0,I 0] 28),RowS 46 2 xenc46 a3 U] w/\Gv3 M/\Sl M encB a2 p0/\Y1Q p0 m U a6=some o5) FU [(0,_),(4,_),(5,_),(6,_)] ⟨rfl,rfl,rfl,rfl,trivial⟩ ⟨_,_,_,_,rfl,(H.pick (L':=[.blk O (.cells #[I 0,I 0] 28),RowS 46 2 xenc46 (Value.slice none 0 0) []]) Kp),K,N,u⟩ ?_;rintro ai e w ⟨U,a3,a6,M,rfl,H,K,N,u⟩;rcases ai with _|ai
  . rw[Y1Q] at u;cases u
  rw[Y1Q] at u;refine SQ (SM G G (MV G G (ST (q0o Tu23 N G) G (ST (q0m G G) G (NT ?_)))));refine CB (p:=a6<(p0.length:Int)) G (fun a9=>?_) fun a9=>?_
  .
   rw[l01 a9] at u;refine SK (TN (BL (SQ ?_)));obtain⟨ck,aj,u⟩:=bnd u;obtain⟨⟨ba,c4⟩,bh,u⟩:=bnd u;try dsimp only at u
   refine RM G G (MV G G (ST (q1E Tu23 Ts5 (N) G G aj) G (q02 H (Y83 bh) G ((N.subV aj)) (q00 G) G ?_)));intro cm M w H J hR;have K:=K.mono J;have N:=N.mono J;try dsimp only at hR
   obtain rfl:=hR;refine MV G G (ST (q05 G G) G (ST (q05 G G) G (AS G G (AQ G G (SM G G (ST (q0z G G) G (NT ?_)))))));refine CB (p:=ba=[]) G (fun aa=>?_) fun aa=>?_
   .
    rw[l01 aa] at u;refine SQ ?_;obtain⟨cn,az,u⟩:=bnd u;refine RM G G (MV G G (ST (q0e G G az) G (AN G G (q0j (q03 (q1s G (q03 (q0b ?_))))))));exact MN ⟨_,_,_,_,G,H,K,u⟩
   rw[l00 aa] at u;refine KQ (SQ ?_);obtain⟨c5,Y,u⟩:=bnd u;refine q0c (fun e w =>∃(au:Bool) (M:Mem),e=[(0,a2),(4,ptr O 0),(5,a3),(6,I a6),(7,S ba),(8,I c4),(41,Value.bool au)]/\St w0 M0 M [.blk O (.cells #[I 0,I 0] 28),RowS 46 2 xenc46 a3 U] w/\Gv3 M/\Sl M encB a2 p0/\some au=some c5) [] ?_ ?_ (trivial)
   .
    obtain⟨co,b0,Y⟩:=bnd Y;obtain⟨c6,bi,Y⟩:=bnd Y;refine RM G G (ST (q0p Tu9 G G b0) G (q02 H (Y33 bi) G trivial (q00 G) G ?_));intro cp M w H J hR;have K:=K.mono J;have N:=N.mono J;obtain rfl:=hR;refine MV G G ?_;rcases c6 with _|_
    .
     rw[l00 l03] at Y;refine q0i 3 G G (PF G G G (NL ?_));exact MN ⟨_,_,G,H,K,N,Y⟩
    rw[l01 rfl] at Y;refine SG (q06 G) G G G (SG (q1w (l:=U) Tu22 H Km G) G G G ?_);refine SG (q0A G G) G G G (PT G G G (NL ?_));exact MN ⟨_,_,G,H,K,N,Y⟩
   rintro e w ⟨au,M,rfl,H,K,N,c7⟩;obtain rfl:=oI c7;refine TN ?_;refine q0a G (fun ab=>?_) (fun ab=>?_)
   .
    subst ab;rw[l01 rfl] at u;refine SQ ?_;obtain⟨cq,b1,u⟩:=bnd u;obtain⟨cr,ak,u⟩:=bnd u;obtain⟨c8,b2,u⟩:=bnd u;obtain⟨bb,al,u⟩:=bnd u;obtain⟨ct,b3,u⟩:=bnd u;refine RM G G (MV G G (ST (q1w (l:=U) Tu22 H Km G) G ?_));refine ST (q0I G G b1) G (q0x (l:=U) H Tu22 Ts46 Km G G ak (q00 G) G ?_);intro cu bj;refine ST (q01 Tu46 G Ts9 Dc G) G (ST (q0y (j:=1) H G bj Km (fun _=>G) ak G Ta9) G ?_);refine MV G G (ST (q0d G G b2) G (q0x (l:=U) H Tu22 Ts46 Km G G al (q00 G) G ?_));intro cv bm;refine ST (q01 Tu46 G Ts9 Dc G) G (WR.storeRowFC (j:=1) (a:=bb) (a':=(bb.1,c8)) H G G ⟨G,G⟩ bm Ud (fun _=>G) al b3 G G Ts9 (q00 G) ?_);intro w H;refine NQ ?_;obtain⟨cw,b4,u⟩:=bnd u;refine RM G G (MV G G (ST (q0e G G b4) G (AN G G (q0j (q03 (q0b ?_))))));exact AG ai ⟨_,_,_,_,G,H,K,N,u⟩ (l0a _)
   subst ab;rw[l00 l03] at u;refine KQ ?_;obtain⟨⟨⟨c9,ca⟩,bc⟩,bn,u⟩:=bnd u;try dsimp only at u
   refine RM G G (q02 H (Y7g bn) G (K) (q00 G) G ?_);intro cx M w H J hR;have K:=K.mono J;have N:=N.mono J;try dsimp only at hR
   obtain rfl:=hR;refine MV G G (ST (q05 G G) G (ST (q05 G G) G (q09 [_,_] H Tz46 G (q00 G) G ?_)));intro cy w H;refine q04 [_,_] H G G G Ku Ts46 G Kf Kf (q00 G) ?_;intro w H;refine AQ G G (SM G G (ST (q0w G) G (NT ?_)));refine q0a G (fun V=>?_) (fun V=>?_)
   .
    replace V:bc=false:=by simpa using V
    subst V;rw[l00 l03] at u;refine q0j (q03 (q1s G (q03 (q0b ?_))));exact MN ⟨_,_,_,_,G,(H.pick (L':=[.blk O (.cells #[I 0,I 0] 28),RowS 46 2 xenc46 a3 U]) Kp),K,u⟩
   replace V:bc=true:=by simpa using V
   subst V;rw[l01 rfl] at u;refine KQ ?_;obtain⟨cb,b5,u⟩:=bnd u;refine RM G G (ST (q08 H G Km Ta46 Ts46 Kf) G ?_);refine q1u (enc:=xenc46) xty22 ([(c9,ca)]:List Z00) H (fun _=>G) G Kr G G G (q00 G) G ?_;intro cz M w H J bo;have K:=K.mono J;have N:=N.mono J;refine WR.appSC (l:=U) xty22 G xone46 H G Ud G (bo) b5 (q00 G) G ?_;intro cc w H;refine AN G G ?_;obtain⟨d0,b6,u⟩:=bnd u;refine RM G G (MV G G (ST (q0e G G b6) G (AS G G (NL (IB ?_)))));exact AG ai ⟨_,_,_,_,G,(H.pick (L':=[.blk O (.cells #[I 0,I 0] 28),RowS 46 2 xenc46 cc cb]) Kp),K,N,u⟩ (l0a _)
  rw[l00 a9] at u;refine q0j (q03 (q03 (q0b ?_)));exact MN ⟨_,_,_,_,G,H,K,u⟩
 rintro e w ⟨l8,Z,a5,M,rfl,H,K,cd⟩;obtain rfl:=oI cd;try dsimp only at h
 refine TN (SQ (SM G G (ST (q1w (l:=l8) Tu22 H Km G) G ?_)));refine ST (q0A G G) G (NT ?_);refine CB (p:=(60:Int)<(l8.length:Int)) G (fun ac=>?_) fun ac=>?_
 .
  rw[l01 ac] at h;refine SQ ?_;obtain⟨⟨d1,d2⟩,bp,h⟩:=bnd h;try dsimp only at h
  refine RG (q02 H (Y02 bp) G trivial (q00 G) G ?_);intro d3 M w H J hR;try dsimp only at hR
  obtain rfl:=hR;refine AS G G (AS G G (q04 [_,_] H G G G Ku Ts28 G Kf Kf (q00 G) ?_));intro w H;refine NR ?_;obtain rfl:=oI h;exact WQ.ret3 G G G ⟨_,G,H.loadAgg Km Ta28 Ts28 Kf⟩ H.ext (⟨_,G,(q1a _ _ (fun _=>G))⟩)
 rw[l00 ac] at h;refine KQ ?_;obtain⟨_,bq,h⟩:=bnd h;refine RG (q0M (enc:=encS) xty77 ([[0],[32],[13],[32]]:List Ls) H G Kf (fun _=>G) G G (q00 G) G ?_);intro d4 M w H J br;have K:=K.mono J;refine q0R (A:=[]) (B:=[.blk O (.cells #[I 0,I 0] 28),RowS 46 2 xenc46 Z l8]) H (Y5J bq) (q0P _) G (br) (q00 G) G ?_;intro d5 M w its H J hR;have K:=K.mono J;obtain⟨a1,ce,rfl,bs,rfl⟩:=hR;simp only[l09,l07] at H;refine AQ G G (SM G G (ST (q1w (l:=l8) Tu22 H Km G) G ?_));refine MV G G (NT ?_);obtain⟨bd,E,h⟩:=bnd h;refine q0c (fun e w =>∃(av:Int) (aw:Int) (ax:List Z00) (M:Mem),e=[(4,ptr O 0),(5,Z),(6,I a5)]/\St w0 M0 M [.blk O (.cells #[I av,I aw] 28),RowS 46 2 xenc46 Z ax] w/\Gv3 M/\some (.inl (av,aw,ax))=some bd) [] ?_ ?_ (trivial)
 .
  refine BL ?_;refine q0l (fun m e w =>∃(a7:Int) (a8:Int) (a4:List Z00) (am:Array Value) (an:Int) (M:Mem),e=[(4,ptr O 0),(5,Z),(6,I a5),(11,ptr a1 0),(77,I (l8.length:Int)),(78,I an)]/\St w0 M0 M [.blk O (.cells #[I a7,I a8] 28),RowS 46 2 xenc46 Z a4, .blk a1 (.cells am 140)] w/\Gv3 M/\RplM M am/\Y1R l8 m a7 a8 a4 an=some bd) FU [(4,_),(5,_),(6,_),(11,_),(77,_),(78,_)] ⟨rfl,rfl,rfl,rfl,rfl,rfl,trivial⟩ ⟨_,_,_,_,_,_,rfl,(H.pick (L':=[.blk O (.cells #[I 0,I 0] 28),RowS 46 2 xenc46 Z l8, .blk a1 (.cells ce 140)]) Kp),K,bs,E⟩ ?_;rintro ay e w ⟨a7,a8,a4,am,an,M,rfl,H,K,bt,E⟩;rcases ay with _|ay
  . rw[Y1R] at E;cases E
  rw[Y1R] at E;refine SR (ST (q0m G G) G (NQ ?_));refine CB (p:=an<(l8.length:Int)) G (fun ad=>?_) fun ad=>?_
  .
   rw[l01 ad] at E;refine KQ (BL (SM G G (AQ G G ?_)));obtain⟨d6,ao,E⟩:=bnd E;obtain⟨d7,b7,E⟩:=bnd E;obtain⟨be,bu,E⟩:=bnd E;refine RM G G (MV G G (MV G G (q0x (l:=a4) H Tu22 Ts46 Km G G ao (q00 G) G ?_)));intro d8 bv;refine ST (q01 Tu46 G Ts9 Dc G) G (ST (q0y (j:=1) H G bv Km (fun _=>G) ao G Ta9) G ?_);refine XC (A:=[.blk a1 (.cells am 140)]) H (Y4J b7) G bt (q00 G) G Kt ?_;intro d9 M w its H J hR;have K:=K.mono J;obtain⟨cf,rfl,ae,rfl⟩:=hR;simp only[l09,l07] at H;refine q02 H (Y7s bu) G trivial (q00 G) G ?_;intro da M w H J hR;have K:=K.mono J;have ae:=ae.mono J;obtain rfl:=hR;refine AQ G G (SM G G (ST (q0g Tu9 G) G (ST (q0A G G) G (NT ?_))));refine CB (p:=(4000:Int)<(be.length:Int)) G (fun ah=>?_) fun ah=>?_
   .
    rw[l01 ah] at E;refine SQ ?_;obtain⟨⟨db,dc⟩,bw,E⟩:=bnd E;try dsimp only at E
    refine RM G G (q02 H (Y02 bw) G trivial (q00 G) G ?_);intro dd M w H J hR;try dsimp only at hR
    obtain rfl:=hR;refine AS G G (AS G G (q04 [_,_] H G G G Ku Ts28 G Kf Kf (q00 G) ?_));intro w H;refine NR ?_;obtain rfl:=oI E;try dsimp only at h
    obtain rfl:=oI h;exact WQ.ret3 G G G ⟨_,G,H.loadAgg Km Ta28 Ts28 Kf⟩ H.ext (⟨_,G,(q1a _ _ (fun _=>G))⟩)
   rw[l00 ah] at E;refine SK (TN ?_);obtain⟨bg,ap,E⟩:=bnd E;obtain⟨cg,b8,E⟩:=bnd E;refine RM G G (MV G G (MV G G (q0x (l:=a4) H Tu22 Ts46 Km G G ap (q00 G) G ?_)));intro de bx;refine ST (q01 Tu46 G Ts9 Dc G) G (WR.storeRowFC (j:=1) (a:=bg) (a':=(bg.1,be)) H G G ⟨G,G⟩ bx Ud (fun _=>G) ap b8 G G Ts9 (q00 G) ?_);intro w H;refine NL (IB (TN ?_));obtain⟨df,b9,E⟩:=bnd E;refine RG (ST (q0e G G b9) G (MV G G (NL ?_)));exact AG ay ⟨_,_,_,_,_,_,G,(H.pick (L':=[.blk O (.cells #[I a7,I a8] 28),RowS 46 2 xenc46 Z cg, .blk a1 (.cells cf 140)]) Kp),K,ae,E⟩ (l0a _)
  rw[l00 ad] at E;refine q0j (q03 (q03 (q0b ?_)));exact MN ⟨_,_,_,_,G,(H.pick (L':=[.blk O (.cells #[I a7,I a8] 28),RowS 46 2 xenc46 Z a4]) Kp),K,E⟩
 rintro e w ⟨av,aw,ax,M,rfl,H,K,ch⟩;obtain rfl:=oI ch;try dsimp only at h
 refine TN (SQ ?_);obtain⟨⟨dh,di⟩,bz,h⟩:=bnd h;try dsimp only at h
 refine RM G G (MV G G (q02 H (Y07 bz) G trivial (q00 G) G ?_));intro ci M w H J hR;try dsimp only at hR
 obtain rfl:=hR;refine AS G G (AS G G (q04 [_,_] H G G G Ku Ts28 G Kf Kf (q00 G) ?_));intro w H;refine NR ?_;obtain⟨M,J,c0,H⟩:=H.freezeRowS (v:=Z) (enc:=xenc46) (t:=46) Kv (fun _=>rfl);obtain rfl:=oI h;exact WQ.ret3 G G G ⟨_,G,H.loadAgg Km Ta28 Ts28 Kf⟩ H.ext (⟨_,G,c0⟩)
theorem Y7h {p0:Ls}{K:Value}{r:Ls}(h:Y3U p0=some r):Ct Tryz.prog 20 [K] (fun M=>Sl M encB K p0) (fun v M=>Sl M encB v r):=by
 refine Ct.of Tryz.func20 (enters Tryz.func20 Kr G) G G G ?_;intro w0 M0 H hp;have u:=hp;unfold Y3U at h;refine SR (AQ G G (RG (AQ G G (SR (AN G G ?_)))));obtain⟨o1,E,h⟩:=bnd h;refine q0c (fun e w =>∃(l4:Ls) (v5:Value) (M:Mem),e=[(3,v5)]/\St w0 M0 M [RowI 5 encB v5 l4] w/\some l4=some o1) [] ?_ ?_ (trivial)
 .
  refine BL ?_;replace H:=H.newRow 5 encB;refine q0l (fun m e w =>∃(Z:Ls) (v8:Value) (n9:Int) (M:Mem),e=[(0,K),(3,v8),(4,I n9)]/\St w0 M0 M [RowI 5 encB v8 Z] w/\Sl M encB K p0/\Y0T p0 m Z n9=some o1) FU [(0,_),(3,_),(4,_)] ⟨rfl,rfl,rfl,trivial⟩ ⟨_,_,_,_,rfl,H,u,E⟩ ?_;rintro a0 e w ⟨Z,v8,n9,M,rfl,H,u,E⟩;rcases a0 with _|a0
  . rw[Y0T] at E;cases E
  rw[Y0T] at E;refine SQ (SM G G (MV G G (ST (q0o Tu23 u G) G (ST (q0m G G) G (NT ?_)))));refine CB (p:=n9<(p0.length:Int)) G (fun a2=>?_) fun a2=>?_
  .
   rw[l01 a2] at E;refine KQ (BL (BL (SQ ?_)));obtain⟨ba,J,E⟩:=bnd E;refine q0c (fun e w =>∃(a6:Bool) (M:Mem),e=[(0,K),(3,v8),(4,I n9),(18,Value.bool a6)]/\St w0 M0 M [RowI 5 encB v8 Z] w/\Sl M encB K p0/\some a6=some ba) [] ?_ ?_ (trivial)
   .
    obtain⟨a7,ac,J⟩:=bnd J;obtain⟨bm,br,av,aw⟩:=u.atC ac;refine RM G G (MV G G (ST (q0q av Tu23 Ts5 G G) G (ST (q0n H G aw Ta5) G ?_)));by_cases U:a7=13
    .
     rw[l01 U] at J;obtain⟨bb,ad,J⟩:=bnd J;refine DT U (q0J (c:=a7) (d:=13) G G) G (MV G G (SG (q06 G) G G G (SG (q0e G G ad) G G G (SG (q06 G) G G G (SG (q0o Tu23 u G) G G G ?_)))));by_cases V:bb<(p0.length:Int)
     .
      rw[l01 V] at J;obtain⟨bs,ae,J⟩:=bnd J;obtain⟨bc,ah,J⟩:=bnd J;obtain⟨bn,bt,ax,ay⟩:=u.atC ah;refine DU V (q0m G G) G G G (PT G G G (MV G G (SG (q06 G) G G G (SG (q06 G) G G G (SG (q0e G G ae) G G G (SG (q0q ax Tu23 Ts5 G G) G G G (SG (q0n H G ay Ta5) G G G (SG (q0J (c:=bc) (d:=10) G G) G G G (PT G G G (AS G G (NL ?_)))))))))));exact MN ⟨_,_,G,H,u,J⟩
     rw[l00 V] at J;refine DG V (q0m G G) G G G (PT G G G (MV G G (q0i 6 G G (PF G G G (AS G G (NL ?_))))));exact MN ⟨_,_,G,H,u,J⟩
    rw[l00 U] at J;refine DF U (q0J (c:=a7) (d:=13) G G) G (MV G G (q0i 5 G G (PF G G G (MV G G (q0i 6 G G (PF G G G (AS G G (NL ?_))))))));exact MN ⟨_,_,G,H,u,J⟩
   rintro e w ⟨a6,M,rfl,H,u,bd⟩;obtain rfl:=oI bd;refine TN ?_;refine q0a G (fun a3=>?_) (fun a3=>?_)
   .
    subst a3;rw[l01 rfl] at E;refine SQ ?_;obtain⟨bu,ai,E⟩:=bnd E;refine RM G G (ST (q0e G G ai) G (AN G G ?_));obtain⟨bv,aj,E⟩:=bnd E;refine RM G G (q0M (enc:=encB) xty23 ([13,10]:Ls) H G Kf (fun _=>G) G G (q00 G) G ?_);intro bw M w H O az;have u:=u.mono O;refine q0F (l:=Z) xty23 G (fun _=>G) H G Ud G (az) aj (q00 G) G ?_;intro bx w H;refine AS G G (NL (IB (IB (TN ?_))));obtain⟨bz,ak,E⟩:=bnd E;refine RM G G (ST (q0e G G ak) G (AS G G (NL ?_)));exact AG a0 ⟨_,_,_,_,G,H,u,E⟩ (l0a _)
   subst a3;rw[l00 l03] at E;refine SQ ?_;obtain⟨be,N,E⟩:=bnd E;refine q0c (fun e w =>∃(a8:Bool) (M:Mem),e=[(0,K),(3,v8),(4,I n9),(44,Value.bool a8)]/\St w0 M0 M [RowI 5 encB v8 Z] w/\Sl M encB K p0/\some a8=some be) [] ?_ ?_ (trivial)
   .
    obtain⟨a9,al,N⟩:=bnd N;obtain⟨bo,c0,b0,b1⟩:=u.atC al;refine RM G G (MV G G (ST (q0q b0 Tu23 Ts5 G G) G (ST (q0n H G b1 Ta5) G ?_)));by_cases Y:a9=13
    .
     rw[l01 Y] at N;refine DT Y (q0J (c:=a9) (d:=13) G G) G (MV G G (q0i 5 G G (PT G G G (AS G G (NL ?_)))));exact MN ⟨_,_,G,H,u,N⟩
    rw[l00 Y] at N;obtain⟨bg,am,N⟩:=bnd N;obtain⟨bp,c1,b2,b3⟩:=u.atC am;refine DF Y (q0J (c:=a9) (d:=13) G G) G (MV G G (SG (q06 G) G G G (SG (q06 G) G G G (SG (q0q b2 Tu23 Ts5 G G) G G G (SG (q0n H G b3 Ta5) G G G (SG (q0J (c:=bg) (d:=10) G G) G G G (PF G G G (AS G G (NL ?_)))))))));exact MN ⟨_,_,G,H,u,N⟩
   rintro e w ⟨a8,M,rfl,H,u,bh⟩;obtain rfl:=oI bh;refine TN ?_;refine q0a G (fun a4=>?_) (fun a4=>?_)
   .
    subst a4;rw[l01 rfl] at E;obtain⟨c2,an,E⟩:=bnd E;refine RM G G (q0M (enc:=encB) xty23 ([13,10]:Ls) H G Kf (fun _=>G) G G (q00 G) G ?_);intro c3 M w H O b4;have u:=u.mono O;refine q0F (l:=Z) xty23 G (fun _=>G) H G Ud G (b4) an (q00 G) G ?_;intro c4 w H;refine AS G G (NL (IB (IB (TN ?_))));obtain⟨c5,ao,E⟩:=bnd E;refine RM G G (ST (q0e G G ao) G (AS G G (NL ?_)));exact AG a0 ⟨_,_,_,_,G,H,u,E⟩ (l0a _)
   subst a4;rw[l00 l03] at E;obtain⟨bi,ap,E⟩:=bnd E;obtain⟨bq,c6,b5,b6⟩:=u.atC ap;obtain⟨c7,aq,E⟩:=bnd E;refine RM G G (MV G G (MV G G (ST (q0q b5 Tu23 Ts5 G G) G (ST (q0n H G b6 Ta5) G (q0M (enc:=encB) xty23 ([bi]:Ls) H G Kf (fun _=>G) G G (q00 G) G ?_)))));intro c8 M w H O b7;have u:=u.mono O;refine q0F (l:=Z) xty23 G (fun _=>G) H G Ud G (b7) aq (q00 G) G ?_;intro c9 w H;refine AS G G (NL (IB (IB (TN ?_))));obtain⟨ca,ar,E⟩:=bnd E;refine RM G G (ST (q0e G G ar) G (AS G G (NL ?_)));exact AG a0 ⟨_,_,_,_,G,H,u,E⟩ (l0a _)
  rw[l00 a2] at E;refine q0j (q03 (q03 (q0b ?_)));exact MN ⟨_,_,_,G,H,E⟩
 rintro e w ⟨l4,v5,M,rfl,H,bj⟩;obtain rfl:=oI bj;refine TN (SM G G (AR G G ?_));obtain⟨M,O,b8,H⟩:=H.freezeRow (v:=v5) (enc:=encB) (t:=5) Kv;obtain rfl:=oI h;exact q07 G G H.ext b8
theorem Y5U {p0:Ls}{a9:Value}{r:(Z0h × Z02)}(h:Y3N p0=some r):Ct Tryz.prog 7 [a9] (fun M=>Gv3 M/\Sl M encB a9 p0) (fun v M =>∃a0 a1,v=Value.tuple #[Value.agg #[a0,a1],Value.agg #[I r.2.1,I r.2.2]]/\SlS M 2 xenc46 a0 r.1.1/\Sl M encB a1 r.1.2):=by
 refine Ct.of Tryz.func7 (enters Tryz.func7 Kr G) G G G ?_;intro w0 M0 H hp;obtain⟨K,V⟩:=hp;unfold Y3N at h;refine SR (q09 [_,_] H Tz25 G (q00 G) G ?_);intro N w H;refine q09 [_,_] H Tz28 G (q00 G) G ?_;intro O w H;refine NQ ?_;obtain⟨⟨l1,n2,⟨n3,n4⟩⟩,ai,h⟩:=bnd h;try dsimp only at h
 refine RM G G (q02 H (Y6p ai) G ⟨K,V⟩ (q00 G) G ?_);intro an M w H J hR;have K:=K.mono J;have V:=V.mono J;try dsimp only at hR
 obtain⟨U,rfl,u⟩:=hR;refine MV G G (ST (q05 G G) G (ST (q05 G G) G (ST (q05 G G) G (q09 [_,_] H Tz28 G (q00 G) G ?_))));intro ao w H;refine AS G G (AS G G (q04 [_,_] H G G G Ku Ts28 G Kf Kf (q00 G) ?_));intro w H;refine NQ (SQ ?_);obtain⟨b6,aj,h⟩:=bnd h;refine RG (ST (q08 H G Km Ta28 Ts28 Kf) G ?_);refine q02 H (Y06 aj) G trivial (q00 G) G ?_;intro ap M w H J hR;have K:=K.mono J;have V:=V.mono J;have u:=u.mono J;obtain rfl:=hR;refine NT ?_;refine q0a G (fun a2=>?_) (fun a2=>?_)
 .
  subst a2;rw[l01 rfl] at h;refine SQ ?_;refine q0V (fun e w =>∃  (M:Mem),e=[(2,ptr N 0),(3,ptr O 0)]/\St w0 M0 M [.blk N (.cells #[Value.slice none 0 0,Value.slice none 0 0] 25), .blk O (.cells #[I n3,I n4] 28)] w/\Gv3 M) ?_ ?_
  .
   refine q0v (m:=4) G G H ?_;intro w H;refine TK 0 G (fun _=>q0t [Value.slice none 0 0,Value.slice none 0 0] Tu25 Tz25 (xplaces25 Tu25) G G) G ?_;refine q0C (i:=1) (j:=2) Kr G G ?_ ?_
   .
    refine ST (q08 H G Km Ta28 Ts28 Kf) G ?_;refine NA (q0k (fuel:=0) [2,3] G Kr (q04 [_,_] H G G G Ku Ts25 G Kf Kf (q00 G) ?_));intro w H;refine q04 [_,_] H G G G Ku Ts28 G Kf Kf (q00 G) ?_;intro w H;refine NA (q0f Kr ?_);exact MP ⟨_,G,(H.pick (L':=[.blk N (.cells #[Value.slice none 0 0,Value.slice none 0 0] 25), .blk O (.cells #[I n3,I n4] 28)]) Kp),K⟩
   refine q04 [_,_] H G G G Ku Ts25 G Kf Kf (q00 G) ?_;intro w H;refine NA (q0k (fuel:=0) [1,3] G Kr (ST (q08 H G Km Ta28 Ts28 Kf) G ?_));refine q04 [_,_] H G G G Ku Ts28 G Kf Kf (q00 G) ?_;intro w H;refine NA (q0f Kr ?_);exact MP ⟨_,G,(H.pick (L':=[.blk N (.cells #[Value.slice none 0 0,Value.slice none 0 0] 25), .blk O (.cells #[I n3,I n4] 28)]) Kp),K⟩
  rintro e w ⟨M,rfl,H,K⟩;refine TN (RT ?_);obtain rfl:=oI h;exact q0r G ⟨_,G,H.loadAgg Km Ta25 Ts25 Kf⟩ ⟨_,G,H.loadAgg Km Ta28 Ts28 Kf⟩ H.ext (⟨_,_,G,(q1a _ _ (fun _=>G)),q0U _ _⟩)
 subst a2;rw[l00 l03] at h;refine KQ ?_;obtain⟨l9,a3,h⟩:=bnd h;obtain⟨ak,ad,h⟩:=bnd h;refine RM G G (MV G G (MV G G (ST (q1E Tu23 Ts5 (V) G G a3) G (q02 H (Y7h ad) G ((V.subV a3)) (q00 G) G ?_))));intro Y M w H J hR;have K:=K.mono J;have u:=u.mono J;have E:=hR;refine ST (q0t [U,Y] Tu25 Tz25 (xplaces25 Tu25) G (by obtain⟨_,_,_,hv,-⟩:=u;rw [hv];clear hv;obtain ⟨_,_,hv,-⟩:=E;rw [hv];clear hv;rfl)) G ?_;refine q09 [_,_] H Tz25 G (q00 G) G ?_;intro aq w H;refine q04 [_,_] H G G G Ku Ts25 G Kf (by simp only[l0i,l0u,(u).one.2,(E).one.2];rfl) (q00 G) ?_;intro w H;refine NQ (SQ ?_);obtain⟨⟨a4,a5⟩,ae,h⟩:=bnd h;try dsimp only at h
 refine RG (ST (q08 H G Km Ta25 Ts25 Kf) G ?_);refine q02 H (Y2Z ae) G ⟨u,E⟩ (q00 G) G ?_;intro ar M w H J hR;have K:=K.mono J;have u:=u.mono J;have E:=E.mono J;try dsimp only at hR
 obtain rfl:=hR;refine q09 [_,_] H Tz28 G (q00 G) G ?_;intro au w H;refine q04 [_,_] H G G G Ku Ts28 G Kf Kf (q00 G) ?_;intro w H;refine NQ ?_;obtain⟨av,ah,h⟩:=bnd h;refine RG (ST (q08 H G Km Ta28 Ts28 Kf) G ?_);refine q02 H (Y06 ah) G trivial (q00 G) G ?_;intro aw M w H J hR;have K:=K.mono J;have u:=u.mono J;have E:=E.mono J;obtain rfl:=hR;refine NT ?_;refine q0a G (fun Z=>?_) (fun Z=>?_)
 .
  subst Z;rw[l01 rfl] at h;refine SQ ?_;refine q0V (fun e w =>∃  (M:Mem),e=[(2,ptr N 0),(3,ptr O 0)]/\St w0 M0 M [.blk N (.cells #[Value.slice none 0 0,Value.slice none 0 0] 25), .blk O (.cells #[I a4,I a5] 28)] w/\Gv3 M) ?_ ?_
  .
   refine q0v (m:=4) G G H ?_;intro w H;refine TK 0 G (fun _=>q0t [Value.slice none 0 0,Value.slice none 0 0] Tu25 Tz25 (xplaces25 Tu25) G G) G ?_;refine q0C (i:=1) (j:=2) Kr G G ?_ ?_
   .
    refine ST (q08 H G Km Ta28 Ts28 Kf) G ?_;refine NA (q0k (fuel:=0) [2,3] G Kr (q04 [_,_] H G G G Ku Ts25 G Kf Kf (q00 G) ?_));intro w H;refine q04 [_,_] H G G G Ku Ts28 G Kf Kf (q00 G) ?_;intro w H;refine NA (q0f Kr ?_);exact MP ⟨_,G,(H.pick (L':=[.blk N (.cells #[Value.slice none 0 0,Value.slice none 0 0] 25), .blk O (.cells #[I a4,I a5] 28)]) Kp),K⟩
   refine q04 [_,_] H G G G Ku Ts25 G Kf Kf (q00 G) ?_;intro w H;refine NA (q0k (fuel:=0) [1,3] G Kr (ST (q08 H G Km Ta28 Ts28 Kf) G ?_));refine q04 [_,_] H G G G Ku Ts28 G Kf Kf (q00 G) ?_;intro w H;refine NA (q0f Kr ?_);exact MP ⟨_,G,(H.pick (L':=[.blk N (.cells #[Value.slice none 0 0,Value.slice none 0 0] 25), .blk O (.cells #[I a4,I a5] 28)]) Kp),K⟩
  rintro e w ⟨M,rfl,H,K⟩;refine TN (RT ?_);obtain rfl:=oI h;exact q0r G ⟨_,G,H.loadAgg Km Ta25 Ts25 Kf⟩ ⟨_,G,H.loadAgg Km Ta28 Ts28 Kf⟩ H.ext (⟨_,_,G,(q1a _ _ (fun _=>G)),q0U _ _⟩)
 subst Z;rw[l00 l03] at h;refine KQ ?_;obtain⟨⟨a6,a7⟩,a8,h⟩:=bnd h;try dsimp only at h
 refine q0V (fun e w =>∃  (M:Mem),e=[(2,ptr N 0),(3,ptr O 0)]/\St w0 M0 M [.blk N (.cells #[U,Y] 25), .blk O (.cells #[I a6,I a7] 28)] w/\Gv3 M/\SlS M 2 xenc46 U l1/\Sl M encB Y ak) ?_ ?_
 .
  refine q0v (m:=4) G G H ?_;intro w H;refine q0C (i:=0) (j:=1) Kr G G ?_ ?_
  .
   refine ST (q08 H G Km Ta25 Ts25 Kf) G ?_;refine NA (q0k (fuel:=0) [1,2,3] G Kr (q02 H (Y07 a8) G trivial (q00 G) G ?_));intro al M w H J hR;have K:=K.mono J;have u:=u.mono J;have E:=E.mono J;try dsimp only at hR
   obtain rfl:=hR;refine q04 [_,_] H G G G Ku Ts25 G Kf (by simp only[l0i,l0u,(u).one.2,(E).one.2];rfl) (q00 G) ?_;intro w H;refine q04 [_,_] H G G G Ku Ts28 G Kf Kf (q00 G) ?_;intro w H;refine NA (q0f Kr ?_);exact MP ⟨_,G,(H.pick (L':=[.blk N (.cells #[U,Y] 25), .blk O (.cells #[I a6,I a7] 28)]) Kp),K,u,E⟩
  refine q02 H (Y07 a8) G trivial (q00 G) G ?_;intro al M w H J hR;have K:=K.mono J;have u:=u.mono J;have E:=E.mono J;try dsimp only at hR
  obtain rfl:=hR;refine NA (q0k (fuel:=0) [0,2,3] G Kr (ST (q08 H G Km Ta25 Ts25 Kf) G ?_));refine q04 [_,_] H G G G Ku Ts25 G Kf (by simp only[l0i,l0u,(u).one.2,(E).one.2];rfl) (q00 G) ?_;intro w H;refine q04 [_,_] H G G G Ku Ts28 G Kf Kf (q00 G) ?_;intro w H;refine NA (q0f Kr ?_);exact MP ⟨_,G,(H.pick (L':=[.blk N (.cells #[U,Y] 25), .blk O (.cells #[I a6,I a7] 28)]) Kp),K,u,E⟩
 rintro e w ⟨M,rfl,H,K,u,E⟩;refine TN (RT ?_);obtain rfl:=oI h;exact q0r G ⟨_,G,H.loadAgg Km Ta25 Ts25 Kf⟩ ⟨_,G,H.loadAgg Km Ta28 Ts28 Kf⟩ H.ext (⟨_,_,G,u,E⟩)
theorem Y6y {p0:Ls}{O:Ls}{r:Ls}(h:Y3F p0 O=some r):Ct Tryz.prog 199 [S p0,S O] (fun M=>True) (fun v M=>v=S r):=by
 refine Ct.of Tryz.func199 (enters Tryz.func199 Kr G) G G G ?_;intro w0 M0 H hp;unfold Y3F at h;refine SR (AQ G G (SQ ?_));obtain⟨o1,Y,h⟩:=bnd h;refine q0c (fun e w =>∃(b3:Bool) (M:Mem),e=[(0,S p0),(1,S O),(12,Value.bool b3)]/\St w0 M0 M [] w/\some b3=some o1) [] ?_ ?_ (trivial)
 .
  by_cases K:p0=[]
  .
   rw[l01 K] at Y;refine RM G G (DT K (q0z G G) G (MV G G (GT G G G (GT G G G (PT G G G (NL ?_))))));exact MN ⟨_,_,G,H,Y⟩
  rw[l00 K] at Y;refine RM G G (DF K (q0z G G) G (MV G G (SG (q06 G) G G G (SG (q0z G G) G G G (PF G G G (NL ?_))))));exact MN ⟨_,_,G,H,Y⟩
 rintro e w ⟨b3,M,rfl,H,q5⟩;obtain rfl:=oI q5;refine TN ?_;refine q0a G (fun U=>?_) (fun U=>?_)
 .
  subst U;rw[l01 rfl] at h;refine SM G G (AR G G ?_);obtain rfl:=oI h;exact q07 G G H.ext G
 subst U;rw[l00 l03] at h;refine KQ (SQ ?_);obtain⟨o7,N,h⟩:=bnd h;refine q0c (fun e w =>∃(b9:Bool) (M:Mem),e=[(0,S p0),(1,S O),(21,Value.bool b9)]/\St w0 M0 M [] w/\some b9=some o7) [] ?_ ?_ (trivial)
 .
  refine RM G G (ST (q0g Tu9 G) G ?_);by_cases u:(O.length:Int)=(1:Int)
  .
   rw[l01 u] at N;obtain⟨aa,Z,N⟩:=bnd N;refine DT u (q0s G G) G (MV G G (SG (q06 G) G G G (SG (q0p Tu9 G G Z) G G G (SG (Ex.lssB (i:=aa.toNat) (j:=128) G G) G G G (PT G G G (NL ?_))))));exact MN ⟨_,_,G,H,N⟩
  rw[l00 u] at N;refine DF u (q0s G G) G (MV G G (q0i 3 G G (PF G G G (NL ?_))));exact MN ⟨_,_,G,H,N⟩
 rintro e w ⟨b9,M,rfl,H,ab⟩;obtain rfl:=oI ab;refine TN ?_;refine q0a G (fun E=>?_) (fun E=>?_)
 .
  subst E;rw[l01 rfl] at h;refine SQ ?_;obtain⟨aj,a0,h⟩:=bnd h;obtain⟨ak,a5,h⟩:=bnd h;refine RM G G (MV G G (ST (q0p Tu9 G G a0) G (q02 H (Y3Z a5) G trivial (q00 G) G ?_)));intro al M w H V hR;obtain rfl:=hR;refine AR G G ?_;obtain rfl:=oI h;exact q07 G G H.ext G
 subst E;rw[l00 l03] at h;refine KQ (SQ ?_);obtain⟨⟨ac,am⟩,a6,h⟩:=bnd h;try dsimp only at h
 obtain⟨an,a1,h⟩:=bnd h;obtain⟨ao,a2,h⟩:=bnd h;refine RM G G (q02 H (Y2b a6) G trivial (q00 G) G ?_);intro ap M w H V hR;try dsimp only at hR
 obtain rfl:=hR;refine MV G G (ST (q05 G G) G (ST (q05 G G) G (q09 (List.map encBo (List.replicate 256 false:List Bool)) H Tz143 Kr (q00 G) G ?_)));intro ad w H;refine q1A (l2:=ac) H G G (fun _=>G) Ud a1 a2 Ts143 (q00 G) ?_;intro w H;refine AN G G (SM G G (NT ?_));refine q0a G (fun J=>?_) (fun J=>?_)
 .
  subst J;rw[l01 rfl] at h;refine SQ ?_;obtain⟨aq,a7,h⟩:=bnd h;refine RM G G ?_;obtain⟨M,V,a8,H⟩:=H.freezeVar (b:=ad) Kv;refine q02 H (Y3Q a7) G (a8) (q00 G) G ?_;intro ar M w H V hR;obtain rfl:=hR;refine AR G G ?_;obtain rfl:=oI h;exact q07 G G H.ext G
 subst J;rw[l00 l03] at h;cases h
theorem Y37 {p0:Ls}{u:Nat}{r:Ls}(h:Y1h p0=some r):CtX Tryz.prog 165 [ptr u 0] [.blk u (.cells #[S p0] 235)] (fun M=>True) (fun v M its=>v=Value.tuple #[]/\its=[.blk u (.cells #[S r] 235)]):=by
 refine q0W Tryz.func165 (enters Tryz.func165 Kr G) G G G ?_;intro N M0 H hp;unfold Y1h at h;obtain⟨J,E,h⟩:=bnd h;refine RM G G (MV G G (FN G G Tu235 G Ts9 G G (ST (XL H Ta9) G ?_)));refine q02 H (Y6y E) G trivial (q00 G) G ?_;intro O M w H K hR;obtain rfl:=hR;refine FN G G Tu235 G Ts9 G G (q04 [_] H G G G Ku Ts9 G Kf Kf (q00 G) ?_);intro w H;refine NL ?_;obtain rfl:=oI h;exact WQ.endX0 (its:=[.blk u (.cells #[S J] 235)]) G H Kp ⟨G,G⟩
theorem Y2F {p0:Ls}{V:(UInt8->Option Bool)}{u:Nat}{K:Value}{r:Z00}(h:Y1o p0 V=some r):CtX Tryz.prog 161 [ptr u 0,K] [.blk u (.cells #[S p0] 235)] (fun M=>FnT82 M K V) (fun v M its=>v=S r.1/\its=[.blk u (.cells #[S r.2] 235)]):=by
 refine q0W Tryz.func161 (enters Tryz.func161 Kr G) G G G ?_;intro w0 M0 H hp;have E:=hp;unfold Y1o at h;refine SR (AQ G G ?_);obtain⟨Y,aa,h⟩:=bnd h;refine RM G G (XC (A:=[.blk u (.cells #[S p0] 235)]) H (Y37 aa) G trivial (q00 G) G Kt ?_);intro v8 M w its H Z hR;have E:=E.mono Z;obtain⟨rfl,rfl⟩:=hR;simp only[l09,l07] at H;refine NQ (RG (AQ G G ?_));obtain⟨o3,J,h⟩:=bnd h;refine q0c (fun e w =>∃(n5:Int) (M:Mem),e=[(0,ptr u 0),(5,I n5)]/\StX (feet [.blk u (.cells #[S p0] 235)]) w0 M0 M [.blk u (.cells #[S Y] 235)] w/\some n5=some o3) [] ?_ ?_ (trivial)
 .
  refine BL (q0l (fun m e w =>∃(n6:Int) (M:Mem),e=[(0,ptr u 0),(1,K),(5,I n6)]/\StX (feet [.blk u (.cells #[S p0] 235)]) w0 M0 M [.blk u (.cells #[S Y] 235)] w/\FnT82 M K V/\Y0K V Y m n6=some o3) FU [(0,_),(1,_),(5,_)] ⟨rfl,rfl,rfl,trivial⟩ ⟨_,_,rfl,H,E,J⟩ ?_);rintro m7 e w ⟨n6,M,rfl,H,E,J⟩;rcases m7 with _|m7
  . rw[Y0K] at J;cases J
  rw[Y0K] at J;refine SQ (SQ ?_);obtain⟨o8,O,J⟩:=bnd J;refine q0c (fun e w =>∃(a1:Bool) (M:Mem),e=[(0,ptr u 0),(1,K),(5,I n6),(25,Value.bool a1)]/\StX (feet [.blk u (.cells #[S p0] 235)]) w0 M0 M [.blk u (.cells #[S Y] 235)] w/\FnT82 M K V/\some a1=some o8) [] ?_ ?_ (trivial)
  .
   refine RM G G (MV G G (FN G G Tu235 G Ts9 G G (ST (XL H Ta9) G ?_)));refine ST (q0g Tu9 G) G ?_;by_cases N:n6<(Y.length:Int)
   .
    rw[l01 N] at O;obtain⟨ai,a2,O⟩:=bnd O;obtain⟨aj,a9,O⟩:=bnd O;refine DT N (q0m G G) G (MV G G (SG (q06 G) G G G (SG (q06 G) G G G (SG (q0S G) G G G (SG (q01 Tu235 G Ts9 Dc G) G G G (SG (XL H Ta9) G G G ?_))))));refine SG (q06 G) G G G (SG (q0p Tu9 G G a2) G G G (WR.callF H (E _ _ a9) G G (q0h G G G) G ?_));intro ak M w H Z hR;have E:=E.mono Z;obtain rfl:=hR;refine PT G G G (NL ?_);exact MN ⟨_,_,G,H,E,O⟩
   rw[l00 N] at O;refine DF N (q0m G G) G (MV G G (q0i 8 G G (PF G G G (NL ?_))));exact MN ⟨_,_,G,H,E,O⟩
  rintro e w ⟨a1,M,rfl,H,E,ac⟩;obtain rfl:=oI ac;refine TN ?_;refine q0a G (fun U=>?_) (fun U=>?_)
  .
   subst U;rw[l01 rfl] at J;refine SK (TN (BL ?_));obtain⟨al,a3,J⟩:=bnd J;refine RM G G (ST (q0e G G a3) G (AS G G (NL (IB ?_))));exact AG m7 ⟨_,_,G,H,E,J⟩ (l0a _)
  subst U;rw[l00 l03] at J;refine q0j (q03 (q03 (q0b ?_)));exact MN ⟨_,_,G,H,J⟩
 rintro e w ⟨n5,M,rfl,H,ad⟩;obtain rfl:=oI ad;refine TN (SQ ?_);obtain⟨am,a4,h⟩:=bnd h;refine RM G G (FN G G Tu235 G Ts9 G G (ST (XL H Ta9) G ?_));refine MV G G (ST (q1z Tu9 G G a4) G (AQ G G ?_));obtain⟨ae,a5,h⟩:=bnd h;refine RM G G (MV G G (FN G G Tu235 G Ts9 G G (ST (XL H Ta9) G ?_)));refine MV G G (ST (q1f Tu9 G G a5) G (FN G G Tu235 G Ts9 G G (q04 [_] H G G G Ku Ts9 G Kf Kf (q00 G) ?_)));intro w H;refine NT (SM G G (AR G G ?_));obtain rfl:=oI h;exact q0T (its:=[.blk u (.cells #[S ae] 235)]) G G H Kp ⟨G,G⟩
theorem Y21 {p0:UInt8}{r:Bool}(h:Y17 p0=some r):Ct Tryz.prog 162 [encB p0] (fun M=>True) (fun v M=>v=Value.bool r):=by
 refine Ct.of Tryz.func162 (enters Tryz.func162 Kr G) G G G ?_;intro O M0 H hp;unfold Y17 at h;refine SR (AQ G G ?_);obtain⟨U,u,h⟩:=bnd h;refine q0c (fun e w =>∃(K:Bool) (M:Mem),e=[(2,Value.bool K)]/\St O M0 M [] w/\some K=some U) [] ?_ ?_ (trivial)
 .
  by_cases E:33<=p0.toNat
  .
   rw[l01 E] at u;refine RM G G (DT E (q1g (i:=p0.toNat) (j:=33) G G) G (MV G G (SG (q06 G) G G G ?_)));by_cases J:p0.toNat<=126
   .
    rw[l01 J] at u;obtain⟨n6,N,u⟩:=bnd u;refine DU J (Ex.leqB (i:=p0.toNat) (j:=126) G G) G G G (PT G G G (MV G G (SG (q06 G) G G G (q02 H (Y3v N) G trivial (q0h G G G) G ?_))));intro Y M w H Z hR;obtain rfl:=hR;refine SG (q0m G G) G G G (PT G G G (AS G G (NL ?_)));exact MN ⟨_,_,G,H,u⟩
   rw[l00 J] at u;refine DG J (Ex.leqB (i:=p0.toNat) (j:=126) G G) G G G (PT G G G (MV G G (q0i 3 G G (PF G G G (AS G G (NL ?_))))));exact MN ⟨_,_,G,H,u⟩
  rw[l00 E] at u;refine RM G G (DF E (q1g (i:=p0.toNat) (j:=33) G G) G (MV G G (GF G G G (GF G G G (PF G G G (MV G G (q0i 3 G G (PF G G G (AS G G (NL ?_))))))))));exact MN ⟨_,_,G,H,u⟩
 rintro e w ⟨K,M,rfl,H,V⟩;obtain rfl:=oI V;refine TN (RT ?_);obtain rfl:=oI h;exact q07 G G H.ext G
theorem Y2G {p0:Ls}{O:UInt8}{u:Nat}{r:(Bool × Ls)}(h:Y1p p0 O=some r):CtX Tryz.prog 163 [ptr u 0,encB O] [.blk u (.cells #[S p0] 235)] (fun M=>True) (fun v M its=>v=Value.bool r.1/\its=[.blk u (.cells #[S r.2] 235)]):=by
 refine q0W Tryz.func163 (enters Tryz.func163 Kr G) G G G ?_;intro w0 M0 H hp;unfold Y1p at h;refine SR (AQ G G ?_);obtain⟨U,Z,h⟩:=bnd h;refine RM G G (XC (A:=[.blk u (.cells #[S p0] 235)]) H (Y37 Z) G trivial (q00 G) G Kt ?_);intro v6 M w its H a5 hR;obtain⟨rfl,rfl⟩:=hR;simp only[l09,l07] at H;refine NQ (SQ ?_);obtain⟨o3,J,h⟩:=bnd h;refine q0c (fun e w =>∃(V:Bool) (M:Mem),e=[(0,ptr u 0),(20,Value.bool V)]/\StX (feet [.blk u (.cells #[S p0] 235)]) w0 M0 M [.blk u (.cells #[S U] 235)] w/\some V=some o3) [] ?_ ?_ (trivial)
 .
  refine RM G G (FN G G Tu235 G Ts9 G G (ST (XL H Ta9) G ?_));by_cases E:U=[]
  .
   rw[l01 E] at J;refine DT E (q0z G G) G (MV G G (q0i 7 G G (PT G G G (NL ?_))));exact MN ⟨_,_,G,H,J⟩
  rw[l00 E] at J;obtain⟨c7,Y,J⟩:=bnd J;refine DF E (q0z G G) G (MV G G (SG (q06 G) G G G (SG (q0S G) G G G (SG (q01 Tu235 G Ts9 Dc G) G G G (SG (XL H Ta9) G G G ?_)))));refine SG (q0p Tu9 G G Y) G G G (SG (q06 G) G G G (SG (Ex.neqB (c:=c7) (d:=O) G G) G G G (PF G G G (NL ?_))));exact MN ⟨_,_,G,H,J⟩
 rintro e w ⟨V,M,rfl,H,q8⟩;obtain rfl:=oI q8;refine TN ?_;refine q0a G (fun K=>?_) (fun K=>?_)
 .
  subst K;rw[l01 rfl] at h;refine SR (AR G G ?_);obtain rfl:=oI h;exact q0T (its:=[.blk u (.cells #[S U] 235)]) G G H Kp ⟨G,G⟩
 subst K;rw[l00 l03] at h;refine KQ ?_;obtain⟨a0,N,h⟩:=bnd h;refine RM G G (MV G G (FN G G Tu235 G Ts9 G G (ST (XL H Ta9) G ?_)));refine ST (q1f Tu9 G G N) G (FN G G Tu235 G Ts9 G G (q04 [_] H G G G Ku Ts9 G Kf Kf (q00 G) ?_));intro w H;refine NQ (RG (AR G G ?_));obtain rfl:=oI h;exact q0T (its:=[.blk u (.cells #[S a0] 235)]) G G H Kp ⟨G,G⟩
theorem Y5M {p0:UInt8}{r:Bool}(h:Y2m p0=some r):Ct Tryz.prog 195 [encB p0] (fun M=>True) (fun v M=>v=Value.bool r):=by
 refine Ct.of Tryz.func195 (enters Tryz.func195 Kr G) G G G ?_;intro K M0 H hp;unfold Y2m at h;refine SR (AQ G G ?_);obtain⟨N,u,h⟩:=bnd h;refine q0c (fun e w =>∃(E:Bool) (M:Mem),e=[(2,Value.bool E)]/\St K M0 M [] w/\some E=some N) [] ?_ ?_ (trivial)
 .
  obtain⟨O,J,u⟩:=bnd u;refine RM G G (q02 H (Y21 J) G trivial (q00 G) G ?_);intro Y M w H V hR;obtain rfl:=hR;refine MV G G ?_;rcases O with _|_
  .
   rw[l00 l03] at u;refine SG (q06 G) G G G (SG (q0J (c:=p0) (d:=42) G G) G G G (PF G G G (AS G G (NL ?_))));exact MN ⟨_,_,G,H,u⟩
  rw[l01 rfl] at u;refine GT G G G (GT G G G (PT G G G (AS G G (NL ?_))));exact MN ⟨_,_,G,H,u⟩
 rintro e w ⟨E,M,rfl,H,U⟩;obtain rfl:=oI U;refine TN (RT ?_);obtain rfl:=oI h;exact q07 G G H.ext G
theorem Y5x {p0:UInt8}{r:Bool}(h:Y26 p0=some r):Ct Tryz.prog 225 [encB p0] (fun M=>True) (fun v M=>v=Value.bool r):=by
 refine Ct.of Tryz.func225 (enters Tryz.func225 Kr G) G G G ?_;intro O M0 H hp;unfold Y26 at h;refine SR (AQ G G ?_);obtain⟨U,u,h⟩:=bnd h;refine q0c (fun e w =>∃(K:Bool) (M:Mem),e=[(2,Value.bool K)]/\St O M0 M [] w/\some K=some U) [] ?_ ?_ (trivial)
 .
  obtain⟨V,N,u⟩:=bnd u;refine RM G G (q02 H (Y21 N) G trivial (q00 G) G ?_);intro v4 M w H Z hR;obtain rfl:=hR;refine MV G G ?_;rcases V with _|_
  .
   rw[l00 l03] at u;by_cases E:p0=37
   .
    rw[l01 E] at u;refine SG (q06 G) G G G (DU E (q0J (c:=p0) (d:=37) G G) G G G (PF G G G (MV G G (GT G G G (GT G G G (PT G G G (MV G G (GT G G G (GT G G G (PT G G G (AS G G (NL ?_))))))))))));exact MN ⟨_,_,G,H,u⟩
   rw[l00 E] at u;refine SG (q06 G) G G G (DG E (q0J (c:=p0) (d:=37) G G) G G G (PF G G G (MV G G (SG (q06 G) G G G ?_))));by_cases J:p0=39
   .
    rw[l01 J] at u;refine DU J (q0J (c:=p0) (d:=39) G G) G G G (PF G G G (MV G G (GT G G G (GT G G G (PT G G G (AS G G (NL ?_)))))));exact MN ⟨_,_,G,H,u⟩
   rw[l00 J] at u;refine DG J (q0J (c:=p0) (d:=39) G G) G G G (PF G G G (MV G G (SG (q06 G) G G G (SG (q0J (c:=p0) (d:=42) G G) G G G (PF G G G (AS G G (NL ?_)))))));exact MN ⟨_,_,G,H,u⟩
  rw[l01 rfl] at u;refine GT G G G (GT G G G (PT G G G (MV G G (GT G G G (GT G G G (PT G G G (MV G G (GT G G G (GT G G G (PT G G G (AS G G (NL ?_))))))))))));exact MN ⟨_,_,G,H,u⟩
 rintro e w ⟨K,M,rfl,H,Y⟩;obtain rfl:=oI Y;refine TN (RT ?_);obtain rfl:=oI h;exact q07 G G H.ext G
theorem Y5V {p0:Ls}{E:Nat}{r:Z0c}(h:Y1Y p0=some r):CtX Tryz.prog 196 [ptr E 0] [.blk E (.cells #[S p0] 235)] (fun M=>True) (fun v M its=>v=Value.tuple #[S r.1,Value.bool r.2.1]/\its=[.blk E (.cells #[S r.2.2] 235)]):=by
 refine q0W Tryz.func196 (enters Tryz.func196 Kr G) G G G ?_;intro w0 M0 H hp;unfold Y1Y at h;refine SR (AS G G (AQ G G (SQ ?_)));obtain⟨⟨b1,o2⟩,am,h⟩:=bnd h;try dsimp only at h
 refine RM G G (XC (A:=[.blk E (.cells #[S p0] 235)]) H (Y2G am) G trivial (q00 G) G Kt ?_);intro v8 M w its H a0 hR;try dsimp only at hR
 obtain⟨rfl,rfl⟩:=hR;simp only[l09,l07] at H;refine ST (q0w G) G (NT ?_);refine q0a G (fun J=>?_) (fun J=>?_)
 .
  replace J:b1=false:=by simpa using J
  subst J;rw[l00 l03] at h;refine SQ ?_;obtain⟨⟨s5,o6⟩,an,h⟩:=bnd h;try dsimp only at h
  refine RM G G (XC (A:=[.blk E (.cells #[S o2] 235)]) H (Y2F an) G ((fun _ _ h=>FnV.of (Y5x h) (fun _ _=>trivial))) (q00 G) G Kt ?_);intro aw M w its H a0 hR;try dsimp only at hR
  obtain⟨rfl,rfl⟩:=hR;simp only[l09,l07] at H;refine AS G G (AR G G ?_);obtain rfl:=oI h;exact q0Z (its:=[.blk E (.cells #[S o6] 235)]) G G G H Kp ⟨G,G⟩
 replace J:b1=true:=by simpa using J
 subst J;rw[l01 rfl] at h;refine KQ (RG (AQ G G (SR (AN G G ?_))));obtain⟨o8,u,h⟩:=bnd h;refine q0c (fun e w =>∃(a1:Ls) (M:Mem),e=[]/\StX (feet [.blk E (.cells #[S p0] 235)]) w0 M0 M [.blk E (.cells #[S a1] 235)] w/\some (.inl a1)=some o8) [] ?_ ?_ (trivial)
 .
  refine BL ?_;replace H:=H.newRow 5 encB;refine q0l (fun m e w =>∃(K:Ls) (N:Ls) (a2:Value) (a3:Int) (M:Mem),e=[(0,ptr E 0),(4,a2),(5,I a3)]/\StX (feet [.blk E (.cells #[S p0] 235)]) w0 M0 M [.blk E (.cells #[S K] 235),RowI 5 encB a2 N] w/\Y0E  m K N a3=some o8) FU [(0,_),(4,_),(5,_)] ⟨rfl,rfl,rfl,trivial⟩ ⟨_,_,_,_,_,rfl,(H.pick (L':=[.blk E (.cells #[S o2] 235),RowI 5 encB (Value.slice none 0 0) []]) Kp),u⟩ ?_;rintro a4 e w ⟨K,N,a2,a3,M,rfl,H,u⟩;rcases a4 with _|a4
  . rw[Y0E] at u;cases u
  rw[Y0E] at u;refine SQ (SM G G (MV G G (FN G G Tu235 G Ts9 G G (ST (XL H Ta9) G ?_))));refine ST (q0g Tu9 G) G (ST (q0m G G) G (NT ?_));refine CB (p:=a3<(K.length:Int)) G (fun U=>?_) fun U=>?_
  .
   rw[l01 U] at u;refine KQ (BL (SQ ?_));obtain⟨O,a5,u⟩:=bnd u;refine RM G G (FN G G Tu235 G Ts9 G G (ST (XL H Ta9) G ?_));refine MV G G (ST (q0p Tu9 G G a5) G (AN G G (SM G G (NT (BL (SR (ST (q0J (c:=O) (d:=34) G G) G (AN G G ?_))))))));refine CB (p:=O=34) G (fun V=>?_) fun V=>?_
   .
    rw[l01 V] at u;refine SQ ?_;obtain⟨ax,a6,u⟩:=bnd u;obtain⟨ap,a7,u⟩:=bnd u;refine RM G G (MV G G (FN G G Tu235 G Ts9 G G (ST (XL H Ta9) G ?_)));refine MV G G (ST (q0e G G a6) G (ST (q1f Tu9 G G a7) G (FN G G Tu235 G Ts9 G G (q04 [_] H G G G Ku Ts9 G Kf Kf (q00 G) ?_))));intro w H;refine NT (SM G G ?_);obtain⟨M,a0,ae,H⟩:=H.freezeRowN (v:=a2) (enc:=encB) (t:=5) Kv ⟨⟨_,Km⟩,trivial⟩;refine ST (q0Y Tu23 Tu5 Tu9 H (ae) G) G (AS G G (AR G G ?_));obtain rfl:=oI u;try dsimp only at h
    obtain rfl:=oI h;exact q0Z (its:=[.blk E (.cells #[S ap] 235)]) G G G H Kp ⟨G,G⟩
   rw[l00 V] at u;refine SR (ST (q0J (c:=O) (d:=92) G G) G (AN G G ?_));refine CB (p:=O=92) G (fun Y=>?_) fun Y=>?_
   .
    rw[l01 Y] at u;refine SQ (SQ ?_);obtain⟨aq,a8,u⟩:=bnd u;refine RM G G (ST (q0e G G a8) G (AN G G (SM G G (MV G G (FN G G Tu235 G Ts9 G G (ST (XL H Ta9) G ?_))))));refine ST (q0g Tu9 G) G (ST (q0s G G) G (NT ?_));refine CB (p:=aq=(K.length:Int)) G (fun Z=>?_) fun Z=>?_
    .
     rw[l01 Z] at u;refine SR (AS G G (AR G G ?_));obtain rfl:=oI u;try dsimp only at h
     obtain rfl:=oI h;exact q0Z (its:=[.blk E (.cells #[S K] 235)]) G G G H Kp ⟨G,G⟩
    rw[l00 Z] at u;refine SK (TN ?_);obtain⟨ar,a9,u⟩:=bnd u;obtain⟨ay,aa,u⟩:=bnd u;refine RM G G (MV G G (FN G G Tu235 G Ts9 G G (ST (XL H Ta9) G ?_)));refine MV G G (ST (q0p Tu9 G G a9) G (q0M (enc:=encB) xty23 ([ar]:Ls) H G Kf (fun _=>G) G G (q00 G) G ?_));intro az M w H a0 ah;refine q0F (l:=N) xty23 G (fun _=>G) H G Ud G (ah) aa (q00 G) G ?_;intro b0 w H;refine AS G G (NL (IB (IB (TN ?_))));obtain⟨b2,ab,u⟩:=bnd u;refine RM G G (ST (q0e G G ab) G (AS G G (NL ?_)));exact AG a4 ⟨_,_,_,_,_,G,H,u⟩ (l0a _)
   rw[l00 Y] at u;obtain⟨b3,ac,u⟩:=bnd u;refine RM G G (MV G G (q0M (enc:=encB) xty23 ([O]:Ls) H G Kf (fun _=>G) G G (q00 G) G ?_));intro b4 M w H a0 ai;refine q0F (l:=N) xty23 G (fun _=>G) H G Ud G (ai) ac (q00 G) G ?_;intro b5 w H;refine AS G G (NL (IB (IB (TN ?_))));obtain⟨b6,ad,u⟩:=bnd u;refine RM G G (ST (q0e G G ad) G (AS G G (NL ?_)));exact AG a4 ⟨_,_,_,_,_,G,H,u⟩ (l0a _)
  rw[l00 U] at u;refine q0j (q03 (q03 (q0b ?_)));exact MN ⟨_,_,G,(H.pick (L':=[.blk E (.cells #[S K] 235)]) Kp),u⟩
 rintro e w ⟨a1,M,rfl,H,au⟩;obtain rfl:=oI au;try dsimp only at h
 refine TN (SR (AS G G (AR G G ?_)));obtain rfl:=oI h;exact q0Z (its:=[.blk E (.cells #[S a1] 235)]) G G G H Kp ⟨G,G⟩
theorem Y2N {p0:Ls}{J:Ls}{r:Bool}(h:Y0n p0 J=some r):Ct Tryz.prog 157 [S p0,S J] (fun M=>True) (fun v M=>v=Value.bool r):=by
 refine Ct.of Tf157 (enters Tf157 Kr G) G G G ?_;intro U M0 H hp;unfold Y0n at h;refine SR (AQ G G ?_);obtain⟨V,u,h⟩:=bnd h;refine q0c (fun e w =>∃(K:Bool) (M:Mem),e=[(4,Value.bool K)]/\St U M0 M [] w/\some K=some V) [] ?_ ?_ (trivial)
 .
  refine RM G G (ST (q0g Tu9 G) G (MV G G (ST (q0g Tu9 G) G ?_)));by_cases E:(J.length:Int)<=(p0.length:Int)
  .
   rw[l01 E] at u;obtain⟨Z,N,u⟩:=bnd u;obtain⟨s6,O,u⟩:=bnd u;refine DT E (q0Q G G) G (MV G G (SG (q06 G) G G G (SG (q06 G) G G G (SG (q0g Tu9 G) G G G (SG (q06 G) G G G (SG (q0g Tu9 G) G G G (SG (q0I G G N) G G G (SG (q1f Tu9 G G O) G G G (SG (q06 G) G G G (SG (q0z G G) G G G (PT G G G (AS G G (NL ?_)))))))))))));exact MN ⟨_,_,G,H,u⟩
  rw[l00 E] at u;refine DF E (q0Q G G) G (MV G G (q0i 9 G G (PF G G G (AS G G (NL ?_)))));exact MN ⟨_,_,G,H,u⟩
 rintro e w ⟨K,M,rfl,H,Y⟩;obtain rfl:=oI Y;refine TN (RT ?_);obtain rfl:=oI h;exact q07 G G H.ext G
theorem Y5n {p0:Ls}{K:Ls}{r:Z08}(h:Y1q p0 K=some r):Ct Tryz.prog 226 [S p0,S K] (fun M=>True) (fun v M=>v=Value.tuple #[S r.1,Value.bool r.2]):=by
 refine Ct.of Tryz.func226 (enters Tryz.func226 Kr G) G G G ?_;intro V M0 H hp;unfold Y1q at h;refine SR (AS G G (AQ G G (SQ ?_)));obtain⟨N,O,h⟩:=bnd h;refine RM G G (MV G G (q02 H (Y2N O) G trivial (q00 G) G ?_));intro Y M w H U hR;obtain rfl:=hR;refine ST (q0w G) G (NT ?_);refine q0a G (fun u=>?_) (fun u=>?_)
 .
  replace u:N=false:=by simpa using u
  subst u;rw[l00 l03] at h;refine SM G G (AS G G (AR G G ?_));obtain rfl:=oI h;exact q0r G G G H.ext G
 replace u:N=true:=by simpa using u
 subst u;rw[l01 rfl] at h;refine KQ ?_;obtain⟨Z,E,h⟩:=bnd h;obtain⟨s5,J,h⟩:=bnd h;refine RM G G (MV G G (ST (q0g Tu9 G) G (MV G G (ST (q0g Tu9 G) G (ST (q0I G G E) G (ST (q1z Tu9 G G J) G (AS G G (AR G G ?_))))))));obtain rfl:=oI h;exact q0r G G G H.ext G
theorem Y6e {p0:Ls}{u:Ls}{r:Z08}(h:Y1L p0 u=some r):Ct Tryz.prog 197 [S p0,S u] (fun M=>True) (fun v M=>v=Value.tuple #[S r.1,Value.bool r.2]):=by
 refine Ct.of Tryz.func197 (enters Tryz.func197 Kr G) G G G ?_;intro K M0 H hp;unfold Y1L at h;refine SR (AS G G (AQ G G ?_));obtain⟨⟨N,O⟩,E,h⟩:=bnd h;try dsimp only at h
 refine RM G G (MV G G (q02 H (Y5n E) G trivial (q00 G) G ?_));intro U M w H J hR;try dsimp only at hR
 obtain rfl:=hR;refine ST (q05 G G) G (ST (q05 G G) G (AS G G (AR G G ?_)));obtain rfl:=oI h;exact q0r G G G H.ext G
theorem Y7t {p0:Ls}{p1:Int}{r:Z09}(h:Y4i p0 p1=some r):Ct Tryz.prog 198 [S p0,I p1] (fun M=>Gv2 M/\Gv1 M/\Gv0 M) (fun v M=>v=Value.tuple #[I r.1,Value.bool r.2]):=by
 refine Ct.of Tryz.func198 (enters Tryz.func198 Kr G) G G G ?_;intro w0 M0 H hp;obtain⟨E,J,u⟩:=hp;unfold Y4i at h;refine SR (AS G G (AQ G G ?_));obtain⟨⟨n1,b2⟩,a2,h⟩:=bnd h;try dsimp only at h
 refine RM G G (q02 H (Y7C a2) G ⟨E,J⟩ (q00 G) G ?_);intro aa M w H N hR;have E:=E.mono N;have J:=J.mono N;have u:=u.mono N;try dsimp only at hR
 obtain⟨a5,rfl,Y⟩:=hR;refine MV G G (ST (q05 G G) G (ST (q05 G G) G (AS G G (AQ G G (SQ ?_)))));obtain⟨o4,K,h⟩:=bnd h;refine q0c (fun e w =>∃(Z:Bool) (M:Mem),e=[(6,I n1),(29,Value.bool Z)]/\St w0 M0 M [] w/\Gv2 M/\Gv1 M/\Gv0 M/\some Z=some o4) [] ?_ ?_ (trivial)
 .
  refine RM G G (ST (Ex.neqNil Tu175 Y G) G (MV G G ?_));rcases b2 with _|_
  .
   rw[l00 l03] at K;refine q0i 4 G G (PT G G G (MV G G (GT G G G (GT G G G (PT G G G (MV G G (q0i 3 G G (PT G G G (NL ?_)))))))));exact MN ⟨_,_,G,H,E,J,u,K⟩
  rw[l01 rfl] at K;obtain⟨s7,a3,K⟩:=bnd K;refine SG (q06 G) G G G (q02 H (Y2n a3) G (u) (q0h G G G) G ?_);intro ab M w H N hR;have E:=E.mono N;have J:=J.mono N;have u:=u.mono N;obtain rfl:=hR;refine SG (q06 G) G G G ?_;by_cases V:s7=p0
  .
   rw[l01 V] at K;refine q0B (v' := .bool false) (q1m G G) (l02 Value.bool (by rw[l0f V];rfl)) (q0h G G G) G G ?_;refine PF G G G (MV G G (SG (q06 G) G G G ?_));by_cases O:n1<(0:Int)
   .
    rw[l01 O] at K;refine DU O (q0m G G) G G G (PF G G G (MV G G (q0i 3 G G (PT G G G (NL ?_)))));exact MN ⟨_,_,G,H,E,J,u,K⟩
   rw[l00 O] at K;refine DG O (q0m G G) G G G (PF G G G (MV G G (SG (q06 G) G G G (SG (q06 G) G G G (SG (q0A G G) G G G (PF G G G (NL ?_)))))));exact MN ⟨_,_,G,H,E,J,u,K⟩
  rw[l00 V] at K;refine q0B (v' := .bool true) (q1m G G) (l02 Value.bool (by rw[l0g V];rfl)) (q0h G G G) G G ?_;refine PF G G G (MV G G (GT G G G (GT G G G (PT G G G (MV G G (q0i 3 G G (PT G G G (NL ?_))))))));exact MN ⟨_,_,G,H,E,J,u,K⟩
 rintro e w ⟨Z,M,rfl,H,E,J,u,a4⟩;obtain rfl:=oI a4;refine TN ?_;refine q0a G (fun U=>?_) (fun U=>?_)
 .
  subst U;rw[l01 rfl] at h;refine SR (AS G G (AR G G ?_));obtain rfl:=oI h;exact q0r G G G H.ext G
 subst U;rw[l00 l03] at h;refine SK (TN (SM G G (AS G G (AR G G ?_))));obtain rfl:=oI h;exact q0r G G G H.ext G
theorem Y6f {p0:Ls}{N:Nat}{r:(Z01 × Bool × Ls)}(h:Y2L p0=some r):CtX Tryz.prog 164 [ptr N 0] [.blk N (.cells #[S p0] 235)] (fun M=>Gv2 M/\Gv1 M/\Gv3 M/\Gv0 M) (fun v M its=>v=Value.tuple #[Value.agg #[S r.1.1,I r.1.2.1,Value.bool r.1.2.2.1,S r.1.2.2.2],Value.bool r.2.1]/\its=[.blk N (.cells #[S r.2.2] 235)]):=by
 refine q0W Tryz.func164 (enters Tryz.func164 Kr G) G G G ?_;intro w0 M0 H hp;obtain⟨E,J,O,u⟩:=hp;unfold Y2L at h;refine SR (q09 [_,_,_,_] H Tz239 G (q00 G) G ?_);intro V w H;refine AQ G G ?_;obtain⟨⟨s1,o2⟩,aq,h⟩:=bnd h;try dsimp only at h
 refine RM G G (XC (A:=[.blk N (.cells #[S p0] 235)]) H (Y2F aq) G ((fun _ _ h=>FnV.of (Y5M h) (fun _ _=>trivial))) (q00 G) G Kt ?_);intro b5 M w its H K hR;have E:=E.mono K;have J:=J.mono K;have O:=O.mono K;have u:=u.mono K;try dsimp only at hR
 obtain⟨rfl,rfl⟩:=hR;simp only[l09,l07] at H;refine AQ G G (SQ ?_);obtain⟨⟨b4,o5⟩,av,h⟩:=bnd h;try dsimp only at h
 refine RM G G (XC (A:=[.blk N (.cells #[S o2] 235)]) H (Y2G av) G trivial (q00 G) G Kt ?_);intro b6 M w its H K hR;have E:=E.mono K;have J:=J.mono K;have O:=O.mono K;have u:=u.mono K;try dsimp only at hR
 obtain⟨rfl,rfl⟩:=hR;simp only[l09,l07] at H;refine ST (q0w G) G (NT ?_);refine q0a G (fun Z=>?_) (fun Z=>?_)
 .
  replace Z:b4=false:=by simpa using Z
  subst Z;rw[l00 l03] at h;refine SR (ST (q0t [S [],I 0,Value.bool false,S []] Tu239 Tz239 (xplaces239 Tu239) G Kr) G (q04 [_,_,_,_] H G G G Ku Ts239 G Kf Kf (q00 G) ?_));intro w H;refine AR G G ?_;obtain rfl:=oI h;exact q0Z (its:=[.blk N (.cells #[S o5] 235)]) G ⟨_,G,H.loadAgg Km Ta239 Ts239 Kf⟩ G H Kp ⟨G,G⟩
 replace Z:b4=true:=by simpa using Z
 subst Z;rw[l01 rfl] at h;refine KQ ?_;obtain⟨⟨s8,b9,Y⟩,am,h⟩:=bnd h;try dsimp only at h
 refine RM G G (XC (A:=[.blk N (.cells #[S o5] 235)]) H (Y5V am) G trivial (q00 G) G Kt ?_);intro b7 M w its H K hR;have E:=E.mono K;have J:=J.mono K;have O:=O.mono K;have u:=u.mono K;try dsimp only at hR
 obtain⟨rfl,rfl⟩:=hR;simp only[l09,l07] at H;refine MV G G (ST (q05 G G) G (ST (q05 G G) G (AS G G (AN G G (SM G G (ST (q0t [S [],I (-1),Value.bool false,S s8] Tu239 Tz239 (xplaces239 Tu239) G Kr) G (q09 [_,_,_,_] H Tz239 G (q00 G) G ?_)))))));intro a0 w H;refine q04 [_,_,_,_] H G G G Ku Ts239 G Kf Kf (q00 G) ?_;intro w H;refine NQ ?_;obtain⟨⟨a1,b8,ba⟩,an,h⟩:=bnd h;try dsimp only at h
 refine RM G G (q02 H (Y6o an) G (O) (q00 G) G ?_);intro bb M w H K hR;have E:=E.mono K;have J:=J.mono K;have O:=O.mono K;have u:=u.mono K;try dsimp only at hR
 obtain rfl:=hR;refine MV G G (ST (q05 G G) G (ST (q05 G G) G (ST (q05 G G) G (AS G G (AS G G (AN G G (SM G G (ST (q01 Tu239 G Ts9 Dc G) G (q1d [_,_,_,_] H G G Ku Kf Ts9 (by first|decide|(simp;done)|(simp;omega)) Kf Kf (q00 G) ?_)))))))));intro w H;refine NQ (SM G G (NT ?_));obtain⟨aw,U,h⟩:=bnd h;refine q0c (fun e w =>∃(a7:Bool) (a2:Ls) (a3:Int) (a4:Bool) (a5:Ls) (M:Mem),e=[(2,ptr V 0),(6,Value.bool a7),(7,ptr a0 0),(8,S a1)]/\StX (feet [.blk N (.cells #[S p0] 235)]) w0 M0 M [.blk V (.cells #[S [],I 0,Value.bool false,S []] 239), .blk a0 (.cells #[S a2,I a3,Value.bool a4,S a5] 239), .blk N (.cells #[S Y] 235)] w/\Gv2 M/\Gv1 M/\Gv3 M/\Gv0 M/\some (a7,a2,a3,a4,a5)=some aw) [] ?_ ?_ (trivial)
 .
  refine q0a G (fun a6=>?_) (fun a6=>?_)
  .
   subst a6;rw[l01 rfl] at U;refine SQ ?_;obtain⟨⟨bc,ab⟩,ao,U⟩:=bnd U;try dsimp only at U
   refine RM G G (q02 H (Y6e ao) G trivial (q00 G) G ?_);intro bd M w H K hR;have E:=E.mono K;have J:=J.mono K;have O:=O.mono K;have u:=u.mono K;try dsimp only at hR
   obtain rfl:=hR;refine MV G G (ST (q05 G G) G (ST (q05 G G) G (AS G G (ST (q01 Tu239 G Ts4 Dc G) G (q1d [_,_,_,_] H G G Ku Kf Ts4 (by first|decide|(simp;done)|(simp;omega)) Kf Kf (q00 G) ?_)))));intro w H;refine NQ ?_;obtain⟨⟨ac,be⟩,ap,U⟩:=bnd U;try dsimp only at U
   refine RM G G (q02 H (Y7t ap) G ⟨E,J,u⟩ (q00 G) G ?_);intro bg M w H K hR;have E:=E.mono K;have J:=J.mono K;have O:=O.mono K;have u:=u.mono K;try dsimp only at hR
   obtain rfl:=hR;refine MV G G (ST (q05 G G) G (ST (q05 G G) G (AS G G (AN G G (SM G G (ST (q01 Tu239 G Ts3 Dc G) G (q1d [_,_,_,_] H G G Ku Kf Ts3 (by first|decide|(simp;done)|(simp;omega)) Kf Kf (q00 G) ?_)))))));intro w H;refine NT ?_;obtain⟨ax,a8,U⟩:=bnd U;refine q0c (fun e w =>∃(ad:Bool) (M:Mem),e=[(2,ptr V 0),(6,Value.bool ad),(7,ptr a0 0),(8,S a1)]/\StX (feet [.blk N (.cells #[S p0] 235)]) w0 M0 M [.blk V (.cells #[S [],I 0,Value.bool false,S []] 239), .blk a0 (.cells #[S a1,I ac,Value.bool ab,S s8] 239), .blk N (.cells #[S Y] 235)] w/\Gv2 M/\Gv1 M/\Gv3 M/\Gv0 M/\some ad=some ax) [] ?_ ?_ (trivial)
   .
    refine RM G G (MV G G ?_);rcases b9 with _|_
    .
     rw[l00 l03] at a8;refine GF G G G (PF G G G (AS G G (NL ?_)));exact MN ⟨_,_,G,(H.pick (L':=[.blk V (.cells #[S [],I 0,Value.bool false,S []] 239), .blk a0 (.cells #[S a1,I ac,Value.bool ab,S s8] 239), .blk N (.cells #[S Y] 235)]) Kp),E,J,O,u,a8⟩
    rw[l01 rfl] at a8;refine SG (q06 G) G G G (PT G G G (AS G G (NL ?_)));exact MN ⟨_,_,G,(H.pick (L':=[.blk V (.cells #[S [],I 0,Value.bool false,S []] 239), .blk a0 (.cells #[S a1,I ac,Value.bool ab,S s8] 239), .blk N (.cells #[S Y] 235)]) Kp),E,J,O,u,a8⟩
   rintro e w ⟨ad,M,rfl,H,E,J,O,u,ay⟩;obtain rfl:=oI ay;exact MN ⟨_,_,_,_,_,_,G,H,E,J,O,u,U⟩
  subst a6;rw[l00 l03] at U;refine SK ?_;exact MN ⟨_,_,_,_,_,_,G,(H.pick (L':=[.blk V (.cells #[S [],I 0,Value.bool false,S []] 239), .blk a0 (.cells #[S a1,I (-1),Value.bool false,S s8] 239), .blk N (.cells #[S Y] 235)]) Kp),E,J,O,u,U⟩
 rintro e w ⟨a7,a2,a3,a4,a5,M,rfl,H,E,J,O,u,az⟩;obtain rfl:=oI az;try dsimp only at h
 refine TN (SQ ?_);obtain⟨b0,a9,h⟩:=bnd h;refine q0c (fun e w =>∃(ae:Ls) (ah:Int) (ai:Bool) (aj:Ls) (ak:Bool) (M:Mem),e=[(2,ptr V 0),(3,Value.bool ak)]/\StX (feet [.blk N (.cells #[S p0] 235)]) w0 M0 M [.blk V (.cells #[S ae,I ah,Value.bool ai,S aj] 239), .blk N (.cells #[S Y] 235)] w/\Gv2 M/\Gv1 M/\Gv3 M/\Gv0 M/\some (ae,ah,ai,aj,ak)=some b0) [] ?_ ?_ (trivial)
 .
  refine RG (ST (q08 H G Km Ta239 Ts239 Kf) G ?_);refine MV G G (MV G G ?_);rcases a7 with _|_
  .
   rw[l00 l03] at a9;refine GF G G G (GF G G G (PF G G G (q04 [_,_,_,_] H G G G Ku Ts239 G Kf Kf (q00 G) ?_)));intro w H;refine AS G G (NL ?_);exact MN ⟨_,_,_,_,_,_,G,(H.pick (L':=[.blk V (.cells #[S a2,I a3,Value.bool a4,S a5] 239), .blk N (.cells #[S Y] 235)]) Kp),E,J,O,u,a9⟩
  rw[l01 rfl] at a9;refine SG (q06 G) G G G (SG (q1m G G) G G G (PT G G G (q04 [_,_,_,_] H G G G Ku Ts239 G Kf Kf (q00 G) ?_)));intro w H;refine AS G G (NL ?_);exact MN ⟨_,_,_,_,_,_,G,(H.pick (L':=[.blk V (.cells #[S a2,I a3,Value.bool a4,S a5] 239), .blk N (.cells #[S Y] 235)]) Kp),E,J,O,u,a9⟩
 rintro e w ⟨ae,ah,ai,aj,ak,M,rfl,H,E,J,O,u,b1⟩;obtain rfl:=oI b1;try dsimp only at h
 refine TN (RT ?_);obtain rfl:=oI h;exact q0Z (its:=[.blk N (.cells #[S Y] 235)]) G ⟨_,G,H.loadAgg Km Ta239 Ts239 Kf⟩ G H Kp ⟨G,G⟩
theorem Y59 {p0:List Z01}{V:(Z01->Option Bool)}{K:Value}{N:Value}{r:Int}(h:Y2p p0 V=some r):Ct Tryz.prog 228 [K,N] (fun M=>SlS M 4 xenc239 K p0/\FnT280 M N V) (fun v M=>v=I r):=by
 refine Ct.of Tryz.func228 (enters Tryz.func228 Kr G) G G G ?_;intro w0 M0 H hp;obtain⟨E,J⟩:=hp;unfold Y2p at h;refine SR (AQ G G (SM G G (ST (q0L Tu237 E G) G (MV G G (NT ?_)))));obtain⟨o1,u,h⟩:=bnd h;refine q0c (fun e w =>∃  (M:Mem),e=[]/\St w0 M0 M [] w/\some (.inl ())=some o1) [] ?_ ?_ (trivial)
 .
  refine BL (q0l (fun m e w =>∃(Y:Int) (M:Mem),e=[(0,K),(1,N),(7,I (p0.length:Int)),(8,I Y)]/\St w0 M0 M [] w/\SlS M 4 xenc239 K p0/\FnT280 M N V/\Y0o p0 V m Y=some o1) FU [(0,_),(1,_),(7,_),(8,_)] ⟨rfl,rfl,rfl,rfl,trivial⟩ ⟨_,_,rfl,H,E,J,u⟩ ?_);rintro m4 e w ⟨Y,M,rfl,H,E,J,u⟩;rcases m4 with _|m4
  . rw[Y0o] at u;cases u
  rw[Y0o] at u;refine SR (ST (q0m G G) G (NQ ?_));refine CB (p:=Y<(p0.length:Int)) G (fun O=>?_) fun O=>?_
  .
   rw[l01 O] at u;refine KQ (BL (SM G G (AQ G G ?_)));obtain⟨a6,a2,u⟩:=bnd u;obtain⟨aa,ab,a3,a4⟩:=E.atC a2;obtain⟨b7,a8,u⟩:=bnd u;refine RM G G (MV G G (MV G G (ST (q0q a3 Tu237 Ts239 G G) G (ST (q0E H G a4 Ta239 Ts239 Kf) G ?_))));refine WR.callF H (J _ _ a8) G G (q00 G) G ?_;intro ac M w H a0 hR;have E:=E.mono a0;have J:=J.mono a0;obtain rfl:=hR;refine NT ?_;refine q0a G (fun U=>?_) (fun U=>?_)
   .
    subst U;rw[l01 rfl] at u;refine SM G G (AR G G ?_);obtain rfl:=oI u;try dsimp only at h
    obtain rfl:=oI h;exact q07 G G H.ext G
   subst U;rw[l00 l03] at u;refine SK (IB (TN ?_));obtain⟨ad,Z,u⟩:=bnd u;refine RG (ST (q0e G G Z) G (MV G G (NL ?_)));exact AG m4 ⟨_,_,G,H,E,J,u⟩ (l0a _)
  rw[l00 O] at u;refine q0j (q03 (q03 (q0b ?_)));exact MN ⟨_,G,H,u⟩
 rintro e w ⟨M,rfl,H,a9⟩;obtain rfl:=oI a9;try dsimp only at h
 refine TN (SR (AR G G ?_));obtain rfl:=oI h;exact q07 G G H.ext G
theorem Y4x {p0:List Z01}{J:(Z01->Option Bool)}{u:Value}{E:Value}{r:Bool}(h:Y18 p0 J=some r):Ct Tryz.prog 201 [u,E] (fun M=>SlS M 4 xenc239 u p0/\FnT280 M E J) (fun v M=>v=Value.bool r):=by
 refine Ct.of Tryz.func201 (enters Tryz.func201 Kr G) G G G ?_;intro V M0 H hp;obtain⟨K,N⟩:=hp;unfold Y18 at h;refine SR (AQ G G ?_);obtain⟨Y,O,h⟩:=bnd h;refine RM G G (MV G G (q02 H (Y59 O) G ⟨K,N⟩ (q00 G) G ?_));intro Z M w H U hR;obtain rfl:=hR;refine ST (q0Q G G) G (AR G G ?_);obtain rfl:=oI h;exact q07 G G H.ext G
theorem Y5o {p0:Z01}{u:Z01}{E:Nat}{r:Bool}(h:Y2B p0 u=some r):Ct Tryz.prog 200 [Value.agg #[S p0.1,I p0.2.1,Value.bool p0.2.2.1,S p0.2.2.2],ptr E 0] (fun M=>PtM M E (.cells #[S u.1,I u.2.1,Value.bool u.2.2.1,S u.2.2.2] 239)) (fun v M=>v=Value.bool r):=by
 refine Ct.of Tryz.func200 (enters Tryz.func200 Kr G) G G G ?_;intro U M0 H hp;have J:=hp;unfold Y2B at h;refine SR (q0D [_,_,_,_] H G G (q00 G) G ?_);intro N w H;refine AQ G G ?_;obtain⟨V,K,h⟩:=bnd h;refine RG (ST (q01 Tu239 G Ts9 Dc G) G (ST (XL H Ta9) G ?_));refine ST (q01 Tu239 G Ts9 Dc G) G (ST (q0n H G (J.cell (j:=0) G) Ta9) G (q02 H (Y1g K) G trivial (q00 G) G ?_));intro Y M w H O hR;obtain rfl:=hR;refine AR G G ?_;obtain rfl:=oI h;exact q07 G G H.ext G
theorem Y4M {p0:Z01}{r:Ls}(h:Y30 p0=some r):Ct Tryz.prog 231 [Value.agg #[S p0.1,I p0.2.1,Value.bool p0.2.2.1,S p0.2.2.2]] (fun M=>True) (fun v M=>v=S r):=by
 refine Ct.of Tryz.func231 (enters Tryz.func231 Kr G) G G G ?_;intro w0 M0 H hp;unfold Y30 at h;refine SR (q0D [_,_,_,_] H G G (q00 G) G ?_);intro bg w H;refine AQ G G (RG (ST (q01 Tu239 G Ts9 Dc G) G (ST (XL H Ta9) G ?_)));refine AQ G G (SR (ST (q01 Tu239 G Ts4 Dc G) G (ST (XL H Ta4) G ?_)));refine ST (q0w G) G (NT ?_);refine q0a G (fun K=>?_) (fun K=>?_)
 .
  replace K:p0.2.2.1=false:=by simpa using K
  rw[l00 (by rw[K];exact l03)] at h;refine SM G G (AR G G ?_);obtain rfl:=oI h;exact q07 G G H.ext G
 replace K:p0.2.2.1=true:=by simpa using K
 rw[l01 K] at h;refine KQ (SQ ?_);obtain⟨o2,N,h⟩:=bnd h;refine q0c (fun e w =>∃(b4:Bool) (M:Mem),e=[(3,S p0.2.2.2),(26,Value.bool b4)]/\St w0 M0 M [] w/\some b4=some o2) [] ?_ ?_ (trivial)
 .
  refine RG (ST (q01 Tu239 G Ts3 Dc G) G (ST (XL H Ta3) G ?_));by_cases a0:p0.2.1=(0:Int)
  .
   rw[l01 a0] at N;refine DT a0 (q0s G G) G (MV G G (SG (q06 G) G G G (SG (q0g Tu9 G) G G G ?_)));by_cases a1:(6:Int)<=(p0.2.2.2.length:Int)
   .
    rw[l01 a1] at N;obtain⟨s7,ay,N⟩:=bnd N;obtain⟨b8,b3,N⟩:=bnd N;refine DU a1 (q0Q G G) G G G (PT G G G (MV G G (SG (q06 G) G G G (SG (q1z Tu9 G G ay) G G G (q02 H (Y1g b3) G trivial (q0h G G G) G ?_)))));intro bh M w H a2 hR;obtain rfl:=hR;refine PT G G G (NL ?_);exact MN ⟨_,_,G,(H.pick (L':=[]) Kp),N⟩
   rw[l00 a1] at N;refine DG a1 (q0Q G G) G G G (PT G G G (MV G G (q0i 3 G G (PF G G G (NL ?_)))));exact MN ⟨_,_,G,(H.pick (L':=[]) Kp),N⟩
  rw[l00 a0] at N;refine DF a0 (q0s G G) G (MV G G (q0i 3 G G (PF G G G (MV G G (q0i 3 G G (PF G G G (NL ?_)))))));exact MN ⟨_,_,G,(H.pick (L':=[]) Kp),N⟩
 rintro e w ⟨b4,M,rfl,H,b5⟩;obtain rfl:=oI b5;refine TN ?_;obtain⟨b6,O,h⟩:=bnd h;refine q0c (fun e w =>∃(J:Ls) (M:Mem),e=[(3,S J)]/\St w0 M0 M [] w/\some J=some b6) [] ?_ ?_ (trivial)
 .
  refine q0a G (fun U=>?_) (fun U=>?_)
  .
   subst U;rw[l01 rfl] at O;obtain⟨bi,ai,O⟩:=bnd O;refine RM G G (ST (q1f Tu9 G G ai) G (AS G G (NL ?_)));exact MN ⟨_,_,G,H,O⟩
  subst U;rw[l00 l03] at O;refine SK ?_;exact MN ⟨_,_,G,H,O⟩
 rintro e w ⟨J,M,rfl,H,b7⟩;obtain rfl:=oI b7;refine TN (SR (AQ G G (SR (AN G G ?_))));obtain⟨au,u,h⟩:=bnd h;refine q0c (fun e w =>∃(a9:Ls) (a3:Value) (M:Mem),e=[(4,a3)]/\St w0 M0 M [RowI 5 encB a3 a9] w/\some a9=some au) [] ?_ ?_ (trivial)
 .
  refine BL ?_;replace H:=H.newRow 5 encB;refine q0l (fun m e w =>∃(a4:Ls) (aa:Value) (a5:Int) (M:Mem),e=[(3,S J),(4,aa),(5,I a5)]/\St w0 M0 M [RowI 5 encB aa a4] w/\Y0x J m a4 a5=some au) FU [(3,_),(4,_),(5,_)] ⟨rfl,rfl,rfl,trivial⟩ ⟨_,_,_,_,rfl,H,u⟩ ?_;rintro a6 e w ⟨a4,aa,a5,M,rfl,H,u⟩;rcases a6 with _|a6
  . rw[Y0x] at u;cases u
  rw[Y0x] at u;refine SQ (SM G G (MV G G (ST (q0g Tu9 G) G (ST (q0m G G) G (NT ?_)))));refine CB (p:=a5<(J.length:Int)) G (fun V=>?_) fun V=>?_
  .
   rw[l01 V] at u;refine KQ (BL (SQ (SQ ?_)));obtain⟨av,aj,u⟩:=bnd u;refine RM G G (MV G G (ST (q0p Tu9 G G aj) G (ST (q0J (c:=av) (d:=37) G G) G (NT ?_))));obtain⟨aw,E,u⟩:=bnd u;refine q0c (fun e w =>∃(a7:Ls) (ab:Value) (ac:Int) (M:Mem),e=[(3,S J),(4,ab),(5,I ac)]/\St w0 M0 M [RowI 5 encB ab a7] w/\some (.inl (a7,ac))=some aw) [(1,fun e w =>∃(ad:Ls) (ae:Value) (ah:Int) (M:Mem),e=[(3,S J),(4,ae),(5,I ah)]/\St w0 M0 M [RowI 5 encB ae ad] w/\some (.inr (ad,ah))=some aw)] ?_ ?_ (⟨?_,trivial⟩)
   .
    refine CB (p:=av=37) G (fun Y=>?_) fun Y=>?_
    .
     rw[l01 Y] at E;refine SQ ?_;obtain⟨bj,ak,E⟩:=bnd E;obtain⟨bm,al,E⟩:=bnd E;obtain⟨⟨b9,bn⟩,az,E⟩:=bnd E;try dsimp only at E
     refine RM G G (MV G G (ST (q0e G G ak) G (ST (q1f Tu9 G G al) G (q02 H (Y6G az) G trivial (q00 G) G ?_))));intro bo M w H a2 hR;try dsimp only at hR
     obtain rfl:=hR;refine MV G G (ST (q05 G G) G (ST (q05 G G) G (AS G G (AN G G (SM G G (NT ?_))))));refine q0a G (fun Z=>?_) (fun Z=>?_)
     .
      subst Z;rw[l01 rfl] at E;refine SQ ?_;obtain⟨bp,am,E⟩:=bnd E;refine RM G G (MV G G (q0M (enc:=encB) xty23 ([b9]:Ls) H G Kf (fun _=>G) G G (q00 G) G ?_));intro bq M w H a2 b0;refine q0F (l:=a4) xty23 G (fun _=>G) H G Ud G (b0) am (q00 G) G ?_;intro br w H;refine AQ G G ?_;obtain⟨bs,an,E⟩:=bnd E;refine RM G G (ST (q0e G G an) G (AN G G (q0j ?_)));exact WQ.meetX G [(3,_),(4,_),(5,_)] ⟨G,G,G,trivial⟩ ⟨_,_,_,_,G,H,E⟩
     subst Z;rw[l00 l03] at E;refine SK ?_;exact MN ⟨_,_,_,_,G,H,E⟩
    rw[l00 Y] at E;refine SK ?_;exact MN ⟨_,_,_,_,G,H,E⟩
   .
    rintro e w ⟨a7,ab,ac,M,rfl,H,ba⟩;obtain rfl:=oI ba;try dsimp only at u
    refine TN ?_;obtain⟨bb,ao,u⟩:=bnd u;obtain⟨bt,ap,u⟩:=bnd u;refine RM G G (MV G G (MV G G (ST (q0p Tu9 G G ao) G (q0M (enc:=encB) xty23 ([bb]:Ls) H G Kf (fun _=>G) G G (q00 G) G ?_))));intro bu M w H a2 b1;refine q0F (l:=a7) xty23 G (fun _=>G) H G Ud G (b1) ap (q00 G) G ?_;intro bv w H;refine AS G G (NL (IB (TN ?_)));obtain⟨bw,aq,u⟩:=bnd u;refine RM G G (ST (q0e G G aq) G (AS G G (NL ?_)));exact AG a6 ⟨_,_,_,_,G,H,u⟩ (l0a _)
   rintro e w ⟨ad,ae,ah,M,rfl,H,bc⟩;obtain rfl:=oI bc;try dsimp only at u
   refine q03 (q0b (TN ?_));obtain⟨bx,ar,u⟩:=bnd u;refine RM G G (ST (q0e G G ar) G (AS G G (NL ?_)));exact AG a6 ⟨_,_,_,_,G,H,u⟩ (l0a _)
  rw[l00 V] at u;refine q0j (q03 (q03 (q0b ?_)));exact MN ⟨_,_,_,G,H,u⟩
 rintro e w ⟨a9,a3,M,rfl,H,bd⟩;obtain rfl:=oI bd;refine TN (SM G G ?_);obtain⟨M,a2,b2,H⟩:=H.freezeRow (v:=a3) (enc:=encB) (t:=5) Kv;refine ST (q0Y Tu23 Tu5 Tu9 H (b2) G) G (AR G G ?_);obtain rfl:=oI h;exact q07 G G H.ext G
end Go.Proofs.YtkgohbecojnfaaaGreatDoor
end
section
namespace Go.Proofs.YtkgohbecojnfaaaGreatDoor
open Go Go.RowKit Go.Ph Go.Ph.Pl Go.Ph.Pf
theorem Y7u {p0:List Z01}{u:Value}{r:Z0n}(h:Y4j p0=some r):CtX Tryz.prog 202 [u] [RowS 239 4 xenc239 u p0] (fun M=>Tabs M) (fun v M its=>v=Value.tuple #[Value.agg #[S r.1.1,S r.1.2],Value.bool r.2]/\its=[]):=by
 refine q0W Tryz.func202 (enters Tryz.func202 Kr G) G G G ?_;intro w0 M0 H hp;have V:=hp;unfold Y4j at h;refine SR (q09 [_,_] H Tz109 G (q00 G) G ?_);intro N w H;refine AQ G G ?_;obtain⟨Y,E,h⟩:=bnd h;obtain⟨Z,J,h⟩:=bnd h;refine q0V (fun e w =>∃(b3:Nat) (M:Mem),e=[(0,u),(2,ptr N 0),(4,ptr b3 0)]/\StX (feet [RowS 239 4 xenc239 u p0]) w0 M0 M [RowS 239 4 xenc239 u p0, .blk N (.cells #[S [],S []] 109), .blk b3 (.cells #[S Y.1,S Z.2.2.2] 109)] w/\Tabs M) ?_ ?_
 .
  refine q0v (m:=11) G G H ?_;intro w H;refine TK 0 G (fun _=>q06 G) G (TK 4 G (fun _=>q06 G) G ?_);refine WA.three (i:=1) (j:=5) (k:=9) Kr G G G ?_ ?_ ?_
  .
   refine q0x (l:=p0) H Tu237 Ts239 Km G G E (q00 G) G ?_;intro g8 U;refine NA (TK 2 G (fun _=>q01 Tu239 G Ts9 Dc G) G ?_);refine WA.three (i:=3) (j:=5) (k:=9) Kr G G G ?_ ?_ ?_
   .
    refine ST (q0y (j:=0) H G U Km (fun _=>G) E G Ta9) G ?_;refine NA ?_;refine q0C (i:=5) (j:=9) Kr G G ?_ ?_
    .
     refine q0x (l:=p0) H Tu237 Ts239 Km G G J (q00 G) G ?_;intro a6 K;refine NA (TK 6 G (fun _=>q01 Tu239 G Ts9 Dc G) G (WA.takeA H (i:=7) [9] G Kr Kr Kr (fun _ H=>q0y (j:=3) H G K Km (fun _=>G) J G Ta9) (q00 G) G G (fun _ _=>G) ?_));refine TK 8 G (fun _=>q0t [S Y.1,S Z.2.2.2] Tu109 Tz109 (xplaces109 Tu109) G G) G (q0k (fuel:=0) [9,10] G Kr (q09 [_,_] H Tz109 G (q00 G) G ?_));intro O w H;refine q04 [_,_] H G G G Ku Ts109 G Kf Kf (q00 G) ?_;intro w H;refine NA (q0f Kr ?_);exact MP ⟨_,_,G,(H.pick (L':=[RowS 239 4 xenc239 u p0, .blk N (.cells #[S [],S []] 109), .blk O (.cells #[S Y.1,S Z.2.2.2] 109)]) Kp),V⟩
    refine q09 [_,_] H Tz109 G (q00 G) G ?_;intro O w H;refine NA (q0k (fuel:=0) [5,6,7,8,10] G Kr (q0x (l:=p0) H Tu237 Ts239 Km G G J (q00 G) G ?_));intro a6 K;refine ST (q01 Tu239 G Ts9 Dc G) G (ST (q0y (j:=3) H G K Km (fun _=>G) J G Ta9) G ?_);refine ST (q0t [S Y.1,S Z.2.2.2] Tu109 Tz109 (xplaces109 Tu109) G G) G (q04 [_,_] H G G G Ku Ts109 G Kf Kf (q00 G) ?_);intro w H;refine NA (q0f Kr ?_);exact MP ⟨_,_,G,(H.pick (L':=[RowS 239 4 xenc239 u p0, .blk N (.cells #[S [],S []] 109), .blk O (.cells #[S Y.1,S Z.2.2.2] 109)]) Kp),V⟩
   .
    refine q0x (l:=p0) H Tu237 Ts239 Km G G J (q00 G) G ?_;intro a6 K;refine NA (TK 6 G (fun _=>q01 Tu239 G Ts9 Dc G) G (WA.takeA H (i:=3) [7,9] G Kr Kr Kr (fun _ H=>q0y (j:=0) H G U Km (fun _=>G) E G Ta9) (q00 G) G G (fun _ _=>G) ?_));refine WA.takeA H (i:=7) [9] G Kr Kr Kr (fun _ H=>q0y (j:=3) H G K Km (fun _=>G) J G Ta9) (q00 G) G G (fun _ _=>G) ?_;refine TK 8 G (fun _=>q0t [S Y.1,S Z.2.2.2] Tu109 Tz109 (xplaces109 Tu109) G G) G (q0k (fuel:=0) [9,10] G Kr (q09 [_,_] H Tz109 G (q00 G) G ?_));intro O w H;refine q04 [_,_] H G G G Ku Ts109 G Kf Kf (q00 G) ?_;intro w H;refine NA (q0f Kr ?_);exact MP ⟨_,_,G,(H.pick (L':=[RowS 239 4 xenc239 u p0, .blk N (.cells #[S [],S []] 109), .blk O (.cells #[S Y.1,S Z.2.2.2] 109)]) Kp),V⟩
   refine q09 [_,_] H Tz109 G (q00 G) G ?_;intro O w H;refine NA ?_;refine q0C (i:=3) (j:=5) Kr G G ?_ ?_
   .
    refine ST (q0y (j:=0) H G U Km (fun _=>G) E G Ta9) G ?_;refine NA (q0k (fuel:=0) [5,6,7,8,10] G Kr (q0x (l:=p0) H Tu237 Ts239 Km G G J (q00 G) G ?_));intro a6 K;refine ST (q01 Tu239 G Ts9 Dc G) G (ST (q0y (j:=3) H G K Km (fun _=>G) J G Ta9) G ?_);refine ST (q0t [S Y.1,S Z.2.2.2] Tu109 Tz109 (xplaces109 Tu109) G G) G (q04 [_,_] H G G G Ku Ts109 G Kf Kf (q00 G) ?_);intro w H;refine NA (q0f Kr ?_);exact MP ⟨_,_,G,(H.pick (L':=[RowS 239 4 xenc239 u p0, .blk N (.cells #[S [],S []] 109), .blk O (.cells #[S Y.1,S Z.2.2.2] 109)]) Kp),V⟩
   refine q0x (l:=p0) H Tu237 Ts239 Km G G J (q00 G) G ?_;intro a6 K;refine NA (TK 6 G (fun _=>q01 Tu239 G Ts9 Dc G) G (q1i (i:=3) [7] G Kr Kr Kr (q0y (j:=0) H G U Km (fun _=>G) E G Ta9) (q00 G) G G (fun _ _=>G) ?_));refine q0k (fuel:=0) [7,8,10] G Kr (ST (q0y (j:=3) H G K Km (fun _=>G) J G Ta9) G ?_);refine ST (q0t [S Y.1,S Z.2.2.2] Tu109 Tz109 (xplaces109 Tu109) G G) G (q04 [_,_] H G G G Ku Ts109 G Kf Kf (q00 G) ?_);intro w H;refine NA (q0f Kr ?_);exact MP ⟨_,_,G,(H.pick (L':=[RowS 239 4 xenc239 u p0, .blk N (.cells #[S [],S []] 109), .blk O (.cells #[S Y.1,S Z.2.2.2] 109)]) Kp),V⟩
  .
   refine q0x (l:=p0) H Tu237 Ts239 Km G G J (q00 G) G ?_;intro a6 K;refine NA (TK 6 G (fun _=>q01 Tu239 G Ts9 Dc G) G ?_);refine WA.three (i:=1) (j:=7) (k:=9) Kr G G G ?_ ?_ ?_
   .
    refine q0x (l:=p0) H Tu237 Ts239 Km G G E (q00 G) G ?_;intro g8 U;refine NA (TK 2 G (fun _=>q01 Tu239 G Ts9 Dc G) G (WA.takeA H (i:=3) [7,9] G Kr Kr Kr (fun _ H=>q0y (j:=0) H G U Km (fun _=>G) E G Ta9) (q00 G) G G (fun _ _=>G) ?_));refine WA.takeA H (i:=7) [9] G Kr Kr Kr (fun _ H=>q0y (j:=3) H G K Km (fun _=>G) J G Ta9) (q00 G) G G (fun _ _=>G) ?_;refine TK 8 G (fun _=>q0t [S Y.1,S Z.2.2.2] Tu109 Tz109 (xplaces109 Tu109) G G) G (q0k (fuel:=0) [9,10] G Kr (q09 [_,_] H Tz109 G (q00 G) G ?_));intro O w H;refine q04 [_,_] H G G G Ku Ts109 G Kf Kf (q00 G) ?_;intro w H;refine NA (q0f Kr ?_);exact MP ⟨_,_,G,(H.pick (L':=[RowS 239 4 xenc239 u p0, .blk N (.cells #[S [],S []] 109), .blk O (.cells #[S Y.1,S Z.2.2.2] 109)]) Kp),V⟩
   .
    refine ST (q0y (j:=3) H G K Km (fun _=>G) J G Ta9) G ?_;refine NA ?_;refine q0C (i:=1) (j:=9) Kr G G ?_ ?_
    .
     refine q0x (l:=p0) H Tu237 Ts239 Km G G E (q00 G) G ?_;intro g8 U;refine NA (TK 2 G (fun _=>q01 Tu239 G Ts9 Dc G) G (WA.takeA H (i:=3) [9] G Kr Kr Kr (fun _ H=>q0y (j:=0) H G U Km (fun _=>G) E G Ta9) (q00 G) G G (fun _ _=>G) ?_));refine TK 8 G (fun _=>q0t [S Y.1,S Z.2.2.2] Tu109 Tz109 (xplaces109 Tu109) G G) G (q0k (fuel:=0) [9,10] G Kr (q09 [_,_] H Tz109 G (q00 G) G ?_));intro O w H;refine q04 [_,_] H G G G Ku Ts109 G Kf Kf (q00 G) ?_;intro w H;refine NA (q0f Kr ?_);exact MP ⟨_,_,G,(H.pick (L':=[RowS 239 4 xenc239 u p0, .blk N (.cells #[S [],S []] 109), .blk O (.cells #[S Y.1,S Z.2.2.2] 109)]) Kp),V⟩
    refine q09 [_,_] H Tz109 G (q00 G) G ?_;intro O w H;refine NA (q0k (fuel:=0) [1,2,3,8,10] G Kr (q0x (l:=p0) H Tu237 Ts239 Km G G E (q00 G) G ?_));intro g8 U;refine ST (q01 Tu239 G Ts9 Dc G) G (ST (q0y (j:=0) H G U Km (fun _=>G) E G Ta9) G ?_);refine ST (q0t [S Y.1,S Z.2.2.2] Tu109 Tz109 (xplaces109 Tu109) G G) G (q04 [_,_] H G G G Ku Ts109 G Kf Kf (q00 G) ?_);intro w H;refine NA (q0f Kr ?_);exact MP ⟨_,_,G,(H.pick (L':=[RowS 239 4 xenc239 u p0, .blk N (.cells #[S [],S []] 109), .blk O (.cells #[S Y.1,S Z.2.2.2] 109)]) Kp),V⟩
   refine q09 [_,_] H Tz109 G (q00 G) G ?_;intro O w H;refine NA ?_;refine q0C (i:=1) (j:=7) Kr G G ?_ ?_
   .
    refine q0x (l:=p0) H Tu237 Ts239 Km G G E (q00 G) G ?_;intro g8 U;refine NA (TK 2 G (fun _=>q01 Tu239 G Ts9 Dc G) G (q1i (i:=3) [7] G Kr Kr Kr (q0y (j:=0) H G U Km (fun _=>G) E G Ta9) (q00 G) G G (fun _ _=>G) ?_));refine q0k (fuel:=0) [7,8,10] G Kr (ST (q0y (j:=3) H G K Km (fun _=>G) J G Ta9) G ?_);refine ST (q0t [S Y.1,S Z.2.2.2] Tu109 Tz109 (xplaces109 Tu109) G G) G (q04 [_,_] H G G G Ku Ts109 G Kf Kf (q00 G) ?_);intro w H;refine NA (q0f Kr ?_);exact MP ⟨_,_,G,(H.pick (L':=[RowS 239 4 xenc239 u p0, .blk N (.cells #[S [],S []] 109), .blk O (.cells #[S Y.1,S Z.2.2.2] 109)]) Kp),V⟩
   refine ST (q0y (j:=3) H G K Km (fun _=>G) J G Ta9) G ?_;refine NA (q0k (fuel:=0) [1,2,3,8,10] G Kr (q0x (l:=p0) H Tu237 Ts239 Km G G E (q00 G) G ?_));intro g8 U;refine ST (q01 Tu239 G Ts9 Dc G) G (ST (q0y (j:=0) H G U Km (fun _=>G) E G Ta9) G ?_);refine ST (q0t [S Y.1,S Z.2.2.2] Tu109 Tz109 (xplaces109 Tu109) G G) G (q04 [_,_] H G G G Ku Ts109 G Kf Kf (q00 G) ?_);intro w H;refine NA (q0f Kr ?_);exact MP ⟨_,_,G,(H.pick (L':=[RowS 239 4 xenc239 u p0, .blk N (.cells #[S [],S []] 109), .blk O (.cells #[S Y.1,S Z.2.2.2] 109)]) Kp),V⟩
  refine q09 [_,_] H Tz109 G (q00 G) G ?_;intro O w H;refine NA ?_;refine q0C (i:=1) (j:=5) Kr G G ?_ ?_
  .
   refine q0x (l:=p0) H Tu237 Ts239 Km G G E (q00 G) G ?_;intro g8 U;refine NA (TK 2 G (fun _=>q01 Tu239 G Ts9 Dc G) G ?_);refine q0C (i:=3) (j:=5) Kr G G ?_ ?_
   .
    refine ST (q0y (j:=0) H G U Km (fun _=>G) E G Ta9) G ?_;refine NA (q0k (fuel:=0) [5,6,7,8,10] G Kr (q0x (l:=p0) H Tu237 Ts239 Km G G J (q00 G) G ?_));intro a6 K;refine ST (q01 Tu239 G Ts9 Dc G) G (ST (q0y (j:=3) H G K Km (fun _=>G) J G Ta9) G ?_);refine ST (q0t [S Y.1,S Z.2.2.2] Tu109 Tz109 (xplaces109 Tu109) G G) G (q04 [_,_] H G G G Ku Ts109 G Kf Kf (q00 G) ?_);intro w H;refine NA (q0f Kr ?_);exact MP ⟨_,_,G,(H.pick (L':=[RowS 239 4 xenc239 u p0, .blk N (.cells #[S [],S []] 109), .blk O (.cells #[S Y.1,S Z.2.2.2] 109)]) Kp),V⟩
   refine q0x (l:=p0) H Tu237 Ts239 Km G G J (q00 G) G ?_;intro a6 K;refine NA (TK 6 G (fun _=>q01 Tu239 G Ts9 Dc G) G (q1i (i:=3) [7] G Kr Kr Kr (q0y (j:=0) H G U Km (fun _=>G) E G Ta9) (q00 G) G G (fun _ _=>G) ?_));refine q0k (fuel:=0) [7,8,10] G Kr (ST (q0y (j:=3) H G K Km (fun _=>G) J G Ta9) G ?_);refine ST (q0t [S Y.1,S Z.2.2.2] Tu109 Tz109 (xplaces109 Tu109) G G) G (q04 [_,_] H G G G Ku Ts109 G Kf Kf (q00 G) ?_);intro w H;refine NA (q0f Kr ?_);exact MP ⟨_,_,G,(H.pick (L':=[RowS 239 4 xenc239 u p0, .blk N (.cells #[S [],S []] 109), .blk O (.cells #[S Y.1,S Z.2.2.2] 109)]) Kp),V⟩
  refine q0x (l:=p0) H Tu237 Ts239 Km G G J (q00 G) G ?_;intro a6 K;refine NA (TK 6 G (fun _=>q01 Tu239 G Ts9 Dc G) G ?_);refine q0C (i:=1) (j:=7) Kr G G ?_ ?_
  .
   refine q0x (l:=p0) H Tu237 Ts239 Km G G E (q00 G) G ?_;intro g8 U;refine NA (TK 2 G (fun _=>q01 Tu239 G Ts9 Dc G) G (q1i (i:=3) [7] G Kr Kr Kr (q0y (j:=0) H G U Km (fun _=>G) E G Ta9) (q00 G) G G (fun _ _=>G) ?_));refine q0k (fuel:=0) [7,8,10] G Kr (ST (q0y (j:=3) H G K Km (fun _=>G) J G Ta9) G ?_);refine ST (q0t [S Y.1,S Z.2.2.2] Tu109 Tz109 (xplaces109 Tu109) G G) G (q04 [_,_] H G G G Ku Ts109 G Kf Kf (q00 G) ?_);intro w H;refine NA (q0f Kr ?_);exact MP ⟨_,_,G,(H.pick (L':=[RowS 239 4 xenc239 u p0, .blk N (.cells #[S [],S []] 109), .blk O (.cells #[S Y.1,S Z.2.2.2] 109)]) Kp),V⟩
  refine ST (q0y (j:=3) H G K Km (fun _=>G) J G Ta9) G ?_;refine NA (q0k (fuel:=0) [1,2,3,8,10] G Kr (q0x (l:=p0) H Tu237 Ts239 Km G G E (q00 G) G ?_));intro g8 U;refine ST (q01 Tu239 G Ts9 Dc G) G (ST (q0y (j:=0) H G U Km (fun _=>G) E G Ta9) G ?_);refine ST (q0t [S Y.1,S Z.2.2.2] Tu109 Tz109 (xplaces109 Tu109) G G) G (q04 [_,_] H G G G Ku Ts109 G Kf Kf (q00 G) ?_);intro w H;refine NA (q0f Kr ?_);exact MP ⟨_,_,G,(H.pick (L':=[RowS 239 4 xenc239 u p0, .blk N (.cells #[S [],S []] 109), .blk O (.cells #[S Y.1,S Z.2.2.2] 109)]) Kp),V⟩
 rintro e w ⟨b3,M,rfl,H,V⟩;refine TN (SQ (SQ ?_));obtain⟨a4,ak,h⟩:=bnd h;refine RM G G (q0x (l:=p0) H Tu237 Ts239 Km G G ak (q00 G) G ?_);intro b7 ax;refine ST (q01 Tu239 G Ts3 Dc G) G (ST (q0y (j:=1) H G ax Km (fun _=>G) ak G Ta3) G ?_);refine ST (q0m G G) G (NT ?_);refine CB (p:=a4.2.1<(0:Int)) G (fun al=>?_) fun al=>?_
 .
  rw[l01 al] at h;refine SR (ST (q08 H G Km Ta109 Ts109 Kf) G ?_);refine MV G G (ST (q1w (l:=p0) Tu237 H Km G) G ?_);refine ST (q0s G G) G (q04 [_,_] H G G G Ku Ts109 G Kf Kf (q00 G) ?_);intro w H;refine AR G G ?_;obtain rfl:=oI h;exact q0Z (its:=[]) G ⟨_,G,H.loadAgg Km Ta109 Ts109 Kf⟩ G H Kp ⟨G,G⟩
 rw[l00 al] at h;refine KQ ?_;obtain⟨l6,ay,h⟩:=bnd h;refine RM G G (XC (A:=[RowS 239 4 xenc239 u p0]) H (Y5m ay) G trivial (q00 G) G Kt ?_);intro b8 M w its H ac hR;have V:=V.mono ac;obtain⟨rfl,rfl⟩:=hR;simp only[l09,l07] at H;refine NQ (RG (ST (q01 Tu109 G Ts9 Dc G) G (q1d [_,_] H G G Ku Kf Ts9 (by first|decide|(simp;done)|(simp;omega)) Kf Kf (q00 G) ?_)));intro w H;refine NQ (SM G G (ST (q1w (l:=l6) Tu237 H Km G) G ?_));refine MV G G (NT ?_);obtain⟨o7,e8,h⟩:=bnd h;refine q0c (fun e w =>∃(s9:Ls) (am:Ls) (an:Ls) (ao:Ls) (M:Mem),e=[(2,ptr N 0),(4,ptr b3 0)]/\StX (feet [RowS 239 4 xenc239 u p0]) w0 M0 M [.blk N (.cells #[S s9,S am] 109), .blk b3 (.cells #[S an,S ao] 109)] w/\Tabs M/\some (.inl (s9,am,an,ao))=some o7) [] ?_ ?_ (trivial)
 .
  refine BL ?_;refine q0l (fun m e w =>∃(a8:Ls) (a9:Ls) (aa:Ls) (ah:Ls) (ab:Int) (M:Mem),e=[(2,ptr N 0),(4,ptr b3 0),(28,u),(29,I (l6.length:Int)),(30,I ab)]/\StX (feet [RowS 239 4 xenc239 u p0]) w0 M0 M [.blk N (.cells #[S a8,S a9] 109), .blk b3 (.cells #[S aa,S ah] 109),RowS 239 4 xenc239 u l6] w/\Tabs M/\Y1A l6 m a8 a9 aa ah ab=some o7) FU [(2,_),(4,_),(28,_),(29,_),(30,_)] ⟨rfl,rfl,rfl,rfl,rfl,trivial⟩ ⟨_,_,_,_,_,_,rfl,(H.pick (L':=[.blk N (.cells #[S [],S []] 109), .blk b3 (.cells #[S Y.1,S []] 109),RowS 239 4 xenc239 u l6]) Kp),V,e8⟩ ?_;rintro ap e w ⟨a8,a9,aa,ah,ab,M,rfl,H,V,e8⟩;rcases ap with _|ap
  . rw[Y1A] at e8;cases e8
  rw[Y1A] at e8;refine SR (ST (q0m G G) G (NQ ?_));refine CB (p:=ab<(l6.length:Int)) G (fun ae=>?_) fun ae=>?_
  .
   rw[l01 ae] at e8;refine KQ (BL (SQ ?_));obtain⟨aw,ai,e8⟩:=bnd e8;refine RM G G (q0x (l:=l6) H Tu237 Ts239 Km G G ai (q00 G) G ?_);intro b9 b0;refine ST (Ex.loadRowA H G b0 Km (fun _=>G) ai Ta239 Ts239) G ?_;refine q09 [_,_,_,_] H Tz239 G (q00 G) G ?_;intro ba w H;refine AS G G (q04 [_,_,_,_] H G G G Ku Ts239 G Kf Kf (q00 G) ?_);intro w H;refine NQ (SR (ST (q01 Tu239 G Ts3 Dc G) G (ST (XL H Ta3) G ?_)));refine MV G G (ST (q1j G G) G (NT ?_));refine q0a G (fun a3=>?_) (fun a3=>?_)
   .
    replace a3 :¬(aw.2.1=ab):=of_not_decide a3;rw[l00 a3] at e8;refine SR (ST (q08 H G Km Ta109 Ts109 Kf) G ?_);refine q04 [_,_] H G G G Ku Ts109 G Kf Kf (q00 G) ?_;intro w H;refine AR G G ?_;obtain rfl:=oI e8;try dsimp only at h
    obtain rfl:=oI h;exact q0Z (its:=[]) G ⟨_,G,H.loadAgg Km Ta109 Ts109 Kf⟩ G H Kp ⟨G,G⟩
   replace a3:aw.2.1=ab:=of_not_decide' a3;rw[l01 a3] at e8;refine SK (TN ?_);obtain⟨bb,aq,e8⟩:=bnd e8;obtain⟨ar,aj,e8⟩:=bnd e8;refine q0V (fun e w =>∃  (M:Mem),e=[(2,ptr N 0),(4,ptr b3 0),(28,u),(29,I (l6.length:Int)),(30,I ab)]/\StX (feet [RowS 239 4 xenc239 u p0]) w0 M0 M [.blk N (.cells #[S a8,S a9] 109), .blk b3 (.cells #[S aa,S ar] 109),RowS 239 4 xenc239 u l6] w/\Tabs M) ?_ ?_
   .
    refine q0v (m:=7) G G H ?_;intro w H;refine TK 0 G (fun _=>q01 Tu109 G Ts9 Dc G) G (q1i (i:=2) [1] G Kr Kr Kr (q08 H G Km Ta239 Ts239 Kf) (q00 G) G G (fun _ _=>G) ?_);refine q0C (i:=1) (j:=3) Kr G G ?_ ?_
    .
     refine ST (XL H Ta9) G ?_;refine NA (q0k (fuel:=0) [3,4,5,6] G Kr (q02 H (Y4M aq) G trivial (q00 G) G ?_));intro b4 M w H ac hR;have V:=V.mono ac;obtain rfl:=hR;refine ST (q0d G G aj) G (ST (q01 Tu109 G Ts9 Dc G) G (q1d [_,_] H G G Ku Kf Ts9 (by first|decide|(simp;done)|(simp;omega)) Kf Kf (q00 G) ?_));intro w H;refine NA (q0f Kr ?_);exact MP ⟨_,G,(H.pick (L':=[.blk N (.cells #[S a8,S a9] 109), .blk b3 (.cells #[S aa,S ar] 109),RowS 239 4 xenc239 u l6]) Kp),V⟩
    refine q02 H (Y4M aq) G trivial (q00 G) G ?_;intro b4 M w H ac hR;have V:=V.mono ac;obtain rfl:=hR;refine NA (q0k (fuel:=0) [1,4,5,6] G Kr (ST (XL H Ta9) G ?_));refine ST (q0d G G aj) G (ST (q01 Tu109 G Ts9 Dc G) G (q1d [_,_] H G G Ku Kf Ts9 (by first|decide|(simp;done)|(simp;omega)) Kf Kf (q00 G) ?_));intro w H;refine NA (q0f Kr ?_);exact MP ⟨_,G,(H.pick (L':=[.blk N (.cells #[S a8,S a9] 109), .blk b3 (.cells #[S aa,S ar] 109),RowS 239 4 xenc239 u l6]) Kp),V⟩
   rintro e w ⟨M,rfl,H,V⟩;refine IB (TN ?_);obtain⟨bc,av,e8⟩:=bnd e8;refine RG (ST (q0e G G av) G (MV G G (NL ?_)));exact AG ap ⟨_,_,_,_,_,_,G,H,V,e8⟩ (l0a _)
  rw[l00 ae] at e8;refine q0j (q03 (q03 (q0b ?_)));exact MN ⟨_,_,_,_,_,G,(H.pick (L':=[.blk N (.cells #[S a8,S a9] 109), .blk b3 (.cells #[S aa,S ah] 109)]) Kp),V,e8⟩
 rintro e w ⟨s9,am,an,ao,M,rfl,H,V,b5⟩;obtain rfl:=oI b5;try dsimp only at h
 refine TN (SQ ?_);obtain⟨bd,b1,h⟩:=bnd h;refine RG (ST (q01 Tu109 G Ts9 Dc G) G (ST (XL H Ta9) G ?_));refine q02 H (Y5I b1) G (V) (q00 G) G ?_;intro be M w H ac hR;obtain rfl:=hR;refine ST (q01 Tu109 G Ts9 Dc G) G (q1d [_,_] H G G Ku Kf Ts9 (by first|decide|(simp;done)|(simp;omega)) Kf Kf (q00 G) ?_);intro w H;refine NQ (RG (ST (q08 H G Km Ta109 Ts109 Kf) G ?_));refine q04 [_,_] H G G G Ku Ts109 G Kf Kf (q00 G) ?_;intro w H;refine AR G G ?_;obtain rfl:=oI h;exact q0Z (its:=[]) G ⟨_,G,H.loadAgg Km Ta109 Ts109 Kf⟩ G H Kp ⟨G,G⟩
theorem Y7v {p0:List Z01}{U:Value}{r:Z0l}(h:Y4k p0=some r):CtO Tryz.prog 166 [U] (fun M=>Tabs M/\SlS M 4 xenc239 U p0) (fun v M its =>∃x0,v=Value.tuple #[x0,Value.bool r.2]/\its=[RowS 109 2 xenc109 x0 r.1]):=by
 refine CtO.of Tryz.func166 (enters Tryz.func166 Kr G) G G G ?_;intro w0 M0 H hp;obtain⟨O,u⟩:=hp;unfold Y4k at h;refine SR (AS G G (AQ G G (RG (AQ G G (SM G G (ST (q0L Tu237 u G) G (MV G G (NT ?_))))))));obtain⟨o1,K,h⟩:=bnd h;refine q0c (fun e w =>∃(l4:List Z00) (v5:Value) (M:Mem),e=[(4,v5)]/\St w0 M0 M [RowS 109 2 xenc109 v5 l4] w/\Tabs M/\some (.inl l4)=some o1) [] ?_ ?_ (trivial)
 .
  refine BL ?_;replace H:=H.newRowS 109 2 xenc109;refine q0l (fun m e w =>∃(l7:List Z00) (v8:Value) (n9:Int) (M:Mem),e=[(0,U),(4,v8),(13,U),(14,I (p0.length:Int)),(15,I n9)]/\St w0 M0 M [RowS 109 2 xenc109 v8 l7] w/\Tabs M/\SlS M 4 xenc239 U p0/\Y1a p0 m l7 n9=some o1) FU [(0,_),(4,_),(13,_),(14,_),(15,_)] ⟨rfl,rfl,rfl,rfl,rfl,trivial⟩ ⟨_,_,_,_,rfl,H,O,u,K⟩ ?_;rintro a8 e w ⟨l7,v8,n9,M,rfl,H,O,u,K⟩;rcases a8 with _|a8
  . rw[Y1a] at K;cases K
  rw[Y1a] at K;refine SR (ST (q0m G G) G (NQ ?_));refine CB (p:=n9<(p0.length:Int)) G (fun a4=>?_) fun a4=>?_
  .
   rw[l01 a4] at K;refine KQ (BL (SQ ?_));obtain⟨V,ak,K⟩:=bnd K;obtain⟨bh,bn,ax,ay⟩:=u.atC ak;refine RM G G (ST (q0q ax Tu237 Ts239 G G) G (ST (q0E H G ay Ta239 Ts239 Kf) G ?_));refine q09 [_,_,_,_] H Tz239 G (q00 G) G ?_;intro Z w H;refine AS G G (q04 [_,_,_,_] H G G G Ku Ts239 G Kf Kf (q00 G) ?_);intro w H;refine NQ (RG ?_);obtain⟨M,N,E,H⟩:=H.freezeVar (b:=Z) Kv;have O:=O.mono N;have u:=u.mono N;refine ST (q1t G) G (AQ G G (SQ ?_));obtain⟨bo,al,K⟩:=bnd K;obtain⟨bp,az,K⟩:=bnd K;refine RM G G (MV G G (WR.sliceSSH Tu237 Ts239 (u) G G al (q00 G) G ?_));intro bq b0;refine MV G G (q02 H (Y4x az) G ⟨b0,(fun _ _ h=>FnV.ofCap [ptr Z 0] (Y5o h) (fun _ hm=>E.mono hm))⟩ (q00 G) G ?_);intro br M w H N hR;have O:=O.mono N;have u:=u.mono N;have E:=E.mono N;obtain rfl:=hR;refine NT ?_;refine q0a G (fun a5=>?_) (fun a5=>?_)
   .
    subst a5;rw[l01 rfl] at K;refine q0j (q03 (q0b (TN ?_)));obtain⟨bs,am,K⟩:=bnd K;refine RG (ST (q0e G G am) G (MV G G (NL ?_)));exact AG a8 ⟨_,_,_,_,G,H,O,u,K⟩ (l0a _)
   subst a5;rw[l00 l03] at K;refine KQ (RG (AQ G G (SM G G (ST (q0L Tu237 u G) G (MV G G (NT ?_))))));obtain⟨av,J,K⟩:=bnd K;refine q0c (fun e w =>∃(a9:List Z01) (aa:Value) (M:Mem),e=[(0,U),(4,v8),(6,ptr Z 0),(8,aa),(13,U),(14,I (p0.length:Int)),(15,I n9)]/\St w0 M0 M [RowS 109 2 xenc109 v8 l7,RowS 239 4 xenc239 aa a9] w/\Tabs M/\SlS M 4 xenc239 U p0/\PtM M Z (.cells #[S V.1,I V.2.1,Value.bool V.2.2.1,S V.2.2.2] 239)/\some a9=some av) [] ?_ ?_ (trivial)
   .
    refine BL ?_;replace H:=H.newRowS 239 4 xenc239;refine q0l (fun m e w =>∃(a3:List Z01) (ab:Value) (ac:Int) (M:Mem),e=[(0,U),(4,v8),(6,ptr Z 0),(7,(Value.func (.func 200) #[] #[ptr Z 0])),(8,ab),(13,U),(14,I (p0.length:Int)),(15,I n9),(26,U),(27,I (p0.length:Int)),(28,I ac)]/\St w0 M0 M [RowS 109 2 xenc109 v8 l7,RowS 239 4 xenc239 ab a3] w/\Tabs M/\SlS M 4 xenc239 U p0/\PtM M Z (.cells #[S V.1,I V.2.1,Value.bool V.2.2.1,S V.2.2.2] 239)/\Y19 p0 V m a3 ac=some av) FU [(0,_),(4,_),(6,_),(7,_),(8,_),(13,_),(14,_),(15,_),(26,_),(27,_),(28,_)] ⟨rfl,rfl,rfl,rfl,rfl,rfl,rfl,rfl,rfl,rfl,rfl,trivial⟩ ⟨_,_,_,_,rfl,(H.pick (L':=[RowS 109 2 xenc109 v8 l7,RowS 239 4 xenc239 (Value.slice none 0 0) []]) Kp),O,u,E,J⟩ ?_;rintro ad e w ⟨a3,ab,ac,M,rfl,H,O,u,E,J⟩;rcases ad with _|ad
    . rw[Y19] at J;cases J
    rw[Y19] at J;refine SR (ST (q0m G G) G (NQ ?_));refine CB (p:=ac<(p0.length:Int)) G (fun a6=>?_) fun a6=>?_
    .
     rw[l01 a6] at J;refine KQ (BL (SQ ?_));obtain⟨a0,an,J⟩:=bnd J;obtain⟨bi,bt,b1,b2⟩:=u.atC an;refine RG (ST (q0q b1 Tu237 Ts239 G G) G (ST (q0E H G b2 Ta239 Ts239 Kf) G ?_));refine q09 [_,_,_,_] H Tz239 G (q00 G) G ?_;intro bj w H;refine q04 [_,_,_,_] H G G G Ku Ts239 G Kf Kf (q00 G) ?_;intro w H;refine NQ ?_;obtain⟨bu,b3,J⟩:=bnd J;refine RM G G (ST (q08 H G Km Ta239 Ts239 Kf) G ?_);refine WR.callV (vs:=[Value.agg #[S a0.1,I a0.2.1,Value.bool a0.2.2.1,S a0.2.2.2]]) (cap:=[ptr Z 0]) H (Y5o b3) G G (E) (q00 G) G ?_;intro bv M w H N hR;have O:=O.mono N;have u:=u.mono N;have E:=E.mono N;obtain rfl:=hR;refine NT ?_;refine q0a G (fun a7=>?_) (fun a7=>?_)
     .
      subst a7;rw[l01 rfl] at J;obtain⟨b9,ao,J⟩:=bnd J;refine RM G G (ST (q08 H G Km Ta239 Ts239 Kf) G ?_);refine q1u (enc:=xenc239) xty237 ([(a0.1,a0.2.1,a0.2.2.1,a0.2.2.2)]:List Z01) H (fun _=>G) G Kr G G G (q00 G) G ?_;intro bw M w H N b4;have O:=O.mono N;have u:=u.mono N;have E:=E.mono N;refine WR.appSC (l:=a3) xty237 G xone239 H G Ud G (b4) ao (q00 G) G ?_;intro ba w H;refine AS G G (NL (IB (TN ?_)));obtain⟨bx,ap,J⟩:=bnd J;refine RG (ST (q0e G G ap) G (MV G G (NL ?_)));exact AG ad ⟨_,_,_,_,G,(H.pick (L':=[RowS 109 2 xenc109 v8 l7,RowS 239 4 xenc239 ba b9]) Kp),O,u,E,J⟩ (l0a _)
     subst a7;rw[l00 l03] at J;refine SK (IB (TN ?_));obtain⟨bz,aq,J⟩:=bnd J;refine RG (ST (q0e G G aq) G (MV G G (NL ?_)));exact AG ad ⟨_,_,_,_,G,(H.pick (L':=[RowS 109 2 xenc109 v8 l7,RowS 239 4 xenc239 ab a3]) Kp),O,u,E,J⟩ (l0a _)
    rw[l00 a6] at J;refine q0j (q03 (q03 (q0b ?_)));exact MN ⟨_,_,_,G,H,O,u,E,J⟩
   rintro e w ⟨a9,aa,M,rfl,H,O,u,E,bb⟩;obtain rfl:=oI bb;refine TN (SQ ?_);obtain⟨⟨⟨c0,bc⟩,aw⟩,b5,K⟩:=bnd K;try dsimp only at K
   refine RM G G (XC (A:=[RowS 239 4 xenc239 aa a9]) H (Y7u b5) G (O) (q00 G) G Kt ?_);intro c1 M w its H N hR;have O:=O.mono N;have u:=u.mono N;have E:=E.mono N;try dsimp only at hR
   obtain⟨rfl,rfl⟩:=hR;simp only[l09,l07] at H;refine MV G G (ST (q05 G G) G (ST (q05 G G) G (q09 [_,_] H Tz109 G (q00 G) G ?_)));intro bm w H;refine q04 [_,_] H G G G Ku Ts109 G Kf Kf (q00 G) ?_;intro w H;refine AQ G G (SM G G (ST (q0w G) G (NT ?_)));refine q0a G (fun Y=>?_) (fun Y=>?_)
   .
    replace Y:aw=false:=by simpa using Y
    subst Y;rw[l00 l03] at K;refine SR (AS G G (AR G G ?_));replace H:=H.newRowS 109 2 xenc109;obtain rfl:=oI K;try dsimp only at h
    obtain rfl:=oI h;exact q1J (its:=[RowS 109 2 xenc109 (Value.slice none 0 0) []]) G G G H (by repeat(first|exact List.Sublist.refl _|apply List.Sublist.cons_cons|apply List.Sublist.cons)) ⟨_,G,G⟩
   replace Y:aw=true:=by simpa using Y
   subst Y;rw[l01 rfl] at K;refine KQ (RG (ST (q01 Tu239 G Ts9 Dc G) G (ST (q0n H G (E.cell (j:=0) G) Ta9) G (ST (q01 Tu109 G Ts9 Dc G) G (q1d [_,_] H G G Ku Kf Ts9 (by first|decide|(simp;done)|(simp;omega)) Kf Kf (q00 G) ?_)))));intro w H;refine NT ?_;obtain⟨bd,ar,K⟩:=bnd K;refine RM G G (ST (q08 H G Km Ta109 Ts109 Kf) G ?_);refine q1u (enc:=xenc109) xty103 ([(V.1,bc)]:List Z00) H (fun _=>G) G Kr G G G (q00 G) G ?_;intro c2 M w H N b6;have O:=O.mono N;have u:=u.mono N;refine WR.appSC (l:=l7) xty103 G xone109 H G Ud G (b6) ar (q00 G) G ?_;intro be w H;refine AS G G (NL (IB (TN ?_)));obtain⟨c3,au,K⟩:=bnd K;refine RG (ST (q0e G G au) G (MV G G (NL ?_)));exact AG a8 ⟨_,_,_,_,G,(H.pick (L':=[RowS 109 2 xenc109 be bd]) Kp),O,u,K⟩ (l0a _)
  rw[l00 a4] at K;refine q0j (q03 (q03 (q0b ?_)));exact MN ⟨_,_,_,G,H,O,K⟩
 rintro e w ⟨l4,v5,M,rfl,H,O,bg⟩;obtain rfl:=oI bg;try dsimp only at h
 refine TN (SM G G (AS G G (AR G G ?_)));obtain rfl:=oI h;exact q1J (its:=[RowS 109 2 xenc109 v5 l4]) G G G H (by repeat(first|exact List.Sublist.refl _|apply List.Sublist.cons_cons|apply List.Sublist.cons)) ⟨_,G,G⟩
theorem Y85 {p0:Ls}{r:Z0u}(h:Y4F p0=some r):CtO Tryz.prog 127 [S p0] (fun M=>Gv2 M/\Gv1 M/\Gv3 M/\Gv0 M/\Tabs M) (fun v M its =>∃an,v=Value.tuple #[Value.agg #[S r.1.1,S r.1.2.1,an],Value.bool r.2]/\its=[RowS 109 2 xenc109 an r.1.2.2]):=by
 refine CtO.of Tryz.func127 (enters Tryz.func127 Kr G) G G G ?_;intro w0 M0 H hp;obtain⟨E,J,O,u,U⟩:=hp;unfold Y4F at h;refine SR (q09 [_,_,_] H Tz105 G (q00 G) G ?_);intro Z w H;refine AN G G (SM G G (ST (q0t [S p0] Tu235 Tryz.zeroValue235 (xplaces235 Tu235) G G) G (q0D [_] H G G (q00 G) G ?_)));intro N w H;refine AQ G G (RG (q09 [_,_,_] H Tz105 G (q00 G) G ?_));intro a0 w H;refine NQ ?_;obtain⟨⟨s1,o2⟩,bd,h⟩:=bnd h;try dsimp only at h
 refine RM G G (XC (A:=[.blk N (.cells #[S p0] 235)]) H (Y2F bd) G ((fun _ _ h=>FnV.of (Y21 h) (fun _ _=>trivial))) (q00 G) G Kt ?_);intro c0 M w its H K hR;have E:=E.mono K;have J:=J.mono K;have O:=O.mono K;have u:=u.mono K;have U:=U.mono K;try dsimp only at hR
 obtain⟨rfl,rfl⟩:=hR;simp only[l09,l07] at H;refine ST (q01 Tu105 G Ts9 Dc G) G (q1d [_,_,_] H G G Ku Kf Ts9 (by first|decide|(simp;done)|(simp;omega)) Kf Kf (q00 G) ?_);intro w H;refine NQ ?_;obtain⟨⟨b4,o5⟩,be,h⟩:=bnd h;try dsimp only at h
 refine RM G G (XC (A:=[.blk N (.cells #[S o2] 235)]) H (Y2G be) G trivial (q00 G) G Kt ?_);intro c1 M w its H K hR;have E:=E.mono K;have J:=J.mono K;have O:=O.mono K;have u:=u.mono K;have U:=U.mono K;try dsimp only at hR
 obtain⟨rfl,rfl⟩:=hR;simp only[l09,l07] at H;refine AQ G G ?_;obtain⟨⟨s7,o8⟩,bg,h⟩:=bnd h;try dsimp only at h
 refine RM G G (XC (A:=[.blk N (.cells #[S o5] 235)]) H (Y2F bg) G ((fun _ _ h=>FnV.of (Y21 h) (fun _ _=>trivial))) (q00 G) G Kt ?_);intro c2 M w its H K hR;have E:=E.mono K;have J:=J.mono K;have O:=O.mono K;have u:=u.mono K;have U:=U.mono K;try dsimp only at hR
 obtain⟨rfl,rfl⟩:=hR;simp only[l09,l07] at H;refine ST (q01 Tu105 G Ts9 Dc G) G (q1d [_,_,_] H G G Ku Kf Ts9 (by first|decide|(simp;done)|(simp;omega)) Kf Kf (q00 G) ?_);intro w H;refine NQ (SQ ?_);obtain⟨bh,a4,h⟩:=bnd h;refine q0c (fun e w =>∃(ap:Bool) (M:Mem),e=[(2,ptr Z 0),(4,ptr N 0),(5,ptr a0 0),(33,Value.bool ap)]/\St w0 M0 M [.blk Z (.cells #[S [],S [],Value.slice none 0 0] 105), .blk N (.cells #[S o8] 235), .blk a0 (.cells #[S s1,S s7,Value.slice none 0 0] 105)] w/\Gv2 M/\Gv1 M/\Gv3 M/\Gv0 M/\Tabs M/\some ap=some bh) [] ?_ ?_ (trivial)
 .
  refine RG (ST (q01 Tu105 G Ts9 Dc G) G (ST (XL H Ta9) G ?_));by_cases a7:s1=[]
  .
   rw[l01 a7] at a4;refine DT a7 (q0z G G) G (MV G G (GT G G G (GT G G G (PT G G G (MV G G (q0i 3 G G (PT G G G (NL ?_))))))));exact MN ⟨_,_,G,(H.pick (L':=[.blk Z (.cells #[S [],S [],Value.slice none 0 0] 105), .blk N (.cells #[S o8] 235), .blk a0 (.cells #[S s1,S s7,Value.slice none 0 0] 105)]) Kp),E,J,O,u,U,a4⟩
  rw[l00 a7] at a4;refine DF a7 (q0z G G) G (MV G G (SG (q06 G) G G G (SG (q0w G) G G G (PF G G G (MV G G ?_)))));rcases b4 with _|_
  .
   rw[l00 l03] at a4;refine q0i 3 G G (PT G G G (NL ?_));exact MN ⟨_,_,G,(H.pick (L':=[.blk Z (.cells #[S [],S [],Value.slice none 0 0] 105), .blk N (.cells #[S o8] 235), .blk a0 (.cells #[S s1,S s7,Value.slice none 0 0] 105)]) Kp),E,J,O,u,U,a4⟩
  rw[l01 rfl] at a4;refine SG (q01 Tu105 G Ts9 Dc G) G G G (SG (XL H Ta9) G G G ?_);refine SG (q0z G G) G G G (PF G G G (NL ?_));exact MN ⟨_,_,G,(H.pick (L':=[.blk Z (.cells #[S [],S [],Value.slice none 0 0] 105), .blk N (.cells #[S o8] 235), .blk a0 (.cells #[S s1,S s7,Value.slice none 0 0] 105)]) Kp),E,J,O,u,U,a4⟩
 rintro e w ⟨ap,M,rfl,H,E,J,O,u,U,bi⟩;obtain rfl:=oI bi;refine TN ?_;refine q0a G (fun ac=>?_) (fun ac=>?_)
 .
  subst ac;rw[l01 rfl] at h;refine SR (ST (q08 H G Km Ta105 Ts105 Kf) G ?_);refine q04 [_,_,_] H G G G Ku Ts105 G Kf Kf (q00 G) ?_;intro w H;refine AR G G ?_;replace H:=H.newRowS 109 2 xenc109;obtain rfl:=oI h;exact q1J (its:=[RowS 109 2 xenc109 (Value.slice none 0 0) []]) G ⟨_,G,H.loadAgg Km Ta105 Ts105 Kf⟩ G H (by repeat(first|exact List.Sublist.refl _|apply List.Sublist.cons_cons|apply List.Sublist.cons)) ⟨_,G,G⟩
 subst ac;rw[l00 l03] at h;refine KQ (RG (AQ G G ?_));obtain⟨b3,Y,h⟩:=bnd h;refine q0c (fun e w =>∃(aq:Ls) (ar:Ls) (au:List Z00) (av:Value) (ae:Ls) (aw:List Z01) (ah:Value) (M:Mem),e=[(2,ptr Z 0),(4,ptr N 0),(5,ptr a0 0),(7,ah)]/\St w0 M0 M [.blk Z (.cells #[S aq,S ar,av] 105),RowS 109 2 xenc109 av au, .blk N (.cells #[S ae] 235), .blk a0 (.cells #[S s1,S s7,Value.slice none 0 0] 105),RowS 239 4 xenc239 ah aw] w/\Gv2 M/\Gv1 M/\Gv3 M/\Gv0 M/\Tabs M/\some (.inl (aq,ar,au,ae,aw))=some b3) [] ?_ ?_ (trivial)
 .
  refine BL ?_;replace H:=H.newRowS 239 4 xenc239;replace H:=H.newRowS 109 2 xenc109;refine q0l (fun m e w =>∃(a8:Ls) (a9:Ls) (aa:List Z00) (a5:Value) (ai:Ls) (ab:List Z01) (aj:Value) (M:Mem),e=[(2,ptr Z 0),(4,ptr N 0),(5,ptr a0 0),(7,aj)]/\St w0 M0 M [.blk Z (.cells #[S a8,S a9,a5] 105),RowS 109 2 xenc109 a5 aa, .blk N (.cells #[S ai] 235), .blk a0 (.cells #[S s1,S s7,Value.slice none 0 0] 105),RowS 239 4 xenc239 aj ab] w/\Gv2 M/\Gv1 M/\Gv3 M/\Gv0 M/\Tabs M/\Y2d s1 s7 m a8 a9 aa ai ab=some b3) FU [(2,_),(4,_),(5,_),(7,_)] ⟨rfl,rfl,rfl,rfl,trivial⟩ ⟨_,_,_,_,_,_,_,_,rfl,(H.pick (L':=[.blk Z (.cells #[S [],S [],(Value.slice none 0 0)] 105),RowS 109 2 xenc109 (Value.slice none 0 0) [], .blk N (.cells #[S o8] 235), .blk a0 (.cells #[S s1,S s7,Value.slice none 0 0] 105),RowS 239 4 xenc239 (Value.slice none 0 0) []]) Kp),E,J,O,u,U,Y⟩ ?_;rintro ax e w ⟨a8,a9,aa,a5,ai,ab,aj,M,rfl,H,E,J,O,u,U,Y⟩;rcases ax with _|ax
  . rw[Y2d] at Y;cases Y
  rw[Y2d] at Y;refine SQ (SQ ?_);obtain⟨⟨c3,b5⟩,b7,Y⟩:=bnd Y;try dsimp only at Y
  refine RM G G (XC (A:=[.blk N (.cells #[S ai] 235)]) H (Y2G b7) G trivial (q00 G) G Kt ?_);intro c4 M w its H K hR;have E:=E.mono K;have J:=J.mono K;have O:=O.mono K;have u:=u.mono K;have U:=U.mono K;try dsimp only at hR
  obtain⟨rfl,rfl⟩:=hR;simp only[l09,l07] at H;refine NT ?_;refine q0a G (fun ad=>?_) (fun ad=>?_)
  .
   subst ad;rw[l01 rfl] at Y;refine SK (TN (BL (SQ ?_)));obtain⟨⟨⟨bj,bm,bn,bo⟩,b6,bp⟩,b8,Y⟩:=bnd Y;try dsimp only at Y
   refine RM G G (XC (A:=[.blk N (.cells #[S b5] 235)]) H (Y6f b8) G ⟨E,J,O,u⟩ (q00 G) G Kt ?_);intro c5 M w its H K hR;have E:=E.mono K;have J:=J.mono K;have O:=O.mono K;have u:=u.mono K;have U:=U.mono K;try dsimp only at hR
   obtain⟨rfl,rfl⟩:=hR;simp only[l09,l07] at H;refine MV G G (ST (q05 G G) G (ST (q05 G G) G (q09 [_,_,_,_] H Tz239 G (q00 G) G ?_)));intro c6 w H;refine q04 [_,_,_,_] H G G G Ku Ts239 G Kf Kf (q00 G) ?_;intro w H;refine AQ G G (SM G G (ST (q0w G) G (NT ?_)));refine q0a G (fun a2=>?_) (fun a2=>?_)
   .
    replace a2:b6=false:=by simpa using a2
    subst a2;rw[l00 l03] at Y;refine SR (ST (q08 H G Km Ta105 Ts105 Kf) G ?_);refine q04 [_,_,_] H G G G Ku Ts105 G Kf Kf (q00 G) ?_;intro w H;refine AR G G ?_;replace H:=H.newRowS 109 2 xenc109;obtain rfl:=oI Y;try dsimp only at h
    obtain rfl:=oI h;exact q1J (its:=[RowS 109 2 xenc109 (Value.slice none 0 0) []]) G ⟨_,G,H.loadAgg Km Ta105 Ts105 Kf⟩ G H (by repeat(first|exact List.Sublist.refl _|apply List.Sublist.cons_cons|apply List.Sublist.cons)) ⟨_,G,G⟩
   replace a2:b6=true:=by simpa using a2
   subst a2;rw[l01 rfl] at Y;refine SK (TN ?_);obtain⟨bq,b2,Y⟩:=bnd Y;refine RM G G (ST (q08 H G Km Ta239 Ts239 Kf) G ?_);refine q1u (enc:=xenc239) xty237 ([(bj,bm,bn,bo)]:List Z01) H (fun _=>G) G Kr G G G (q00 G) G ?_;intro c7 M w H K b9;have E:=E.mono K;have J:=J.mono K;have O:=O.mono K;have u:=u.mono K;have U:=U.mono K;refine WR.appSC (l:=ab) xty237 G xone239 H G Ud G (b9) b2 (q00 G) G ?_;intro br w H;refine AS G G (NL (IB ?_));exact AG ax ⟨_,_,_,_,_,_,_,_,G,(H.pick (L':=[.blk Z (.cells #[S a8,S a9,a5] 105),RowS 109 2 xenc109 a5 aa, .blk N (.cells #[S bp] 235), .blk a0 (.cells #[S s1,S s7,Value.slice none 0 0] 105),RowS 239 4 xenc239 br bq]) Kp),E,J,O,u,U,Y⟩ (l0a _)
  subst ad;rw[l00 l03] at Y;refine q0j (q03 (q03 (q0b ?_)));exact MN ⟨_,_,_,_,_,_,_,_,G,(H.pick (L':=[.blk Z (.cells #[S a8,S a9,a5] 105),RowS 109 2 xenc109 a5 aa, .blk N (.cells #[S b5] 235), .blk a0 (.cells #[S s1,S s7,Value.slice none 0 0] 105),RowS 239 4 xenc239 aj ab]) Kp),E,J,O,u,U,Y⟩
 rintro e w ⟨aq,ar,au,av,ae,aw,ah,M,rfl,H,E,J,O,u,U,bs⟩;obtain rfl:=oI bs;try dsimp only at h
 refine TN (SQ ?_);obtain⟨c8,ba,h⟩:=bnd h;refine RM G G (XC (A:=[.blk N (.cells #[S ae] 235)]) H (Y37 ba) G trivial (q00 G) G Kt ?_);intro c9 M w its H K hR;have E:=E.mono K;have J:=J.mono K;have O:=O.mono K;have u:=u.mono K;have U:=U.mono K;obtain⟨rfl,rfl⟩:=hR;simp only[l09,l07] at H;refine NQ (RG (AQ G G ?_));obtain⟨⟨ak,bt⟩,bb,h⟩:=bnd h;try dsimp only at h
 refine RM G G ?_;obtain⟨M,K,bc,H⟩:=H.freezeRowS (v:=ah) (enc:=xenc239) (t:=239) Kv (fun _=>rfl);have E:=E.mono K;have J:=J.mono K;have O:=O.mono K;have u:=u.mono K;have U:=U.mono K;refine q1l H (Y7v bb) G ⟨U,bc⟩ (q00 G) G ?_;intro ca M w its H K hR;have E:=E.mono K;have J:=J.mono K;have O:=O.mono K;have u:=u.mono K;have U:=U.mono K;try dsimp only at hR
 obtain⟨V,rfl,rfl⟩:=hR;simp only[l09,l07] at H;refine MV G G (ST (q05 G G) G (ST (q05 G G) G (ST (q01 Tu105 G Ts103 Dc G) G (q0O [_,_,_] H G G (H.rowOneS Km) Ku Kf Ts103 (by first|decide|(simp;done)|(simp;omega)) (q00 G) ?_))));intro w H;refine AQ G G ?_;obtain⟨bu,a6,h⟩:=bnd h;refine q0c (fun e w =>∃(ay:Ls) (az:Ls) (al:List Z00) (am:Value) (b0:Bool) (M:Mem),e=[(2,ptr Z 0),(3,Value.bool b0)]/\St w0 M0 M [.blk Z (.cells #[S ay,S az,am] 105),RowS 109 2 xenc109 am al] w/\Gv2 M/\Gv1 M/\Gv3 M/\Gv0 M/\Tabs M/\some (ay,az,al,b0)=some bu) [] ?_ ?_ (trivial)
 .
  refine q0v (m:=11) G G H ?_;intro w H;refine TK 1 G (fun _=>q06 G) G (TK 2 G (fun _=>q06 G) G ?_);rcases bt with _|_
  .
   rw[l00 l03] at a6;refine WA.takes (fuel:=4) [3,4,5,6,7] G Kr Kr G (TK 8 G (fun _=>Ex.pickF G G) G (q0k (fuel:=0) [0,9,10] G Kr (ST (q08 H G Km Ta105 Ts105 Kf) G ?_)));refine q04 [_,_,_] H G G G Ku Ts105 G Kf (by simp only[l0i,l0u,(H.rowOneS (v:=V) Km).2];rfl) (q00 G) ?_;intro w H;refine AS G G (NA (q0f Kr ?_));exact MN ⟨_,_,_,_,_,_,G,(H.pick (L':=[.blk Z (.cells #[S s1,S s7,V] 105),RowS 109 2 xenc109 V ak]) Kp),E,J,O,u,U,a6⟩
  rw[l01 rfl] at a6;refine q0N (i:=3) G Kr Kr Kr (fun _=>q06 G) (q0h G G G) G G (fun _ _=>G) (q0N (i:=4) G Kr Kr Kr (fun _=>q0S G) (q0h G G G) G G (fun _ _=>G) (q0N (i:=5) G Kr Kr Kr (fun _=>q01 Tu235 G Ts9 Dc G) (q0h G G G) G G (fun _ _=>G) ?_));refine q0C (i:=0) (j:=6) Kr G G ?_ ?_
  .
   refine ST (q08 H G Km Ta105 Ts105 Kf) G ?_;refine NA ?_;refine q0C (i:=6) (j:=9) Kr G G ?_ ?_
   .
    refine SG (XL H Ta9) G G G ?_;refine NA (q0N (i:=7) G Kr Kr Kr (fun _=>q0z G G) (q0h G G G) G G (fun _ _=>G) (TK 8 G (fun _=>Ex.pickT G G) G (q0k (fuel:=0) [9,10] G Kr (q04 [_,_,_] H G G G Ku Ts105 G Kf (by simp only[l0i,l0u,(H.rowOneS (v:=V) Km).2];rfl) (q00 G) ?_))));intro w H;refine AS G G (NA (q0f Kr ?_));exact MN ⟨_,_,_,_,_,_,G,(H.pick (L':=[.blk Z (.cells #[S s1,S s7,V] 105),RowS 109 2 xenc109 V ak]) Kp),E,J,O,u,U,a6⟩
   refine q04 [_,_,_] H G G G Ku Ts105 G Kf (by simp only[l0i,l0u,(H.rowOneS (v:=V) Km).2];rfl) (q00 G) ?_;intro w H;refine NA (q0k (fuel:=0) [6,7,8,10] G Kr (SG (XL H Ta9) G G G ?_));refine SG (q0z G G) G G G (PT G G G (AS G G (NA (q0f Kr ?_))));exact MN ⟨_,_,_,_,_,_,G,(H.pick (L':=[.blk Z (.cells #[S s1,S s7,V] 105),RowS 109 2 xenc109 V ak]) Kp),E,J,O,u,U,a6⟩
  refine SG (XL H Ta9) G G G ?_;refine NA (q0N (i:=7) G Kr Kr Kr (fun _=>q0z G G) (q0h G G G) G G (fun _ _=>G) (TK 8 G (fun _=>Ex.pickT G G) G (q0k (fuel:=0) [0,9,10] G Kr (ST (q08 H G Km Ta105 Ts105 Kf) G ?_))));refine q04 [_,_,_] H G G G Ku Ts105 G Kf (by simp only[l0i,l0u,(H.rowOneS (v:=V) Km).2];rfl) (q00 G) ?_;intro w H;refine AS G G (NA (q0f Kr ?_));exact MN ⟨_,_,_,_,_,_,G,(H.pick (L':=[.blk Z (.cells #[S s1,S s7,V] 105),RowS 109 2 xenc109 V ak]) Kp),E,J,O,u,U,a6⟩
 rintro e w ⟨ay,az,al,am,b0,M,rfl,H,E,J,O,u,U,bv⟩;obtain rfl:=oI bv;try dsimp only at h
 refine TN (RT ?_);obtain rfl:=oI h;exact q1J (its:=[RowS 109 2 xenc109 am al]) G ⟨_,G,H.loadAgg Km Ta105 Ts105 Kf⟩ G H (by repeat(first|exact List.Sublist.refl _|apply List.Sublist.cons_cons|apply List.Sublist.cons)) ⟨_,G,G⟩
theorem Y4b {p0:Ls}{r:Bool}(h:Y3h p0=some r):Ct Tryz.prog 128 [S p0] (fun M=>True) (fun v M=>v=Value.bool r):=by
 refine Ct.of Tryz.func128 (enters Tryz.func128 Kr G) G G G ?_;intro O M0 H hp;unfold Y3h at h;refine SR (AQ G G ?_);obtain⟨U,u,h⟩:=bnd h;refine q0c (fun e w =>∃(K:Bool) (M:Mem),e=[(2,Value.bool K)]/\St O M0 M [] w/\some K=some U) [] ?_ ?_ (trivial)
 .
  by_cases E:p0=[]
  .
   rw[l01 E] at u;refine RM G G (q0B (v' := .bool false) (q1m G G) (l02 Value.bool (by rw[l0f E];rfl)) (q00 G) G G ?_);refine MV G G (q0i 3 G G (PF G G G (MV G G (GF G G G (GF G G G (PF G G G (AS G G (NL ?_))))))));exact MN ⟨_,_,G,H,u⟩
  rw[l00 E] at u;refine RM G G (q0B (v' := .bool true) (q1m G G) (l02 Value.bool (by rw[l0g E];rfl)) (q00 G) G G ?_);refine MV G G (SG (q06 G) G G G (SG (q0g Tu9 G) G G G ?_));by_cases J:(p0.length:Int)<=(60:Int)
  .
   rw[l01 J] at u;obtain⟨b6,N,u⟩:=bnd u;refine DU J (q1q G G) G G G (PT G G G (MV G G (SG (q06 G) G G G (q02 H (Y4X N) G ((fun _ _ h=>FnV.of (Y21 h) (fun _ _=>trivial))) (q0h G G G) G ?_))));intro Y M w H Z hR;obtain rfl:=hR;refine PT G G G (AS G G (NL ?_));exact MN ⟨_,_,G,H,u⟩
  rw[l00 J] at u;refine DG J (q1q G G) G G G (PT G G G (MV G G (GF G G G (GF G G G (PF G G G (AS G G (NL ?_)))))));exact MN ⟨_,_,G,H,u⟩
 rintro e w ⟨K,M,rfl,H,V⟩;obtain rfl:=oI V;refine TN (RT ?_);obtain rfl:=oI h;exact q07 G G H.ext G
theorem Y5a {p0:List Z00}{V:(Z00->Option Bool)}{K:Value}{N:Value}{r:Int}(h:Y2q p0 V=some r):Ct Tryz.prog 122 [K,N] (fun M=>SlS M 2 xenc109 K p0/\FnT153 M N V) (fun v M=>v=I r):=by
 refine Ct.of Tryz.func122 (enters Tryz.func122 Kr G) G G G ?_;intro w0 M0 H hp;obtain⟨E,J⟩:=hp;unfold Y2q at h;refine SR (AQ G G (SM G G (ST (q0L Tu103 E G) G (MV G G (NT ?_)))));obtain⟨o1,u,h⟩:=bnd h;refine q0c (fun e w =>∃  (M:Mem),e=[]/\St w0 M0 M [] w/\some (.inl ())=some o1) [] ?_ ?_ (trivial)
 .
  refine BL (q0l (fun m e w =>∃(Y:Int) (M:Mem),e=[(0,K),(1,N),(7,I (p0.length:Int)),(8,I Y)]/\St w0 M0 M [] w/\SlS M 2 xenc109 K p0/\FnT153 M N V/\Y0p p0 V m Y=some o1) FU [(0,_),(1,_),(7,_),(8,_)] ⟨rfl,rfl,rfl,rfl,trivial⟩ ⟨_,_,rfl,H,E,J,u⟩ ?_);rintro m4 e w ⟨Y,M,rfl,H,E,J,u⟩;rcases m4 with _|m4
  . rw[Y0p] at u;cases u
  rw[Y0p] at u;refine SR (ST (q0m G G) G (NQ ?_));refine CB (p:=Y<(p0.length:Int)) G (fun O=>?_) fun O=>?_
  .
   rw[l01 O] at u;refine KQ (BL (SM G G (AQ G G ?_)));obtain⟨a6,a2,u⟩:=bnd u;obtain⟨aa,ab,a3,a4⟩:=E.atC a2;obtain⟨b7,a8,u⟩:=bnd u;refine RM G G (MV G G (MV G G (ST (q0q a3 Tu103 Ts109 G G) G (ST (q0E H G a4 Ta109 Ts109 Kf) G ?_))));refine WR.callF H (J _ _ a8) G G (q00 G) G ?_;intro ac M w H a0 hR;have E:=E.mono a0;have J:=J.mono a0;obtain rfl:=hR;refine NT ?_;refine q0a G (fun U=>?_) (fun U=>?_)
   .
    subst U;rw[l01 rfl] at u;refine SM G G (AR G G ?_);obtain rfl:=oI u;try dsimp only at h
    obtain rfl:=oI h;exact q07 G G H.ext G
   subst U;rw[l00 l03] at u;refine SK (IB (TN ?_));obtain⟨ad,Z,u⟩:=bnd u;refine RG (ST (q0e G G Z) G (MV G G (NL ?_)));exact AG m4 ⟨_,_,G,H,E,J,u⟩ (l0a _)
  rw[l00 O] at u;refine q0j (q03 (q03 (q0b ?_)));exact MN ⟨_,G,H,u⟩
 rintro e w ⟨M,rfl,H,a9⟩;obtain rfl:=oI a9;try dsimp only at h
 refine TN (SR (AR G G ?_));obtain rfl:=oI h;exact q07 G G H.ext G
theorem Y4y {p0:List Z00}{J:(Z00->Option Bool)}{u:Value}{E:Value}{r:Bool}(h:Y1b p0 J=some r):Ct Tryz.prog 129 [u,E] (fun M=>SlS M 2 xenc109 u p0/\FnT153 M E J) (fun v M=>v=Value.bool r):=by
 refine Ct.of Tryz.func129 (enters Tryz.func129 Kr G) G G G ?_;intro V M0 H hp;obtain⟨K,N⟩:=hp;unfold Y1b at h;refine SR (AQ G G ?_);obtain⟨Y,O,h⟩:=bnd h;refine RM G G (MV G G (q02 H (Y5a O) G ⟨K,N⟩ (q00 G) G ?_));intro Z M w H U hR;obtain rfl:=hR;refine ST (q0Q G G) G (AR G G ?_);obtain rfl:=oI h;exact q07 G G H.ext G
theorem Y6z {p0:Z00}{E:Z00}{u:Nat}{r:Bool}(h:Y3G p0 E=some r):Ct Tryz.prog 130 [Value.agg #[S p0.1,S p0.2],ptr u 0] (fun M=>PtM M u (.cells #[S E.1,S E.2] 109)) (fun v M=>v=Value.bool r):=by
 refine Ct.of Tryz.func130 (enters Tryz.func130 Kr G) G G G ?_;intro U M0 H hp;have J:=hp;unfold Y3G at h;refine SR (q0D [_,_] H G G (q00 G) G ?_);intro N w H;refine AQ G G ?_;obtain⟨V,K,h⟩:=bnd h;refine RG (ST (q01 Tu109 G Ts9 Dc G) G (ST (XL H Ta9) G ?_));refine ST (q01 Tu109 G Ts9 Dc G) G (ST (q0n H G (J.cell (j:=0) G) Ta9) G (q02 H (Y1g K) G trivial (q00 G) G ?_));intro Y M w H O hR;obtain rfl:=hR;refine AR G G ?_;obtain rfl:=oI h;exact q07 G G H.ext G
theorem Y48 {p0:Z0i}{K:Value}{r:Z02}(h:Y2C p0=some r):Ct Tryz.prog 94 [Value.agg #[S p0.1,S p0.2.1,K]] (fun M=>Tabs M/\SlS M 2 xenc109 K p0.2.2) (fun v M=>v=Value.agg #[I r.1,I r.2]):=by
 refine Ct.of Tryz.func94 (enters Tryz.func94 Kr G) G G G ?_;intro w0 M0 H hp;obtain⟨N,E⟩:=hp;unfold Y2C at h;refine SR (q0D [_,_,_] H G G (q00 G) G ?_);intro U w H;refine q09 [_,_] H Tz28 G (q00 G) G ?_;intro O w H;refine NQ (SQ ?_);obtain⟨o1,e2,h⟩:=bnd h;refine q0c (fun e w =>∃(b3:Bool) (M:Mem),e=[(1,ptr U 0),(2,ptr O 0),(14,Value.bool b3)]/\St w0 M0 M [.blk U (.cells #[S p0.1,S p0.2.1,K] 105), .blk O (.cells #[I 0,I 0] 28)] w/\Tabs M/\SlS M 2 xenc109 K p0.2.2/\some b3=some o1) [] ?_ ?_ (trivial)
 .
  obtain⟨b4,b8,e2⟩:=bnd e2;refine RG (ST (q01 Tu105 G Ts9 Dc G) G (ST (XL H Ta9) G ?_));refine q02 H (Y4b b8) G trivial (q00 G) G ?_;intro v7 M w H J hR;have N:=N.mono J;have E:=E.mono J;obtain rfl:=hR;refine ST (q0w G) G (MV G G ?_);rcases b4 with _|_
  .
   rw[l00 l03] at e2;refine q0i 4 G G (PT G G G (NL ?_));exact MN ⟨_,_,G,(H.pick (L':=[.blk U (.cells #[S p0.1,S p0.2.1,K] 105), .blk O (.cells #[I 0,I 0] 28)]) Kp),N,E,e2⟩
  rw[l01 rfl] at e2;obtain⟨b6,b9,e2⟩:=bnd e2;refine SG (q01 Tu105 G Ts9 Dc G) G G G (SG (XL H Ta9) G G G ?_);refine q02 H (Y4b b9) G trivial (q0h G G G) G ?_;intro bi M w H J hR;have N:=N.mono J;have E:=E.mono J;obtain rfl:=hR;refine SG (q0w G) G G G (PF G G G (NL ?_));exact MN ⟨_,_,G,(H.pick (L':=[.blk U (.cells #[S p0.1,S p0.2.1,K] 105), .blk O (.cells #[I 0,I 0] 28)]) Kp),N,E,e2⟩
 rintro e w ⟨b3,M,rfl,H,N,E,q8⟩;obtain rfl:=oI q8;refine TN ?_;refine q0a G (fun ac=>?_) (fun ac=>?_)
 .
  subst ac;rw[l01 rfl] at h;refine SQ ?_;obtain⟨⟨bj,bm⟩,ar,h⟩:=bnd h;try dsimp only at h
  refine RG (q02 H (Y02 ar) G trivial (q00 G) G ?_);intro bn M w H J hR;try dsimp only at hR
  obtain rfl:=hR;refine q04 [_,_] H G G G Ku Ts28 G Kf Kf (q00 G) ?_;intro w H;refine NR ?_;obtain rfl:=oI h;exact q07 G ⟨_,G,H.loadAgg Km Ta28 Ts28 Kf⟩ H.ext G
 subst ac;rw[l00 l03] at h;refine KQ (SR (ST (q01 Tu105 G Ts103 Dc G) G (ST (XL H Ta103) G ?_)));refine ST (q0L Tu103 E G) G (ST (q0A G G) G (NT ?_));refine CB (p:=(60:Int)<(p0.2.2.length:Int)) G (fun a6=>?_) fun a6=>?_
 .
  rw[l01 a6] at h;refine SQ ?_;obtain⟨⟨bo,bp⟩,au,h⟩:=bnd h;try dsimp only at h
  refine RG (q02 H (Y02 au) G trivial (q00 G) G ?_);intro bq M w H J hR;try dsimp only at hR
  obtain rfl:=hR;refine q04 [_,_] H G G G Ku Ts28 G Kf Kf (q00 G) ?_;intro w H;refine NR ?_;obtain rfl:=oI h;exact q07 G ⟨_,G,H.loadAgg Km Ta28 Ts28 Kf⟩ H.ext G
 rw[l00 a6] at h;refine KQ (SR (ST (q01 Tu105 G Ts103 Dc G) G (ST (XL H Ta103) G ?_)));refine ST (q0L Tu103 E G) G (MV G G (NT ?_));obtain⟨an,u,h⟩:=bnd h;refine q0c (fun e w =>∃(ad:Int) (ae:Int) (M:Mem),e=[(2,ptr O 0)]/\St w0 M0 M [.blk O (.cells #[I ad,I ae] 28)] w/\Tabs M/\some (.inl (ad,ae))=some an) [] ?_ ?_ (trivial)
 .
  refine BL (q0l (fun m e w =>∃(Y:Int) (Z:Int) (a2:Int) (M:Mem),e=[(1,ptr U 0),(2,ptr O 0),(22,K),(23,I (p0.2.2.length:Int)),(24,I a2)]/\St w0 M0 M [.blk U (.cells #[S p0.1,S p0.2.1,K] 105), .blk O (.cells #[I Y,I Z] 28)] w/\Tabs M/\SlS M 2 xenc109 K p0.2.2/\Y0Y p0 m Y Z a2=some an) FU [(1,_),(2,_),(22,_),(23,_),(24,_)] ⟨rfl,rfl,rfl,rfl,rfl,trivial⟩ ⟨_,_,_,_,rfl,H,N,E,u⟩ ?_);rintro ah e w ⟨Y,Z,a2,M,rfl,H,N,E,u⟩;rcases ah with _|ah
  . rw[Y0Y] at u;cases u
  rw[Y0Y] at u;refine SR (ST (q0m G G) G (NQ ?_));refine CB (p:=a2<(p0.2.2.length:Int)) G (fun a7=>?_) fun a7=>?_
  .
   rw[l01 a7] at u;refine KQ (BL (SQ ?_));obtain⟨a0,ak,u⟩:=bnd u;obtain⟨bh,ao,av,aw⟩:=E.atC ak;refine RM G G (ST (q0q av Tu103 Ts109 G G) G (ST (q0E H G aw Ta109 Ts109 Kf) G ?_));refine q09 [_,_] H Tz109 G (q00 G) G ?_;intro a3 w H;refine AS G G (q04 [_,_] H G G G Ku Ts109 G Kf Kf (q00 G) ?_);intro w H;refine NT (BL (SQ ?_));obtain⟨ao,a4,u⟩:=bnd u;refine q0c (fun e w =>∃(ai:Bool) (M:Mem),e=[(1,ptr U 0),(2,ptr O 0),(3,I a2),(4,ptr a3 0),(22,K),(23,I (p0.2.2.length:Int)),(24,I a2),(29,Value.bool ai)]/\St w0 M0 M [.blk U (.cells #[S p0.1,S p0.2.1,K] 105), .blk O (.cells #[I Y,I Z] 28), .blk a3 (.cells #[S a0.1,S a0.2] 109)] w/\Tabs M/\SlS M 2 xenc109 K p0.2.2/\some ai=some ao) [] ?_ ?_ (trivial)
   .
    obtain⟨ba,ax,a4⟩:=bnd a4;refine RG (ST (q01 Tu109 G Ts9 Dc G) G (ST (XL H Ta9) G ?_));refine q02 H (Y4b ax) G trivial (q00 G) G ?_;intro br M w H J hR;have N:=N.mono J;have E:=E.mono J;obtain rfl:=hR;refine ST (q0w G) G (MV G G ?_);rcases ba with _|_
    .
     rw[l00 l03] at a4;refine q0i 4 G G (PT G G G (AS G G (NL ?_)));exact MN ⟨_,_,G,(H.pick (L':=[.blk U (.cells #[S p0.1,S p0.2.1,K] 105), .blk O (.cells #[I Y,I Z] 28), .blk a3 (.cells #[S a0.1,S a0.2] 109)]) Kp),N,E,a4⟩
    rw[l01 rfl] at a4;refine SG (q01 Tu109 G Ts9 Dc G) G G G (SG (XL H Ta9) G G G ?_);refine SG (q0g Tu9 G) G G G (SG (q0A G G) G G G (PF G G G (AS G G (NL ?_))));exact MN ⟨_,_,G,(H.pick (L':=[.blk U (.cells #[S p0.1,S p0.2.1,K] 105), .blk O (.cells #[I Y,I Z] 28), .blk a3 (.cells #[S a0.1,S a0.2] 109)]) Kp),N,E,a4⟩
   rintro e w ⟨ai,M,rfl,H,N,E,bb⟩;obtain rfl:=oI bb;refine TN ?_;refine q0a G (fun a8=>?_) (fun a8=>?_)
   .
    subst a8;rw[l01 rfl] at u;refine SQ ?_;obtain⟨⟨bs,bt⟩,ay,u⟩:=bnd u;try dsimp only at u
    refine RM G G (q02 H (Y02 ay) G trivial (q00 G) G ?_);intro bu M w H J hR;try dsimp only at hR
    obtain rfl:=hR;refine q04 [_,_] H G G G Ku Ts28 G Kf Kf (q00 G) ?_;intro w H;refine NR ?_;obtain rfl:=oI u;try dsimp only at h
    obtain rfl:=oI h;exact q07 G ⟨_,G,H.loadAgg Km Ta28 Ts28 Kf⟩ H.ext G
   subst a8;rw[l00 l03] at u;refine SQ ?_;obtain⟨bv,al,u⟩:=bnd u;obtain⟨bw,az,u⟩:=bnd u;refine RG (ST (q01 Tu105 G Ts103 Dc G) G (ST (XL H Ta103) G ?_));refine MV G G (WR.sliceSSH Tu103 Ts109 (E) G G al (q00 G) G ?_);intro bx a9;obtain⟨M,J,a1,H⟩:=H.freezeVar (b:=a3) Kv;have N:=N.mono J;have E:=E.mono J;have a9:=a9.mono J;refine ST (q1t G) G (q02 H (Y4y az) G ⟨a9,(fun _ _ h=>FnV.ofCap [ptr a3 0] (Y6z h) (fun _ hm=>a1.mono hm))⟩ (q00 G) G ?_);intro bz M w H J hR;have N:=N.mono J;have E:=E.mono J;have a1:=a1.mono J;obtain rfl:=hR;refine AN G G ?_;refine q0a G (fun aa=>?_) (fun aa=>?_)
   .
    subst aa;rw[l01 rfl] at u;refine SQ ?_;obtain⟨⟨c0,c1⟩,b0,u⟩:=bnd u;try dsimp only at u
    refine RM G G (q02 H (Y02 b0) G trivial (q00 G) G ?_);intro c2 M w H J hR;try dsimp only at hR
    obtain rfl:=hR;refine q04 [_,_] H G G G Ku Ts28 G Kf Kf (q00 G) ?_;intro w H;refine NR ?_;obtain rfl:=oI u;try dsimp only at h
    obtain rfl:=oI h;exact q07 G ⟨_,G,H.loadAgg Km Ta28 Ts28 Kf⟩ H.ext G
   subst aa;rw[l00 l03] at u;refine SR (ST (q01 Tu109 G Ts9 Dc G) G (ST (q0n H G (a1.cell (j:=1) G) Ta9) G (ST (q0g Tu9 G) G (ST (q0A G G) G (AN G G ?_)))));refine CB (p:=(500:Int)<(a0.2.length:Int)) G (fun ab=>?_) fun ab=>?_
   .
    rw[l01 ab] at u;refine SQ ?_;obtain⟨⟨c3,c4⟩,b1,u⟩:=bnd u;try dsimp only at u
    refine RM G G (q02 H (Y02 b1) G trivial (q00 G) G ?_);intro c5 M w H J hR;try dsimp only at hR
    obtain rfl:=hR;refine q04 [_,_] H G G G Ku Ts28 G Kf Kf (q00 G) ?_;intro w H;refine NR ?_;obtain rfl:=oI u;try dsimp only at h
    obtain rfl:=oI h;exact q07 G ⟨_,G,H.loadAgg Km Ta28 Ts28 Kf⟩ H.ext G
   rw[l00 ab] at u;refine SQ ?_;obtain⟨ap,b2,u⟩:=bnd u;refine RG (ST (q01 Tu109 G Ts9 Dc G) G (ST (q0n H G (a1.cell (j:=1) G) Ta9) G (q02 H (Y6w b2) G (N) (q00 G) G ?_)));intro c6 M w H J hR;have N:=N.mono J;have E:=E.mono J;obtain rfl:=hR;refine ST (q0w G) G (AN G G ?_);refine q0a G (fun V=>?_) (fun V=>?_)
   .
    replace V:ap=false:=by simpa using V
    subst V;rw[l00 l03] at u;refine SQ ?_;obtain⟨⟨c7,c8⟩,b5,u⟩:=bnd u;try dsimp only at u
    refine RM G G (q02 H (Y02 b5) G trivial (q00 G) G ?_);intro c9 M w H J hR;try dsimp only at hR
    obtain rfl:=hR;refine q04 [_,_] H G G G Ku Ts28 G Kf Kf (q00 G) ?_;intro w H;refine NR ?_;obtain rfl:=oI u;try dsimp only at h
    obtain rfl:=oI h;exact q07 G ⟨_,G,H.loadAgg Km Ta28 Ts28 Kf⟩ H.ext G
   replace V:ap=true:=by simpa using V
   subst V;rw[l01 rfl] at u;refine SK (IB (IB (TN ?_)));obtain⟨ca,am,u⟩:=bnd u;refine RG (ST (q0e G G am) G (MV G G (NL ?_)));exact AG ah ⟨_,_,_,_,G,H,N,E,u⟩ (l0a _)
  rw[l00 a7] at u;refine q0j (q03 (q03 (q0b ?_)));exact MN ⟨_,_,_,G,(H.pick (L':=[.blk O (.cells #[I Y,I Z] 28)]) Kp),N,u⟩
 rintro e w ⟨ad,ae,M,rfl,H,N,bc⟩;obtain rfl:=oI bc;try dsimp only at h
 refine TN (SQ ?_);obtain⟨⟨cb,cc⟩,b7,h⟩:=bnd h;try dsimp only at h
 refine RG (q02 H (Y07 b7) G trivial (q00 G) G ?_);intro cd M w H J hR;try dsimp only at hR
 obtain rfl:=hR;refine q04 [_,_] H G G G Ku Ts28 G Kf Kf (q00 G) ?_;intro w H;refine NR ?_;obtain rfl:=oI h;exact q07 G ⟨_,G,H.loadAgg Km Ta28 Ts28 Kf⟩ H.ext G
theorem Y86 {p0:Ls}{r:(Z0i × Z02)}(h:Y4G p0=some r):CtO Tryz.prog 93 [S p0] (fun M=>Gv2 M/\Gv1 M/\Gv3 M/\Gv0 M/\Tabs M) (fun v M its =>∃a1,v=Value.tuple #[Value.agg #[S r.1.1,S r.1.2.1,a1],Value.agg #[I r.2.1,I r.2.2]]/\its=[RowS 109 2 xenc109 a1 r.1.2.2]):=by
 refine CtO.of Tryz.func93 (enters Tryz.func93 Kr G) G G G ?_;intro w0 M0 H hp;obtain⟨E,J,V,u,O⟩:=hp;unfold Y4G at h;refine SR (q09 [_,_,_] H Tz105 G (q00 G) G ?_);intro Z w H;refine q09 [_,_] H Tz28 G (q00 G) G ?_;intro a0 w H;refine NQ (SM G G (ST (q0g Tu9 G) G (ST (q0A G G) G (NT ?_))));refine CB (p:=(4000:Int)<(p0.length:Int)) G (fun a2=>?_) fun a2=>?_
 .
  rw[l01 a2] at h;refine SQ ?_;obtain⟨⟨n2,n3⟩,ae,h⟩:=bnd h;try dsimp only at h
  refine RG (ST (q0t [S [],S [],Value.slice none 0 0] Tu105 Tz105 (xplaces105 Tu105) G G) G (q02 H (Y02 ae) G trivial (q00 G) G ?_));intro al M w H K hR;try dsimp only at hR
  obtain rfl:=hR;refine q04 [_,_,_] H G G G Ku Ts105 G Kf Kf (q00 G) ?_;intro w H;refine q04 [_,_] H G G G Ku Ts28 G Kf Kf (q00 G) ?_;intro w H;refine NR ?_;replace H:=H.newRowS 109 2 xenc109;obtain rfl:=oI h;exact q1J (its:=[RowS 109 2 xenc109 (Value.slice none 0 0) []]) G ⟨_,G,H.loadAgg Km Ta105 Ts105 Kf⟩ ⟨_,G,H.loadAgg Km Ta28 Ts28 Kf⟩ H (by repeat(first|exact List.Sublist.refl _|apply List.Sublist.cons_cons|apply List.Sublist.cons)) ⟨_,G,G⟩
 rw[l00 a2] at h;refine KQ ?_;obtain⟨⟨⟨s6,s7,l8⟩,b9⟩,a9,h⟩:=bnd h;try dsimp only at h
 refine RM G G (q1l H (Y85 a9) G ⟨E,J,V,u,O⟩ (q00 G) G ?_);intro am M w its H K hR;have E:=E.mono K;have J:=J.mono K;have V:=V.mono K;have u:=u.mono K;have O:=O.mono K;try dsimp only at hR
 obtain⟨N,rfl,rfl⟩:=hR;simp only[l09,l07] at H;refine MV G G (ST (q05 G G) G (ST (q05 G G) G (q09 [_,_,_] H Tz105 G (q00 G) G ?_)));intro an w H;refine q04 [_,_,_] H G G G Ku Ts105 G Kf (by simp only[l0i,l0u,(H.rowOneS (v:=N) Km).2];rfl) (q00 G) ?_;intro w H;refine AQ G G (SM G G (ST (q0w G) G (NT ?_)));refine q0a G (fun U=>?_) (fun U=>?_)
 .
  replace U:b9=false:=by simpa using U
  subst U;rw[l00 l03] at h;refine SQ ?_;obtain⟨⟨ao,ap⟩,aa,h⟩:=bnd h;try dsimp only at h
  refine RG (ST (q0t [S [],S [],Value.slice none 0 0] Tu105 Tz105 (xplaces105 Tu105) G G) G (q02 H (Y02 aa) G trivial (q00 G) G ?_));intro aq M w H K hR;try dsimp only at hR
  obtain rfl:=hR;refine q04 [_,_,_] H G G G Ku Ts105 G Kf Kf (q00 G) ?_;intro w H;refine q04 [_,_] H G G G Ku Ts28 G Kf Kf (q00 G) ?_;intro w H;refine NR ?_;replace H:=H.newRowS 109 2 xenc109;obtain rfl:=oI h;exact q1J (its:=[RowS 109 2 xenc109 (Value.slice none 0 0) []]) G ⟨_,G,H.loadAgg Km Ta105 Ts105 Kf⟩ ⟨_,G,H.loadAgg Km Ta28 Ts28 Kf⟩ H (by repeat(first|exact List.Sublist.refl _|apply List.Sublist.cons_cons|apply List.Sublist.cons)) ⟨_,G,G⟩
 replace U:b9=true:=by simpa using U
 subst U;rw[l01 rfl] at h;refine KQ (SQ ?_);obtain⟨⟨ar,au⟩,ab,h⟩:=bnd h;try dsimp only at h
 refine RG (ST (q08 H G Km Ta105 Ts105 Kf) G ?_);refine WR.callLendS (l:=l8) (enc:=xenc109) (t:=109) H Km (fun _=>G) (Y48 ab) (fun _ _ _ h=>h) G (fun _ ai hbor=>⟨(O).mono ai,hbor⟩) (q00 G) G ?_;intro av M w H K hR;have E:=E.mono K;have J:=J.mono K;have V:=V.mono K;have u:=u.mono K;have O:=O.mono K;try dsimp only at hR
 obtain rfl:=hR;refine q09 [_,_] H Tz28 G (q00 G) G ?_;intro aw w H;refine q04 [_,_] H G G G Ku Ts28 G Kf Kf (q00 G) ?_;intro w H;refine NQ ?_;obtain⟨ax,ac,h⟩:=bnd h;refine RG (ST (q08 H G Km Ta28 Ts28 Kf) G ?_);refine q02 H (Y06 ac) G trivial (q00 G) G ?_;intro ay M w H K hR;have E:=E.mono K;have J:=J.mono K;have V:=V.mono K;have u:=u.mono K;have O:=O.mono K;obtain rfl:=hR;refine NT ?_;refine q0a G (fun Y=>?_) (fun Y=>?_)
 .
  subst Y;rw[l01 rfl] at h;refine SQ ?_;obtain⟨⟨az,b0⟩,ad,h⟩:=bnd h;try dsimp only at h
  refine RG (ST (q0t [S [],S [],Value.slice none 0 0] Tu105 Tz105 (xplaces105 Tu105) G G) G (ST (q01 Tu28 G Ts3 Dc G) G (ST (XL H Ta3) G ?_)));refine q02 H (Y02 ad) G trivial (q00 G) G ?_;intro b1 M w H K hR;try dsimp only at hR
  obtain rfl:=hR;refine q04 [_,_,_] H G G G Ku Ts105 G Kf Kf (q00 G) ?_;intro w H;refine q04 [_,_] H G G G Ku Ts28 G Kf Kf (q00 G) ?_;intro w H;refine NR ?_;replace H:=H.newRowS 109 2 xenc109;obtain rfl:=oI h;exact q1J (its:=[RowS 109 2 xenc109 (Value.slice none 0 0) []]) G ⟨_,G,H.loadAgg Km Ta105 Ts105 Kf⟩ ⟨_,G,H.loadAgg Km Ta28 Ts28 Kf⟩ H (by repeat(first|exact List.Sublist.refl _|apply List.Sublist.cons_cons|apply List.Sublist.cons)) ⟨_,G,G⟩
 subst Y;rw[l00 l03] at h;refine KQ ?_;obtain⟨⟨a4,a5⟩,a6,h⟩:=bnd h;try dsimp only at h
 refine q0V (fun e w =>∃  (M:Mem),e=[(2,ptr Z 0),(3,ptr a0 0)]/\St w0 M0 M [.blk Z (.cells #[S s6,S s7,N] 105),RowS 109 2 xenc109 N l8, .blk a0 (.cells #[I a4,I a5] 28)] w/\Gv2 M/\Gv1 M/\Gv3 M/\Gv0 M/\Tabs M) ?_ ?_
 .
  refine q0v (m:=4) G G H ?_;intro w H;refine q0C (i:=0) (j:=1) Kr G G ?_ ?_
  .
   refine ST (q08 H G Km Ta105 Ts105 Kf) G ?_;refine NA (q0k (fuel:=0) [1,2,3] G Kr (q02 H (Y07 a6) G trivial (q00 G) G ?_));intro aj M w H K hR;have E:=E.mono K;have J:=J.mono K;have V:=V.mono K;have u:=u.mono K;have O:=O.mono K;try dsimp only at hR
   obtain rfl:=hR;refine q04 [_,_,_] H G G G Ku Ts105 G Kf (by simp only[l0i,l0u,(H.rowOneS (v:=N) Km).2];rfl) (q00 G) ?_;intro w H;refine q04 [_,_] H G G G Ku Ts28 G Kf Kf (q00 G) ?_;intro w H;refine NA (q0f Kr ?_);exact MP ⟨_,G,(H.pick (L':=[.blk Z (.cells #[S s6,S s7,N] 105),RowS 109 2 xenc109 N l8, .blk a0 (.cells #[I a4,I a5] 28)]) Kp),E,J,V,u,O⟩
  refine q02 H (Y07 a6) G trivial (q00 G) G ?_;intro aj M w H K hR;have E:=E.mono K;have J:=J.mono K;have V:=V.mono K;have u:=u.mono K;have O:=O.mono K;try dsimp only at hR
  obtain rfl:=hR;refine NA (q0k (fuel:=0) [0,2,3] G Kr (ST (q08 H G Km Ta105 Ts105 Kf) G ?_));refine q04 [_,_,_] H G G G Ku Ts105 G Kf (by simp only[l0i,l0u,(H.rowOneS (v:=N) Km).2];rfl) (q00 G) ?_;intro w H;refine q04 [_,_] H G G G Ku Ts28 G Kf Kf (q00 G) ?_;intro w H;refine NA (q0f Kr ?_);exact MP ⟨_,G,(H.pick (L':=[.blk Z (.cells #[S s6,S s7,N] 105),RowS 109 2 xenc109 N l8, .blk a0 (.cells #[I a4,I a5] 28)]) Kp),E,J,V,u,O⟩
 rintro e w ⟨M,rfl,H,E,J,V,u,O⟩;refine TN (RT ?_);obtain rfl:=oI h;exact q1J (its:=[RowS 109 2 xenc109 N l8]) G ⟨_,G,H.loadAgg Km Ta105 Ts105 Kf⟩ ⟨_,G,H.loadAgg Km Ta28 Ts28 Kf⟩ H (by repeat(first|exact List.Sublist.refl _|apply List.Sublist.cons_cons|apply List.Sublist.cons)) ⟨_,G,G⟩
theorem Y4z {p0:List Z00}{a0:Value}{r:Z0s}(h:Y3O p0=some r):CtO Tryz.prog 54 [a0] (fun M=>Gv2 M/\Gv1 M/\Gv3 M/\Gv0 M/\Tabs M/\SlS M 2 xenc46 a0 p0) (fun v M its =>∃ac,v=Value.tuple #[Value.agg #[S r.1.1,S r.1.2.1,ac],I r.2.1,Value.bool r.2.2]/\its=[RowS 109 2 xenc109 ac r.1.2.2]):=by
 refine CtO.of Tryz.func54 (enters Tryz.func54 Kr G) G G G ?_;intro w0 M0 H hp;obtain⟨E,J,U,u,V,Y⟩:=hp;unfold Y3O at h;refine SR (q09 [_,_,_] H Tz105 G (q00 G) G ?_);intro Z w H;refine AS G G (AQ G G (RG (AQ G G (SM G G (ST (q0L Tu22 Y G) G (MV G G (NT ?_)))))));obtain⟨o1,O,h⟩:=bnd h;refine q0c (fun e w =>∃(s3:Ls) (s4:Ls) (l6:List Z00) (v7:Value) (n8:Int) (M:Mem),e=[(0,a0),(2,ptr Z 0),(5,I n8)]/\St w0 M0 M [.blk Z (.cells #[S s3,S s4,v7] 105),RowS 109 2 xenc109 v7 l6] w/\Gv2 M/\Gv1 M/\Gv3 M/\Gv0 M/\Tabs M/\SlS M 2 xenc46 a0 p0/\some (.inl (s3,s4,l6,n8))=some o1) [] ?_ ?_ (trivial)
 .
  refine BL ?_;replace H:=H.newRowS 109 2 xenc109;refine q0l (fun m e w =>∃(s9:Ls) (a2:Ls) (a3:List Z00) (a1:Value) (a8:Int) (a9:Int) (M:Mem),e=[(0,a0),(2,ptr Z 0),(5,I a8),(10,a0),(11,I (p0.length:Int)),(12,I a9)]/\St w0 M0 M [.blk Z (.cells #[S s9,S a2,a1] 105),RowS 109 2 xenc109 a1 a3] w/\Gv2 M/\Gv1 M/\Gv3 M/\Gv0 M/\Tabs M/\SlS M 2 xenc46 a0 p0/\Y2a p0 m s9 a2 a3 a8 a9=some o1) FU [(0,_),(2,_),(5,_),(10,_),(11,_),(12,_)] ⟨rfl,rfl,rfl,rfl,rfl,rfl,trivial⟩ ⟨_,_,_,_,_,_,_,rfl,(H.pick (L':=[.blk Z (.cells #[S [],S [],(Value.slice none 0 0)] 105),RowS 109 2 xenc109 (Value.slice none 0 0) []]) Kp),E,J,U,u,V,Y,O⟩ ?_;rintro aa e w ⟨s9,a2,a3,a1,a8,a9,M,rfl,H,E,J,U,u,V,Y,O⟩;rcases aa with _|aa
  . rw[Y2a] at O;cases O
  rw[Y2a] at O;refine SR (ST (q0m G G) G (NQ ?_));refine CB (p:=a9<(p0.length:Int)) G (fun a4=>?_) fun a4=>?_
  .
   rw[l01 a4] at O;refine KQ (BL (SQ ?_));obtain⟨b7,ak,O⟩:=bnd O;obtain⟨b5,b8,av,aw⟩:=Y.atC ak;refine RM G G (ST (q0q av Tu22 Ts46 G G) G (ST (q0E H G aw Ta46 Ts46 Kf) G ?_));refine q09 [_,_] H Tz46 G (q00 G) G ?_;intro b9 w H;refine AS G G (q04 [_,_] H G G G Ku Ts46 G Kf Kf (q00 G) ?_);intro w H;refine NQ ?_;obtain⟨ba,ax,O⟩:=bnd O;refine RG (ST (q01 Tu46 G Ts9 Dc G) G (ST (XL H Ta9) G ?_));refine q02 H (Y1g ax) G trivial (q00 G) G ?_;intro bb M w H N hR;have E:=E.mono N;have J:=J.mono N;have U:=U.mono N;have u:=u.mono N;have V:=V.mono N;have Y:=Y.mono N;obtain rfl:=hR;refine NT ?_;refine q0a G (fun a5=>?_) (fun a5=>?_)
   .
    subst a5;rw[l01 rfl] at O;refine SQ (SM G G (ST (q0Q G G) G (NT ?_)));refine CB (p:=(0:Int)<=a8) G (fun a6=>?_) fun a6=>?_
    .
     rw[l01 a6] at O;refine SR (ST (q0t [S [],S [],Value.slice none 0 0] Tu105 Tz105 (xplaces105 Tu105) G G) G (q04 [_,_,_] H G G G Ku Ts105 G Kf Kf (q00 G) ?_));intro w H;refine AS G G (AR G G ?_);replace H:=H.newRowS 109 2 xenc109;obtain rfl:=oI O;try dsimp only at h
     obtain rfl:=oI h;exact WQ.ret3O (its:=[RowS 109 2 xenc109 (Value.slice none 0 0) []]) G ⟨_,G,H.loadAgg Km Ta105 Ts105 Kf⟩ G G H (by repeat(first|exact List.Sublist.refl _|apply List.Sublist.cons_cons|apply List.Sublist.cons)) ⟨_,G,G⟩
    rw[l00 a6] at O;refine SK (TN (RM G G (AS G G (NL (IB (TN ?_))))));obtain⟨bc,al,O⟩:=bnd O;refine RG (ST (q0e G G al) G (MV G G (NL ?_)));exact AG aa ⟨_,_,_,_,_,_,_,G,(H.pick (L':=[.blk Z (.cells #[S s9,S a2,a1] 105),RowS 109 2 xenc109 a1 a3]) Kp),E,J,U,u,V,Y,O⟩ (l0a _)
   subst a5;rw[l00 l03] at O;refine SK (IB (TN ?_));obtain⟨bd,am,O⟩:=bnd O;refine RG (ST (q0e G G am) G (MV G G (NL ?_)));exact AG aa ⟨_,_,_,_,_,_,_,G,(H.pick (L':=[.blk Z (.cells #[S s9,S a2,a1] 105),RowS 109 2 xenc109 a1 a3]) Kp),E,J,U,u,V,Y,O⟩ (l0a _)
  rw[l00 a4] at O;refine q0j (q03 (q03 (q0b ?_)));exact MN ⟨_,_,_,_,_,_,G,H,E,J,U,u,V,Y,O⟩
 rintro e w ⟨s3,s4,l6,v7,n8,M,rfl,H,E,J,U,u,V,Y,b2⟩;obtain rfl:=oI b2;try dsimp only at h
 refine TN (SQ (SM G G (ST (q0m G G) G (NT ?_))));refine CB (p:=n8<(0:Int)) G (fun a7=>?_) fun a7=>?_
 .
  rw[l01 a7] at h;refine SR (ST (q0t [S [],S [],Value.slice none 0 0] Tu105 Tz105 (xplaces105 Tu105) G G) G (q04 [_,_,_] H G G G Ku Ts105 G Kf Kf (q00 G) ?_));intro w H;refine AS G G (AR G G ?_);replace H:=H.newRowS 109 2 xenc109;obtain rfl:=oI h;exact WQ.ret3O (its:=[RowS 109 2 xenc109 (Value.slice none 0 0) []]) G ⟨_,G,H.loadAgg Km Ta105 Ts105 Kf⟩ G G H (by repeat(first|exact List.Sublist.refl _|apply List.Sublist.cons_cons|apply List.Sublist.cons)) ⟨_,G,G⟩
 rw[l00 a7] at h;refine KQ ?_;obtain⟨be,an,h⟩:=bnd h;obtain⟨b6,bg,ay,az⟩:=Y.atC an;obtain⟨⟨⟨ah,ai,ab⟩,⟨bh,bi⟩⟩,b0,h⟩:=bnd h;try dsimp only at h
 refine RM G G (MV G G (ST (q0q ay Tu22 Ts46 G G) G (ST (q01 Tu46 G Ts9 Dc G) G (ST (q0n H G (az.at (j:=1) G) Ta9) G (q1l H (Y86 b0) G ⟨E,J,U,u,V⟩ (q00 G) G ?_)))));intro bj M w its H N hR;have E:=E.mono N;have J:=J.mono N;have U:=U.mono N;have u:=u.mono N;have V:=V.mono N;try dsimp only at hR
 obtain⟨K,rfl,rfl⟩:=hR;simp only[l09,l07] at H;refine MV G G (ST (q05 G G) G (ST (q05 G G) G (q09 [_,_,_] H Tz105 G (q00 G) G ?_)));intro bm w H;refine q09 [_,_] H Tz28 G (q00 G) G ?_;intro bn w H;refine q04 [_,_,_] H G G G Ku Ts105 G Kf (by simp only[l0i,l0u,(H.rowOneS (v:=K) Km).2];rfl) (q00 G) ?_;intro w H;refine q04 [_,_] H G G G Ku Ts28 G Kf Kf (q00 G) ?_;intro w H;refine NQ ?_;obtain⟨b3,aj,h⟩:=bnd h;refine q0V (fun e w =>∃  (M:Mem),e=[(2,ptr Z 0),(3,I n8),(4,Value.bool (!b3))]/\St w0 M0 M [.blk Z (.cells #[S ah,S ai,K] 105),RowS 109 2 xenc109 K ab] w/\Gv2 M/\Gv1 M/\Gv3 M/\Gv0 M/\Tabs M) ?_ ?_
 .
  refine q0v (m:=8) G G H ?_;intro w H;refine TK 1 G (fun _=>q06 G) G (q1i (i:=2) [0] G Kr Kr Kr (q08 H G Km Ta28 Ts28 Kf) (q00 G) G G (fun _ _=>G) ?_);refine q0C (i:=0) (j:=3) Kr G G ?_ ?_
  .
   refine ST (q08 H G Km Ta105 Ts105 Kf) G ?_;refine NA (ON 3 Kr G (q02 H (Y06 aj) G trivial (q00 G) G ?_));intro b4 M w H N hR;have E:=E.mono N;have J:=J.mono N;have U:=U.mono N;have u:=u.mono N;have V:=V.mono N;obtain rfl:=hR;refine NA (TK 4 G (fun _=>q0w G) G (q0k (fuel:=0) [5,6,7] G Kr (q04 [_,_,_] H G G G Ku Ts105 G Kf (by simp only[l0i,l0u,(H.rowOneS (v:=K) Km).2];rfl) (q00 G) ?_)));intro w H;refine AS G G (AS G G (NA (q0f Kr ?_)));exact MP ⟨_,G,(H.pick (L':=[.blk Z (.cells #[S ah,S ai,K] 105),RowS 109 2 xenc109 K ab]) Kp),E,J,U,u,V⟩
  refine q02 H (Y06 aj) G trivial (q00 G) G ?_;intro b4 M w H N hR;have E:=E.mono N;have J:=J.mono N;have U:=U.mono N;have u:=u.mono N;have V:=V.mono N;obtain rfl:=hR;refine NA (TK 4 G (fun _=>q0w G) G (q0k (fuel:=0) [0,5,6,7] G Kr (ST (q08 H G Km Ta105 Ts105 Kf) G ?_)));refine q04 [_,_,_] H G G G Ku Ts105 G Kf (by simp only[l0i,l0u,(H.rowOneS (v:=K) Km).2];rfl) (q00 G) ?_;intro w H;refine AS G G (AS G G (NA (q0f Kr ?_)));exact MP ⟨_,G,(H.pick (L':=[.blk Z (.cells #[S ah,S ai,K] 105),RowS 109 2 xenc109 K ab]) Kp),E,J,U,u,V⟩
 rintro e w ⟨M,rfl,H,E,J,U,u,V⟩;refine TN (RT ?_);obtain rfl:=oI h;exact WQ.ret3O (its:=[RowS 109 2 xenc109 K ab]) G ⟨_,G,H.loadAgg Km Ta105 Ts105 Kf⟩ G G H (by repeat(first|exact List.Sublist.refl _|apply List.Sublist.cons_cons|apply List.Sublist.cons)) ⟨_,G,G⟩
theorem Y6q {p0:Z0i}{p1:Ls}{O:Value}{r:Z0o}(h:Y45 p0 p1=some r):Ct Tryz.prog 118 [Value.agg #[S p0.1,S p0.2.1,O],S p1] (fun M=>Tabs M/\SlS M 2 xenc109 O p0.2.2) (fun v M=>v=Value.tuple #[S r.1,Value.bool r.2.1,Value.agg #[I r.2.2.1,I r.2.2.2]]):=by
 refine Ct.of Tryz.func118 (enters Tryz.func118 Kr G) G G G ?_;intro w0 M0 H hp;obtain⟨K,u⟩:=hp;unfold Y45 at h;refine SR (q0D [_,_,_] H G G (q00 G) G ?_);intro ap w H;refine AS G G (AS G G (q09 [_,_] H Tz28 G (q00 G) G ?_));intro N w H;refine NQ (SQ ?_);obtain⟨⟨n1,n2⟩,ai,h⟩:=bnd h;try dsimp only at h
 refine RG (ST (q08 H G Km Ta105 Ts105 Kf) G ?_);refine q02 H (Y48 ai) G ⟨K,u⟩ (q00 G) G ?_;intro aq M w H J hR;have K:=K.mono J;have u:=u.mono J;try dsimp only at hR
 obtain rfl:=hR;refine q09 [_,_] H Tz28 G (q00 G) G ?_;intro ar w H;refine q04 [_,_] H G G G Ku Ts28 G Kf Kf (q00 G) ?_;intro w H;refine NQ ?_;obtain⟨b4,aj,h⟩:=bnd h;refine RG (ST (q08 H G Km Ta28 Ts28 Kf) G ?_);refine q02 H (Y06 aj) G trivial (q00 G) G ?_;intro au M w H J hR;have K:=K.mono J;have u:=u.mono J;obtain rfl:=hR;refine NT ?_;refine q0a G (fun a1=>?_) (fun a1=>?_)
 .
  subst a1;rw[l01 rfl] at h;refine SQ (q0v (m:=4) G G H ?_);intro w H;refine TK 1 G (fun _=>q1v G) G (TK 2 G (fun _=>q1v G) G (q0k (fuel:=0) [0,3] G Kr (ST (q08 H G Km Ta28 Ts28 Kf) G ?_)));refine q04 [_,_] H G G G Ku Ts28 G Kf Kf (q00 G) ?_;intro w H;refine NA (q0f Kr (TN (RT ?_)));obtain rfl:=oI h;exact WQ.ret3 G G G ⟨_,G,H.loadAgg Km Ta28 Ts28 Kf⟩ H.ext G
 subst a1;rw[l00 l03] at h;refine KQ (SR (ST (q01 Tu105 G Ts103 Dc G) G (ST (XL H Ta103) G ?_)));refine ST (q0L Tu103 u G) G (MV G G (NT ?_));obtain⟨o7,E,h⟩:=bnd h;refine q0c (fun e w =>∃(n9:Int) (a2:Int) (M:Mem),e=[(6,ptr N 0)]/\St w0 M0 M [.blk N (.cells #[I n9,I a2] 28)] w/\Tabs M/\some (.inl (n9,a2))=some o7) [] ?_ ?_ (trivial)
 .
  refine BL ?_;refine q0l (fun m e w =>∃(Y:Int) (Z:Int) (a0:Int) (M:Mem),e=[(1,S p1),(6,ptr N 0),(16,O),(17,I (p0.2.2.length:Int)),(18,I a0)]/\St w0 M0 M [.blk N (.cells #[I Y,I Z] 28)] w/\Tabs M/\SlS M 2 xenc109 O p0.2.2/\Y2e p0 p1 m Y Z a0=some o7) FU [(1,_),(6,_),(16,_),(17,_),(18,_)] ⟨rfl,rfl,rfl,rfl,rfl,trivial⟩ ⟨_,_,_,_,rfl,(H.pick (L':=[.blk N (.cells #[I 0,I 0] 28)]) Kp),K,u,E⟩ ?_;rintro a3 e w ⟨Y,Z,a0,M,rfl,H,K,u,E⟩;rcases a3 with _|a3
  . rw[Y2e] at E;cases E
  rw[Y2e] at E;refine SR (ST (q0m G G) G (NQ ?_));refine CB (p:=a0<(p0.2.2.length:Int)) G (fun U=>?_) fun U=>?_
  .
   rw[l01 U] at E;refine KQ (BL (SQ ?_));obtain⟨al,a8,E⟩:=bnd E;obtain⟨ao,av,ac,ad⟩:=u.atC a8;refine RG (ST (q0q ac Tu103 Ts109 G G) G (ST (q0E H G ad Ta109 Ts109 Kf) G ?_));refine q09 [_,_] H Tz109 G (q00 G) G ?_;intro aw w H;refine q04 [_,_] H G G G Ku Ts109 G Kf Kf (q00 G) ?_;intro w H;refine NQ ?_;obtain⟨ax,ae,E⟩:=bnd E;refine RG (ST (q01 Tu109 G Ts9 Dc G) G (ST (XL H Ta9) G ?_));refine MV G G (q02 H (Y1g ae) G trivial (q00 G) G ?_);intro ay M w H J hR;have K:=K.mono J;have u:=u.mono J;obtain rfl:=hR;refine NT ?_;refine q0a G (fun V=>?_) (fun V=>?_)
   .
    subst V;rw[l01 rfl] at E;refine SQ ?_;obtain⟨⟨a4,a5⟩,a6,E⟩:=bnd E;try dsimp only at E
    refine q0V (fun e w =>∃  (M:Mem),e=[(4,S al.2),(5,Value.bool true),(6,ptr N 0)]/\St w0 M0 M [.blk N (.cells #[I a4,I a5] 28)] w/\Tabs M) ?_ ?_
    .
     refine q0v (m:=6) G G H ?_;intro w H;refine TK 0 G (fun _=>q01 Tu109 G Ts9 Dc G) G ?_;refine q0C (i:=1) (j:=2) Kr G G ?_ ?_
     .
      refine ST (XL H Ta9) G ?_;refine NA (q0k (fuel:=0) [2,3,4,5] G Kr (q02 H (Y07 a6) G trivial (q00 G) G ?_));intro am M w H J hR;have K:=K.mono J;try dsimp only at hR
      obtain rfl:=hR;refine AS G G (AS G G (q04 [_,_] H G G G Ku Ts28 G Kf Kf (q00 G) ?_));intro w H;refine NA (q0f Kr ?_);exact MP ⟨_,G,(H.pick (L':=[.blk N (.cells #[I a4,I a5] 28)]) Kp),K⟩
     refine q02 H (Y07 a6) G trivial (q00 G) G ?_;intro am M w H J hR;have K:=K.mono J;try dsimp only at hR
     obtain rfl:=hR;refine NA (q0k (fuel:=0) [1,3,4,5] G Kr (ST (XL H Ta9) G ?_));refine AS G G (AS G G (q04 [_,_] H G G G Ku Ts28 G Kf Kf (q00 G) ?_));intro w H;refine NA (q0f Kr ?_);exact MP ⟨_,G,(H.pick (L':=[.blk N (.cells #[I a4,I a5] 28)]) Kp),K⟩
    rintro e w ⟨M,rfl,H,K⟩;refine TN (RT ?_);obtain rfl:=oI E;try dsimp only at h
    obtain rfl:=oI h;exact WQ.ret3 G G G ⟨_,G,H.loadAgg Km Ta28 Ts28 Kf⟩ H.ext G
   subst V;rw[l00 l03] at E;refine SK (IB (TN ?_));obtain⟨az,a9,E⟩:=bnd E;refine RG (ST (q0e G G a9) G (MV G G (NL ?_)));exact AG a3 ⟨_,_,_,_,G,(H.pick (L':=[.blk N (.cells #[I Y,I Z] 28)]) Kp),K,u,E⟩ (l0a _)
  rw[l00 U] at E;refine q0j (q03 (q03 (q0b ?_)));exact MN ⟨_,_,_,G,H,K,E⟩
 rintro e w ⟨n9,a2,M,rfl,H,K,an⟩;obtain rfl:=oI an;try dsimp only at h
 refine TN (SQ ?_);obtain⟨⟨b0,b1⟩,ah,h⟩:=bnd h;try dsimp only at h
 refine RG (q02 H (Y07 ah) G trivial (q00 G) G ?_);intro b2 M w H J hR;try dsimp only at hR
 obtain rfl:=hR;refine AS G G (AS G G (q04 [_,_] H G G G Ku Ts28 G Kf Kf (q00 G) ?_));intro w H;refine NR ?_;obtain rfl:=oI h;exact WQ.ret3 G G G ⟨_,G,H.loadAgg Km Ta28 Ts28 Kf⟩ H.ext G
theorem Y6A {p0:UInt8}{r:Bool}(h:Y31 p0=some r):Ct Tryz.prog 119 [encB p0] (fun M=>True) (fun v M=>v=Value.bool r):=by
 refine Ct.of Tryz.func119 (enters Tryz.func119 Kr G) G G G ?_;intro K M0 H hp;unfold Y31 at h;refine SR (AQ G G ?_);obtain⟨N,E,h⟩:=bnd h;refine q0c (fun e w =>∃(J:Bool) (M:Mem),e=[(2,Value.bool J)]/\St K M0 M [] w/\some J=some N) [] ?_ ?_ (trivial)
 .
  by_cases u:32<=p0.toNat
  .
   rw[l01 u] at E;refine RM G G (DT u (q1g (i:=p0.toNat) (j:=32) G G) G (MV G G (SG (q06 G) G G G (SG (Ex.leqB (i:=p0.toNat) (j:=126) G G) G G G (PT G G G (AS G G (NL ?_)))))));exact MN ⟨_,_,G,H,E⟩
  rw[l00 u] at E;refine RM G G (DF u (q1g (i:=p0.toNat) (j:=32) G G) G (MV G G (GF G G G (GF G G G (PF G G G (AS G G (NL ?_)))))));exact MN ⟨_,_,G,H,E⟩
 rintro e w ⟨J,M,rfl,H,O⟩;obtain rfl:=oI O;refine TN (RT ?_);obtain rfl:=oI h;exact q07 G G H.ext G
theorem Y6g {p0:Ls}{u:Ls}{r:Bool}(h:Y1r p0 u=some r):Ct Tryz.prog 120 [S p0,S u] (fun M=>True) (fun v M=>v=Value.bool r):=by
 refine Ct.of Tryz.func120 (enters Tryz.func120 Kr G) G G G ?_;intro K M0 H hp;unfold Y1r at h;refine SR (AQ G G ?_);obtain⟨N,E,h⟩:=bnd h;refine RM G G (MV G G (q02 H (Y2N E) G trivial (q00 G) G ?_));intro O M w H J hR;obtain rfl:=hR;refine AR G G ?_;obtain rfl:=oI h;exact q07 G G H.ext G
theorem Y6Y {p0:List Z00}{a8:Value}{r:Z08}(h:Y3y p0=some r):Ct Tryz.prog 82 [a8] (fun M=>Gv2 M/\Gv1 M/\Gv3 M/\Gv0 M/\Tabs M/\SlS M 2 xenc46 a8 p0) (fun v M=>v=Value.tuple #[S r.1,Value.bool r.2]):=by
 refine Ct.of Tryz.func82 (enters Tryz.func82 Kr G) G G G ?_;intro w0 M0 H hp;obtain⟨E,J,O,u,N,aj⟩:=hp;unfold Y3y at h;refine SR (AS G G (AQ G G ?_));obtain⟨⟨⟨s1,s2,l3⟩,n4,b5⟩,ak,h⟩:=bnd h;try dsimp only at h
 refine RM G G (q1l H (Y4z ak) G ⟨E,J,O,u,N,aj⟩ (q00 G) G ?_);intro ax M w its H K hR;have E:=E.mono K;have J:=J.mono K;have O:=O.mono K;have u:=u.mono K;have N:=N.mono K;try dsimp only at hR
 obtain⟨V,rfl,rfl⟩:=hR;simp only[l09,l07] at H;refine MV G G (ST (q05 G G) G (ST (q05 G G) G (ST (q05 G G) G (q09 [_,_,_] H Tz105 G (q00 G) G ?_))));intro a9 w H;refine q04 [_,_,_] H G G G Ku Ts105 G Kf (by simp only[l0i,l0u,(H.rowOneS (v:=V) Km).2];rfl) (q00 G) ?_;intro w H;refine AS G G (AQ G G (SQ ?_));obtain⟨o8,e9,h⟩:=bnd h;refine q0c (fun e w =>∃(a3:Bool) (M:Mem),e=[(4,ptr a9 0),(24,Value.bool a3)]/\St w0 M0 M [.blk a9 (.cells #[S s1,S s2,V] 105),RowS 109 2 xenc109 V l3] w/\Gv2 M/\Gv1 M/\Gv3 M/\Gv0 M/\Tabs M/\some a3=some o8) [] ?_ ?_ (trivial)
 .
  refine RM G G (ST (q0w G) G (MV G G ?_));rcases b5 with _|_
  .
   rw[l00 l03] at e9;refine q0i 4 G G (PT G G G (NL ?_));exact MN ⟨_,_,G,H,E,J,O,u,N,e9⟩
  rw[l01 rfl] at e9;obtain⟨ay,ac,e9⟩:=bnd e9;refine SG (q01 Tu105 G Ts9 Dc G) G G G (SG (XL H Ta9) G G G ?_);refine q02 H (Y1g ac) G trivial (q0h G G G) G ?_;intro az M w H K hR;have E:=E.mono K;have J:=J.mono K;have O:=O.mono K;have u:=u.mono K;have N:=N.mono K;obtain rfl:=hR;refine SG (q0w G) G G G (PF G G G (NL ?_));exact MN ⟨_,_,G,H,E,J,O,u,N,e9⟩
 rintro e w ⟨a3,M,rfl,H,E,J,O,u,N,al⟩;obtain rfl:=oI al;refine TN ?_;refine q0a G (fun a0=>?_) (fun a0=>?_)
 .
  subst a0;rw[l01 rfl] at h;refine SR (AS G G (AR G G ?_));obtain rfl:=oI h;exact q0r G G G H.ext G
 subst a0;rw[l00 l03] at h;refine KQ ?_;obtain⟨⟨a4,aa,⟨b0,b1⟩⟩,ad,h⟩:=bnd h;try dsimp only at h
 refine RG (ST (q08 H G Km Ta105 Ts105 Kf) G ?_);obtain⟨M,K,ae,H⟩:=H.freezeRowS (v:=V) (enc:=xenc109) (t:=109) Kv (fun _=>rfl);have E:=E.mono K;have J:=J.mono K;have O:=O.mono K;have u:=u.mono K;have N:=N.mono K;refine q02 H (Y6q ad) G ⟨N,ae⟩ (q00 G) G ?_;intro b2 M w H K hR;have E:=E.mono K;have J:=J.mono K;have O:=O.mono K;have u:=u.mono K;have N:=N.mono K;try dsimp only at hR
 obtain rfl:=hR;refine MV G G (ST (q05 G G) G (ST (q05 G G) G (ST (q05 G G) G (q09 [_,_] H Tz28 G (q00 G) G ?_))));intro b3 w H;refine AS G G (AS G G (q04 [_,_] H G G G Ku Ts28 G Kf Kf (q00 G) ?_));intro w H;refine NQ ?_;obtain⟨am,U,h⟩:=bnd h;refine q0c (fun e w =>∃(a5:Bool) (M:Mem),e=[(7,S a4),(8,Value.bool aa),(10,Value.bool a5)]/\St w0 M0 M [] w/\Gv2 M/\Gv1 M/\Gv3 M/\Gv0 M/\Tabs M/\some a5=some am) [] ?_ ?_ (trivial)
 .
  by_cases Y:a4=[]
  .
   rw[l01 Y] at U;refine RM G G (q0B (v' := .bool false) (q1m G G) (l02 Value.bool (by rw[l0f Y];rfl)) (q00 G) G G ?_);refine MV G G (q0i 3 G G (PF G G G (MV G G (GF G G G (GF G G G (PF G G G (MV G G (q0i 3 G G (PF G G G (AS G G (NL ?_)))))))))));exact MN ⟨_,_,G,(H.pick (L':=[]) Kp),E,J,O,u,N,U⟩
  rw[l00 Y] at U;refine RM G G (q0B (v' := .bool true) (q1m G G) (l02 Value.bool (by rw[l0g Y];rfl)) (q00 G) G G ?_);refine MV G G (SG (q06 G) G G G (SG (q0g Tu9 G) G G G ?_));by_cases Z:(a4.length:Int)<=(60:Int)
  .
   rw[l01 Z] at U;obtain⟨an,ah,U⟩:=bnd U;refine DU Z (q1q G G) G G G (PT G G G (MV G G (SG (q06 G) G G G (q02 H (Y4X ah) G ((fun _ _ h=>FnV.of (Y6A h) (fun _ _=>trivial))) (q0h G G G) G ?_))));intro b4 M w H K hR;have E:=E.mono K;have J:=J.mono K;have O:=O.mono K;have u:=u.mono K;have N:=N.mono K;obtain rfl:=hR;refine PT G G G (MV G G ?_);rcases an with _|_
   .
    rw[l00 l03] at U;refine q0i 3 G G (PF G G G (AS G G (NL ?_)));exact MN ⟨_,_,G,(H.pick (L':=[]) Kp),E,J,O,u,N,U⟩
   rw[l01 rfl] at U;obtain⟨b6,ai,U⟩:=bnd U;refine SG (q06 G) G G G (q02 H (Y6g ai) G trivial (q0h G G G) G ?_);intro b7 M w H K hR;have E:=E.mono K;have J:=J.mono K;have O:=O.mono K;have u:=u.mono K;have N:=N.mono K;obtain rfl:=hR;refine SG (q0w G) G G G (PT G G G (AS G G (NL ?_)));exact MN ⟨_,_,G,(H.pick (L':=[]) Kp),E,J,O,u,N,U⟩
  rw[l00 Z] at U;refine DG Z (q1q G G) G G G (PT G G G (MV G G (GF G G G (GF G G G (PF G G G (MV G G (q0i 3 G G (PF G G G (AS G G (NL ?_))))))))));exact MN ⟨_,_,G,(H.pick (L':=[]) Kp),E,J,O,u,N,U⟩
 rintro e w ⟨a5,M,rfl,H,E,J,O,u,N,ao⟩;obtain rfl:=oI ao;refine TN (SQ ?_);obtain⟨ap,a1,h⟩:=bnd h;refine q0c (fun e w =>∃(a6:Ls) (a7:Bool) (M:Mem),e=[(2,S a6),(3,Value.bool a7)]/\St w0 M0 M [] w/\Gv2 M/\Gv1 M/\Gv3 M/\Gv0 M/\Tabs M/\some (a6,a7)=some ap) [] ?_ ?_ (trivial)
 .
  refine RM G G (MV G G (MV G G ?_));rcases aa with _|_
  .
   rw[l00 l03] at a1;refine GF G G G (PF G G G (AS G G (AS G G (NL ?_))));exact MN ⟨_,_,_,G,H,E,J,O,u,N,a1⟩
  rw[l01 rfl] at a1;refine SG (q06 G) G G G (PT G G G (AS G G (AS G G (NL ?_))));exact MN ⟨_,_,_,G,H,E,J,O,u,N,a1⟩
 rintro e w ⟨a6,a7,M,rfl,H,E,J,O,u,N,aq⟩;obtain rfl:=oI aq;try dsimp only at h
 refine TN (RT ?_);obtain rfl:=oI h;exact q0r G G G H.ext G
theorem Y6r {p0:Ls}{J:Value}{r:Ls}(h:Y46 p0=some r):Ct Tryz.prog 91 [J] (fun M=>Sl M encB J p0) (fun v M =>∃E x0_0c,v=(Value.func (.func 124) #[] #[ptr E 0])/\PtM M E (.cells #[x0_0c] 23)/\Sl M encB x0_0c r):=by
 refine Ct.of Tryz.func91 (enters Tryz.func91 Kr G) G G G ?_;intro U M0 H hp;have u:=hp;unfold Y46 at h;refine SR (q0D [_] H G (u).one.cells (q00 G) G ?_);intro K w H;refine AQ G G (RG ?_);obtain⟨M,N,O,H⟩:=H.freezeVar (b:=K) Kv;have u:=u.mono N;refine ST (q1t G) G (AR G G ?_);obtain rfl:=oI h;exact q07 G G H.ext (⟨_,_,G,O,u⟩)
end Go.Proofs.YtkgohbecojnfaaaGreatDoor
end
section
namespace Go.Proofs.YtkgohbecojnfaaaGreatDoor
open Go Go.RowKit Go.Ph Go.Ph.Pl Go.Ph.Pf
theorem Y5F {p1:Ls}{a0:Nat}{a1:Value}:ItW Tryz.prog 124 [ptr a0 0] [] (fun M=>Gv3 M/\PtM M a0 (.cells #[a1] 23)/\Sl M encB a1 p1) (fun v u M x=>v=I x.1/\u=S x.2) (Y2w p1):=by
 refine ItW.of Tryz.func124 (enters Tryz.func124 Kr G) G G G ?_;intro lid σ Y Z C hY s0 r L0 w0 M0 h hzz H hp;simp only[l09,l07] at H;obtain⟨U,J,E⟩:=hp;unfold Y2w at h;refine SR (AN G G ?_);obtain⟨o1,K,h⟩:=bnd h;refine q0c (fun e w =>∃(s3:σ) (Lc:List Ph.Item) (M:Mem),e=[]/\StX C w0 M0 M (Lc) w/\Gv3 M/\ZH Z s3 Lc M/\some (.inl s3)=some o1) [] ?_ ?_ (trivial)
 .
  refine BL (q0l (fun m e w =>∃(n4:Int) (s5:σ) (Lc:List Ph.Item) (M:Mem),e=[(0,(yv lid)),(1,ptr a0 0),(3,I n4)]/\StX C w0 M0 M (Lc) w/\Gv3 M/\PtM M a0 (.cells #[a1] 23)/\Sl M encB a1 p1/\ZH Z s5 Lc M/\Y0v Y p1 m n4 s5=some o1) FU [(0,_),(1,_),(3,_)] ⟨rfl,rfl,rfl,trivial⟩ ⟨_,_,_,_,rfl,H,U,J,E,hzz,K⟩ ?_);rintro m6 e w ⟨n4,s5,Lc,M,rfl,H,U,J,E,hzz,K⟩;rcases m6 with _|m6
  . rw[Y0v] at K;cases K
  rw[Y0v] at K;refine SQ (SM G G (ST (q0n H G (J.cell (j:=0) G) Ta23) G (ST (q0o Tu23 E G) G (ST (q0m G G) G (NT ?_)))));refine CB (p:=n4<(p1.length:Int)) G (fun a6=>?_) fun a6=>?_
  .
   rw[l01 a6] at K;refine SK (TN (BL (SQ ?_)));obtain⟨l8,a7,K⟩:=bnd K;obtain⟨n9,al,K⟩:=bnd K;refine RG (ST (q0n H G (J.cell (j:=0) G) Ta23) G (MV G G (ST (q1E Tu23 Ts5 (E) G G a7) G (WR.litC xty23 Tu5 ([13,10]:Ls) H G Kf G G (q00 G) G (fun _=>q00 G) G ?_))));intro av M w H N am;have U:=U.mono N;have hzz:=hzz.mono N;have E:=E.mono N;have J:=J.mono N;refine q02 H (Y6l al) G ⟨U,(E.subV a7),am⟩ (q00 G) G ?_;intro aw M w H N hR;have U:=U.mono N;have hzz:=hzz.mono N;have E:=E.mono N;have J:=J.mono N;obtain rfl:=hR;refine AQ G G (RG (ST (q0n H G (J.cell (j:=0) G) Ta23) G (ST (q0o Tu23 E G) G (AN G G (SM G G (AQ G G (SM G G (ST (q0Q G G) G (NT ?_)))))))));obtain⟨ap,O,K⟩:=bnd K;refine q0c (fun e w =>∃(a8:Int) (a9:Int) (aa:σ) (Lc:List Ph.Item) (M:Mem),e=[(0,(yv lid)),(1,ptr a0 0),(3,I n4),(5,I a8),(6,I a9)]/\StX C w0 M0 M (Lc) w/\Gv3 M/\PtM M a0 (.cells #[a1] 23)/\Sl M encB a1 p1/\ZH Z aa Lc M/\some (a8,a9,aa)=some ap) [] ?_ ?_ (trivial)
   .
    refine CB (p:=(0:Int)<=n9) G (fun a2=>?_) fun a2=>?_
    .
     rw[l01 a2] at O;obtain⟨ax,ab,O⟩:=bnd O;obtain⟨ay,ac,O⟩:=bnd O;obtain⟨az,ad,O⟩:=bnd O;refine RM G G (MV G G (ST (q0e G G ab) G (MV G G (MV G G (ST (q0e G G ac) G (ST (q0e G G ad) G (AS G G (AS G G (NL ?_)))))))));exact MN ⟨_,_,_,_,_,G,H,U,J,E,hzz,O⟩
    rw[l00 a2] at O;refine SK ?_;exact MN ⟨_,_,_,_,_,G,H,U,J,E,hzz,O⟩
   rintro e w ⟨a8,a9,aa,Lc,M,rfl,H,U,J,E,hzz,aq⟩;obtain rfl:=oI aq;try dsimp only at K
   refine TN (SQ (SQ ?_));obtain⟨b0,a3,K⟩:=bnd K;obtain⟨⟨b1,ae⟩,an,K⟩:=bnd K;try dsimp only at K
   refine RM G G (MV G G (ST (q0n H G (J.cell (j:=0) G) Ta23) G (MV G G (MV G G (ST (Ex.sliceVC Tu23 Ts5 (E) G G G a3) G (ST (q0Y Tu23 Tu5 Tu9 H ((E.subV a3)) G) G (WR.yieldW H (q1p _) hY hzz an G G G ⟨G,G⟩ (q00 G) G ?_)))))));intro w M Lc H N hzz;simp only[l09,l07] at H;have U:=U.mono N;have E:=E.mono N;have J:=J.mono N;refine ST (q0w G) G (NT ?_);refine q0a G (fun V=>?_) (fun V=>?_)
   .
    replace V:ae=false:=by simpa using V
    subst V;rw[l00 l03] at K;refine RT ?_;obtain rfl:=oI K;try dsimp only at h
    obtain rfl:=oI h;exact WQ.retZ G H (by repeat(first|exact List.Sublist.refl _|apply List.Sublist.cons)) hzz G
   replace V:ae=true:=by simpa using V
   subst V;rw[l01 rfl] at K;refine SK (TN (RM G G (AS G G (NL (IB ?_)))));exact AG m6 ⟨_,_,_,_,G,H,U,J,E,hzz,K⟩ (l0a _)
  rw[l00 a6] at K;refine q0j (q03 (q03 (q0b ?_)));exact MN ⟨_,_,_,G,H,U,hzz,K⟩
 rintro e w ⟨s3,Lc,M,rfl,H,U,hzz,ar⟩;obtain rfl:=oI ar;try dsimp only at h
 obtain rfl:=oI h;exact WQ.endZ G H (by repeat(first|exact List.Sublist.refl _|apply List.Sublist.cons)) hzz G
theorem Y8y {p0:Ls}{O:Ls}{r:Int}(h:Y5j p0 O=some r):Ct Tryz.prog 121 [S p0,S O] (fun M=>True) (fun v M=>v=I r):=by
 refine Ct.of Tryz.func121 (enters Tryz.func121 Kr G) G G G ?_;intro w0 M0 H hp;unfold Y5j at h;refine SR (AQ G G (SQ ?_));obtain⟨U,V,h⟩:=bnd h;refine RM G G (q02 H (Y4u V) G trivial (q00 G) G ?_);intro v6 M w H a0 hR;obtain rfl:=hR;refine NT (BL (SQ ?_));obtain⟨Y,J,h⟩:=bnd h;refine RM G G (ST (q0d G G J) G (ST (q0z G G) G (AN G G ?_)));refine CB (p:=U=Y) G (fun u=>?_) fun u=>?_
 .
  rw[l01 u] at h;refine SR (AR G G ?_);obtain rfl:=oI h;exact q07 G G H.ext G
 rw[l00 u] at h;refine SQ ?_;obtain⟨s5,K,h⟩:=bnd h;obtain⟨Z,N,h⟩:=bnd h;refine RM G G (ST (q0d G G K) G (ST (q0d G G N) G (ST (q0z G G) G (AN G G ?_))));refine CB (p:=U=Z) G (fun E=>?_) fun E=>?_
 .
  rw[l01 E] at h;refine SR (AR G G ?_);obtain rfl:=oI h;exact q07 G G H.ext G
 rw[l00 E] at h;refine SK (IB (TN (SR (AR G G ?_))));obtain rfl:=oI h;exact q07 G G H.ext G
theorem Y6J {p0:Ls}{p1:Ls}{bp:Value}{r:List Ls}(h:Y3i p0 p1=some r):Ct Tryz.prog 83 [bp,S p1] (fun M=>Gv3 M/\Sl M encB bp p0) (fun v M=>SlR xrl23 M v r):=by
 refine Ct.ofM Tryz.func83 (enters Tryz.func83 Kr G) G G G ?_;intro w0 M0 H hp;obtain⟨O,J⟩:=hp;obtain⟨U,rfl⟩:=J.hd;unfold Y3i at h;refine SR (q0D [_] H G (J).one.cells (q00 G) G ?_);intro a1 w H;refine q0D [_] H G G (q00 G) G ?_;intro a2 w H;refine q09 [_] H Tryz.zeroValue89 G (q00 G) G ?_;intro V w H;refine NQ (RG (q09 [_] H Tryz.zeroValue89 G (q00 G) G ?_));intro Y w H;refine NQ (RG (q09 [_] H Tz3 G (q00 G) G ?_));intro a3 w H;refine q04 [_] H G G G Ku Ts3 G Kf Kf (q00 G) ?_;intro w H;refine NQ (SQ ?_);obtain⟨l2,bw,h⟩:=bnd h;refine RG (ST (XL H Ta23) G ?_);refine q02 H (Y6r bw) G (J) (q00 G) G ?_;intro ca M w H u hR;have O:=O.mono u;have J:=J.mono u;obtain⟨bt,x11_0_0c,rfl,b6,f11_0_0c⟩:=hR;refine NT (BL ?_);replace H:=H.newRowS 23 xrl23.k xrl23.enc;first|have b7:RelL xrl23 M [] []:=RelL.nil|have b7:RelL xrl23 M0 [] []:=RelL.nil
 obtain⟨bx,bz,h⟩:=bnd h;refine WC.rangeW (A:=[]) (L:=[.blk a1 (.cells #[(hv U)] 23), .blk a2 (.cells #[S p1] 9), .blk V (.cells #[Value.slice none 0 0] 89), .blk Y (.cells #[(Value.slice none 0 0)] 89),RowS 23 xrl23.k xrl23.enc (Value.slice none 0 0) ([]:List Hd), .blk a3 (.cells #[I (-1)] 3)]) (B:=[]) (H.pick (L':=[.blk a1 (.cells #[(hv U)] 23), .blk a2 (.cells #[S p1] 9), .blk V (.cells #[Value.slice none 0 0] 89), .blk Y (.cells #[(Value.slice none 0 0)] 89),RowS 23 xrl23.k xrl23.enc (Value.slice none 0 0) ([]:List Hd), .blk a3 (.cells #[I (-1)] 3)]) Kp) rfl Y5F (.left (.left (.left (.left (.left (.left (q0P _))))))) ⟨O,b6,f11_0_0c⟩ rfl rfl (fun s L M =>∃(v4:Value) (l7:List Ls) (v8:Value) (g9:List Hd) (N:Int) (aa:Nat),s=((l7,N),aa)/\L=[.blk a1 (.cells #[(hv U)] 23), .blk a2 (.cells #[S p1] 9), .blk V (.cells #[v4] 89), .blk Y (.cells #[v8] 89),RowS 23 xrl23.k xrl23.enc v8 g9, .blk a3 (.cells #[I N] 3)]/\Gv3 M/\Sl M encB (hv U) p0/\RelL xrl23 M g9 l7/\(aa=1->v4=v8)) (fun s=>exE [.ret] s.2) exStop (fun s=>exE_stop _ s) (Y1M p0 p1) (([],(-1)),0) bx bz (by rintro s L M M' ⟨v4,l7,v8,g9,N,aa,rfl,rfl,O,J,K,aq⟩ u;exact ⟨_,_,_,_,_,_,rfl,rfl,O.mono u,J.mono u,K.mono u,aq⟩) rfl ⟨_,_,_,_,_,_,rfl,rfl,O,J,b7,(by first|exact fun _=>rfl|exact fun h=>absurd h Dc)⟩ ?_ ?_ ?_
 .
  rintro Z a5 ae s ⟨b8,bq⟩ c7 c8 c9 L b9 Mb12 hE a0 ⟨v4,l7,v8,g9,N,aa,rfl,rfl,O,J,K,aq⟩ ⟨rfl,rfl⟩ H;unfold Y1M at a0;try dsimp only at a0
  refine SR (AN G G (RG (AS G G (NL (WQ.begin ae H Ku ?_)))));intro w H;refine BL (SQ ?_);obtain⟨b3,bu,a0⟩:=bnd a0;refine RM G G (ST (XL H Ta9) G ?_);refine q02 H (Y8y bu) G trivial (q00 G) G ?_;intro cb M w H u hR;have O:=O.mono u;have K:=K.mono u;have J:=J.mono u;obtain rfl:=hR;refine AQ G G (SM G G (ST (q0s G G) G (NT ?_)));refine CB (p:=b3=(0:Int)) G (fun aw=>?_) fun aw=>?_
  .
   rw[l01 aw] at a0;refine q0j (q03 (q0b ?_));obtain rfl:=oI a0;exact WQ.rsOn ae H G ⟨_,_,_,_,_,_,G,G,O,J,K,(by first|exact fun _=>G|exact fun h=>absurd h Dc)⟩
  rw[l00 aw] at a0;refine KQ (SR (ST (XL H Ta3) G ?_));refine ST (q0Q G G) G (NT ?_);obtain⟨c0,a9,a0⟩:=bnd a0;refine q0c (fun e w =>∃(ba:List Ls) (ac:Value) (ar:List Hd) (M:Mem),e=[(2,ptr a1 0),(3,ptr a2 0),(4,ptr V 0),(5,ptr Y 0),(6,ptr a3 0),(7,I b8),(8,S bq),(9,I b3)]/\StX (feet (.blk Z (.loop (a5 .ready none))::[.blk a1 (.cells #[(hv U)] 23), .blk a2 (.cells #[S p1] 9), .blk V (.cells #[v4] 89), .blk Y (.cells #[v8] 89),RowS 23 xrl23.k xrl23.enc v8 g9, .blk a3 (.cells #[I N] 3)])) b9 Mb12 M [.blk a1 (.cells #[(hv U)] 23), .blk a2 (.cells #[S p1] 9), .blk V (.cells #[v4] 89), .blk Y (.cells #[ac] 89),RowS 23 xrl23.k xrl23.enc ac ar, .blk a3 (.cells #[I N] 3), .blk Z (.loop (a5 .busy none))] w/\Gv3 M/\Sl M encB (hv U) p0/\RelL xrl23 M ar ba/\some ba=some c0) [] ?_ ?_ (trivial)
  .
   refine CB (p:=(0:Int)<=N) G (fun ax=>?_) fun ax=>?_
   .
    rw[l01 ax] at a9;obtain⟨ak,bm,a9⟩:=bnd a9;obtain⟨bb,ah,a9⟩:=bnd a9;obtain⟨c1,am,a9⟩:=bnd a9;refine q0V (fun e w =>∃(bc:Value) (bd:List Hd) (M:Mem),e=[(2,ptr a1 0),(3,ptr a2 0),(4,ptr V 0),(5,ptr Y 0),(6,ptr a3 0),(7,I b8),(8,S bq),(9,I b3)]/\StX (feet (.blk Z (.loop (a5 .ready none))::[.blk a1 (.cells #[(hv U)] 23), .blk a2 (.cells #[S p1] 9), .blk V (.cells #[v4] 89), .blk Y (.cells #[v8] 89),RowS 23 xrl23.k xrl23.enc v8 g9, .blk a3 (.cells #[I N] 3)])) b9 Mb12 M [.blk a1 (.cells #[(hv U)] 23), .blk a2 (.cells #[S p1] 9), .blk V (.cells #[v4] 89), .blk Y (.cells #[bc] 89),RowS 23 xrl23.k xrl23.enc bc bd, .blk a3 (.cells #[I N] 3), .blk Z (.loop (a5 .busy none))] w/\Gv3 M/\Sl M encB (hv U) p0/\RelL xrl23 M bd c1) ?_ ?_
    .
     refine WC.sub (e':=[(2,_),(3,_),(4,_),(5,_),(6,_),(7,_),(8,_),(9,_)]) ⟨G,G,G,G,G,G,G,G,trivial⟩ (q0v (m:=11) G G H ?_);intro w H;refine WA.conf0 (c:=8) [(21,v8,[]),(22,(hv U),[]),(23,I N,[]),(24,I N,[]),(25,I b8,[]),(26,I ak,[4]),(27,I (max N ak),[3,5]),(28,(subV (hv U) N.toNat (max N ak).toNat),[1,2,6])] G G Kr G G H ⟨⟨_,G,fun E w M H u Qk kk=>?_⟩,⟨_,G,fun E w M H u Qk kk=>?_⟩,⟨_,G,fun E w M H u Qk kk=>?_⟩,⟨_,G,fun E w M H u Qk kk=>?_⟩,⟨_,G,fun E w M H u Qk kk=>?_⟩,⟨_,G,fun E w M H u Qk kk=>?_⟩,⟨_,G,fun E w M H u Qk kk=>?_⟩,⟨_,G,fun E w M H u Qk kk=>?_⟩,trivial⟩ G ?_ ?_
     .
      refine ST (XL H Ta89) G ?_;exact q1k (kk _ _ H (Mem.le.refl _))
     .
      refine ST (XL H Ta23) G ?_;exact q1k (kk _ _ H (Mem.le.refl _))
     .
      refine ST (XL H Ta3) G ?_;exact q1k (kk _ _ H (Mem.le.refl _))
     .
      refine ST (XL H Ta3) G ?_;exact q1k (kk _ _ H (Mem.le.refl _))
     .
      refine MV G G ?_;exact q1k (kk _ _ H (Mem.le.refl _))
     .
      refine ST (q0I G G bm) G ?_;exact q1k (kk _ _ H (Mem.le.refl _))
     .
      refine ST (Ex.max2 G G) G ?_;exact q1k (kk _ _ H (Mem.le.refl _))
     .
      have J:=J.mono u;refine ST (Ex.sliceVC Tu23 Ts5 (J) G G G ah) G ?_;exact q1k (kk _ _ H (Mem.le.refl _))
     .
      intro w M H u;have O:=O.mono u;have K:=K.mono u;have J:=J.mono u;refine q0C (i:=0) (j:=8) Kr G G ?_ ?_
      .
       refine ST (XL H Ta89) G ?_;refine NA (q0k (fuel:=0) [8,9,10] G Kr (q1u (enc:=xrl23.enc) xty89 ([(subH U N.toNat (max N ak).toNat)]:List Hd) H (fun _=>G) G Kr G G G (q00 G) G ?_));intro br M w H u a4;have O:=O.mono u;have K:=K.mono u;have J:=J.mono u;replace a4:=SlR.of (R:=xrl23) (l:=([bb]:List Ls)) a4 ⟨(J.subV ah),trivial⟩;refine WR.appRC (R:=xrl23) (l:=l7) xty89 G H K G Ud G (a4) am (q00 G) G ?_;intro ad au w aj H;refine q0O [_] H G G (H.rowOneS Km) Ku Kf Ts89 (by first|decide|(simp;done)|(simp;omega)) (q00 G) ?_;intro w H;refine NA (q0f Kr ?_);exact MP ⟨_,_,_,G,(H.pick (L':=[.blk a1 (.cells #[(hv U)] 23), .blk a2 (.cells #[S p1] 9), .blk V (.cells #[v4] 89), .blk Y (.cells #[ad] 89),RowS 23 xrl23.k xrl23.enc ad au, .blk a3 (.cells #[I N] 3), .blk Z (.loop (a5 .busy none))]) Kp),O,J,aj⟩
      refine q1u (enc:=xrl23.enc) xty89 ([(subH U N.toNat (max N ak).toNat)]:List Hd) H (fun _=>G) G Kr G G G (q00 G) G ?_;intro br M w H u a4;have O:=O.mono u;have K:=K.mono u;have J:=J.mono u;replace a4:=SlR.of (R:=xrl23) (l:=([bb]:List Ls)) a4 ⟨(J.subV ah),trivial⟩;refine NA (q0k (fuel:=0) [0,9,10] G Kr (ST (XL H Ta89) G ?_));refine WR.appRC (R:=xrl23) (l:=l7) xty89 G H K G Ud G (a4) am (q00 G) G ?_;intro ad au w aj H;refine q0O [_] H G G (H.rowOneS Km) Ku Kf Ts89 (by first|decide|(simp;done)|(simp;omega)) (q00 G) ?_;intro w H;refine NA (q0f Kr ?_);exact MP ⟨_,_,_,G,(H.pick (L':=[.blk a1 (.cells #[(hv U)] 23), .blk a2 (.cells #[S p1] 9), .blk V (.cells #[v4] 89), .blk Y (.cells #[ad] 89),RowS 23 xrl23.k xrl23.enc ad au, .blk a3 (.cells #[I N] 3), .blk Z (.loop (a5 .busy none))]) Kp),O,J,aj⟩
     intro w M H u;have O:=O.mono u;have K:=K.mono u;have J:=J.mono u;refine q0k (fuel:=0) [8,9,10] G Kr (q1u (enc:=xrl23.enc) xty89 ([(subH U N.toNat (max N ak).toNat)]:List Hd) H (fun _=>G) G Kr G G G (q00 G) G ?_);intro br M w H u a4;have O:=O.mono u;have K:=K.mono u;have J:=J.mono u;replace a4:=SlR.of (R:=xrl23) (l:=([bb]:List Ls)) a4 ⟨(J.subV ah),trivial⟩;refine WR.appRC (R:=xrl23) (l:=l7) xty89 G H K G Ud G (a4) am (q00 G) G ?_;intro ad au w aj H;refine q0O [_] H G G (H.rowOneS Km) Ku Kf Ts89 (by first|decide|(simp;done)|(simp;omega)) (q00 G) ?_;intro w H;refine NA (q0f Kr ?_);exact MP ⟨_,_,_,G,(H.pick (L':=[.blk a1 (.cells #[(hv U)] 23), .blk a2 (.cells #[S p1] 9), .blk V (.cells #[v4] 89), .blk Y (.cells #[ad] 89),RowS 23 xrl23.k xrl23.enc ad au, .blk a3 (.cells #[I N] 3), .blk Z (.loop (a5 .busy none))]) Kp),O,J,aj⟩
    rintro e w ⟨bc,bd,M,rfl,H,O,J,bv⟩;exact MN ⟨_,_,_,_,G,H,O,J,bv,a9⟩
   rw[l00 ax] at a9;refine SK ?_;exact MN ⟨_,_,_,_,G,(H.pick (L':=[.blk a1 (.cells #[(hv U)] 23), .blk a2 (.cells #[S p1] 9), .blk V (.cells #[v4] 89), .blk Y (.cells #[v8] 89),RowS 23 xrl23.k xrl23.enc v8 g9, .blk a3 (.cells #[I N] 3), .blk Z (.loop (a5 .busy none))]) Kp),O,J,K,a9⟩
  rintro e w ⟨ba,ac,ar,M,rfl,H,O,J,be,c2⟩;obtain rfl:=oI c2;refine TN (SQ (SM G G (ST (q0s G G) G (NT ?_))));refine CB (p:=b3=(2:Int)) G (fun ay=>?_) fun ay=>?_
  .
   rw[l01 ay] at a0;refine SR (ST (XL H Ta89) G ?_);refine q0O [_] H G G (H.rowOneS Km) Ku Kf Ts89 (by first|decide|(simp;done)|(simp;omega)) (q00 G) ?_;intro w H;refine NR ?_;obtain rfl:=oI a0;exact WQ.rsRet ae (H.pick (L':=[.blk Z (.loop (a5 .busy none)), .blk a1 (.cells #[(hv U)] 23), .blk a2 (.cells #[S p1] 9), .blk V (.cells #[ac] 89), .blk Y (.cells #[ac] 89),RowS 23 xrl23.k xrl23.enc ac ar, .blk a3 (.cells #[I N] 3)]) Kp) G ⟨_,_,_,_,_,_,G,G,O,J,be,(by first|exact fun _=>G|exact fun h=>absurd h Dc)⟩
  rw[l00 ay] at a0;refine SK (TN ?_);obtain⟨cc,bn,a0⟩:=bnd a0;obtain⟨c3,bo,a0⟩:=bnd a0;refine RM G G (MV G G (ST (q0g Tu9 G) G (ST (q0e G G bn) G (ST (q0e G G bo) G (ST (XL H Ta23) G ?_)))));refine ST (q0o Tu23 J G) G (ST (Ex.min2 G G) G (q04 [_] H G G G Ku Ts3 G Kf Kf (q00 G) ?_));intro w H;refine NL (IB ?_);obtain rfl:=oI a0;exact WQ.rsOn ae (H.pick (L':=[.blk Z (.loop (a5 .busy none)), .blk a1 (.cells #[(hv U)] 23), .blk a2 (.cells #[S p1] 9), .blk V (.cells #[v4] 89), .blk Y (.cells #[ac] 89),RowS 23 xrl23.k xrl23.enc ac ar, .blk a3 (.cells #[I (min c3 (p0.length:Int))] 3)]) Kp) G ⟨_,_,_,_,_,_,G,G,O,J,be,(by first|exact fun _=>G|exact fun h=>absurd h Dc)⟩
 .
  rintro Dm12 w M L H u hE ⟨v4,l7,v8,g9,N,aa,rfl,rfl,O,J,K,aq⟩;simp only[l09,l07,l0m] at H;try dsimp only at h
  obtain rfl:=exE_none hE;rw[l01 rfl] at h;refine IB (TN (SQ (SR (ST (XL H Ta3) G ?_))));refine ST (q0Q G G) G (NT ?_);refine CB (p:=(0:Int)<=N) G (fun az=>?_) fun az=>?_
  .
   rw[l01 az] at h;obtain⟨bs,an,h⟩:=bnd h;obtain⟨c4,b4,h⟩:=bnd h;refine q0V (fun e w =>∃(b5:Value) (bg:List Hd) (M:Mem),e=[(4,ptr V 0),(5,ptr Y 0)]/\St w0 M0 M [.blk V (.cells #[v4] 89), .blk Y (.cells #[b5] 89),RowS 23 xrl23.k xrl23.enc b5 bg, .blk Dm12 (.deferred (some []))] w/\Gv3 M/\RelL xrl23 M bg c4) ?_ ?_
   .
    refine q0v (m:=7) G G H ?_;intro w H;refine q1i (i:=1) [0,2] G Kr Kr Kr (XL H Ta23) (q00 G) G G (fun _ _=>G) ?_;refine q1i (i:=2) [0] G Kr Kr Kr (XL H Ta3) (q00 G) G G (fun _ _=>G) ?_;refine TK 3 G (fun _=>q1E Tu23 Ts5 (J) G G an) G ?_;refine q0C (i:=0) (j:=4) Kr G G ?_ ?_
    .
     refine ST (XL H Ta89) G ?_;refine NA (q0k (fuel:=0) [4,5,6] G Kr (q1u (enc:=xrl23.enc) xty89 ([(subH U N.toNat (p0.length:Int).toNat)]:List Hd) H (fun _=>G) G Kr G G G (q00 G) G ?_));intro c5 M w H u ab;have O:=O.mono u;have K:=K.mono u;have J:=J.mono u;replace ab:=SlR.of (R:=xrl23) (l:=([bs]:List Ls)) ab ⟨(J.subV an),trivial⟩;refine WR.appRC (R:=xrl23) (l:=l7) xty89 G H K G Ud G (ab) b4 (q00 G) G ?_;intro av bh w b0 H;refine q0O [_] H G G (H.rowOneS Km) Ku Kf Ts89 (by first|decide|(simp;done)|(simp;omega)) (q00 G) ?_;intro w H;refine NA (q0f Kr ?_);exact MP ⟨_,_,_,G,(H.pick (L':=[.blk V (.cells #[v4] 89), .blk Y (.cells #[av] 89),RowS 23 xrl23.k xrl23.enc av bh, .blk Dm12 (.deferred (some []))]) Kp),O,b0⟩
    refine q1u (enc:=xrl23.enc) xty89 ([(subH U N.toNat (p0.length:Int).toNat)]:List Hd) H (fun _=>G) G Kr G G G (q00 G) G ?_;intro c5 M w H u ab;have O:=O.mono u;have K:=K.mono u;have J:=J.mono u;replace ab:=SlR.of (R:=xrl23) (l:=([bs]:List Ls)) ab ⟨(J.subV an),trivial⟩;refine NA (q0k (fuel:=0) [0,5,6] G Kr (ST (XL H Ta89) G ?_));refine WR.appRC (R:=xrl23) (l:=l7) xty89 G H K G Ud G (ab) b4 (q00 G) G ?_;intro av bh w b0 H;refine q0O [_] H G G (H.rowOneS Km) Ku Kf Ts89 (by first|decide|(simp;done)|(simp;omega)) (q00 G) ?_;intro w H;refine NA (q0f Kr ?_);exact MP ⟨_,_,_,G,(H.pick (L':=[.blk V (.cells #[v4] 89), .blk Y (.cells #[av] 89),RowS 23 xrl23.k xrl23.enc av bh, .blk Dm12 (.deferred (some []))]) Kp),O,b0⟩
   rintro e w ⟨b5,bg,M,rfl,H,O,b1⟩;refine TN (SR (ST (XL H Ta89) G ?_));obtain⟨M,u,ao,H⟩:=H.freezeRowS (v:=b5) (enc:=xrl23.enc) (t:=23) Kv (fun _=>rfl);have b1:=b1.mono u;replace ao:=SlR.of (R:=xrl23) ao b1;refine q0O [_] H G G (ao.one) Ku Kf Ts89 (by first|decide|(simp;done)|(simp;omega)) (q00 G) ?_;intro w H;refine NR ?_;obtain rfl:=oI h;exact WQ.nret1 G H Kv (fun w H=>⟨_,G,H.load1 Km Ta89 Kf⟩) ao
  rw[l00 az] at h;refine KQ (RG (ST (XL H Ta89) G ?_));obtain⟨M,u,ap,H⟩:=H.freezeRowS (v:=v8) (enc:=xrl23.enc) (t:=23) Kv (fun _=>rfl);have K:=K.mono u;replace ap:=SlR.of (R:=xrl23) ap K;refine q0O [_] H G G (ap.one) Ku Kf Ts89 (by first|decide|(simp;done)|(simp;omega)) (q00 G) ?_;intro w H;refine NR ?_;obtain rfl:=oI h;exact WQ.nret1 G H Kv (fun w H=>⟨_,G,H.load1 Km Ta89 Kf⟩) ap
 rintro Dm12 w M L c H u hE ⟨v4,l7,v8,g9,N,aa,rfl,rfl,O,J,K,aq⟩;simp only[l09,l07,l0m] at H;try dsimp only at h
 by_cases bi:aa=1
 .
  subst bi;obtain rfl:=oI hE;rw[l00 Dc,l01 rfl] at h;obtain rfl:=(aq rfl).symm;refine RT ?_;obtain⟨M,u,b2,H⟩:=H.freezeRowS (v:=v8) (enc:=xrl23.enc) (t:=23) Kv (fun _=>rfl);have K:=K.mono u;replace b2:=SlR.of (R:=xrl23) b2 K;obtain rfl:=oI h;exact WQ.nret1 G H Kv (fun w H=>⟨_,G,H.load1 Km Ta89 Kf⟩) b2
 have bj:=bi;rw[l00 (exE_ne hE),l00 bj] at h;cases h
theorem Y6s {p0:List Z00}{p1:Ls}{p2:Int}{a1:Value}{U:Value}{r:List Ls}(h:Y47 p0 p1 p2=some r):Ct Tryz.prog 45 [a1,U,I p2] (fun M=>Gv2 M/\Gv1 M/\Gv3 M/\Gv0 M/\Tabs M/\SlS M 2 xenc46 a1 p0/\Sl M encB U p1) (fun v M=>SlR xrl23 M v r):=by
 refine Ct.of Tryz.func45 (enters Tryz.func45 Kr G) G G G ?_;intro w0 M0 H hp;obtain⟨E,J,O,u,V,a6,N⟩:=hp;unfold Y47 at h;refine SR (AQ G G ?_);obtain⟨⟨s1,b2⟩,a7,h⟩:=bnd h;try dsimp only at h
 refine RM G G (q02 H (Y6Y a7) G ⟨E,J,O,u,V,a6⟩ (q00 G) G ?_);intro ad M w H K hR;have E:=E.mono K;have J:=J.mono K;have O:=O.mono K;have u:=u.mono K;have V:=V.mono K;have N:=N.mono K;try dsimp only at hR
 obtain rfl:=hR;refine MV G G (ST (q05 G G) G (ST (q05 G G) G (AS G G (AQ G G (SQ ?_)))));obtain⟨o4,Z,h⟩:=bnd h;refine q0c (fun e w =>∃(b6:Bool) (M:Mem),e=[(1,U),(7,S s1),(19,Value.bool b6)]/\St w0 M0 M [] w/\Gv2 M/\Gv1 M/\Gv3 M/\Gv0 M/\Tabs M/\Sl M encB U p1/\some b6=some o4) [] ?_ ?_ (trivial)
 .
  refine RM G G (ST (q0w G) G (MV G G ?_));rcases b2 with _|_
  .
   rw[l00 l03] at Z;refine GT G G G (GT G G G (PT G G G (NL ?_)));exact MN ⟨_,_,G,H,E,J,O,u,V,N,Z⟩
  rw[l01 rfl] at Z;refine SG (q06 G) G G G (SG (q0Q G G) G G G (PF G G G (NL ?_)));exact MN ⟨_,_,G,H,E,J,O,u,V,N,Z⟩
 rintro e w ⟨b6,M,rfl,H,E,J,O,u,V,N,q7⟩;obtain rfl:=oI q7;refine TN ?_;refine q0a G (fun Y=>?_) (fun Y=>?_)
 .
  subst Y;rw[l01 rfl] at h;refine SR (AR G G ?_);obtain rfl:=oI h;exact q07 G G H.ext q1F
 subst Y;rw[l00 l03] at h;refine KQ ?_;obtain⟨l9,a4,h⟩:=bnd h;refine RM G G (MV G G (q02 H (Y6J a4) G ⟨O,N⟩ (q00 G) G ?_));intro ae M w H K hR;have a0:=hR;refine AR G G ?_;obtain rfl:=oI h;exact q07 G G H.ext a0
theorem Y7w {p0:Z00}{r:Bool}(h:Y4l p0=some r):Ct Tryz.prog 85 [Value.agg #[S p0.1,S p0.2]] (fun M=>True) (fun v M=>v=Value.bool r):=by
 refine Ct.of Tryz.func85 (enters Tryz.func85 Kr G) G G G ?_;intro K M0 H hp;unfold Y4l at h;refine SR (q0D [_,_] H G G (q00 G) G ?_);intro E w H;refine AQ G G ?_;obtain⟨N,u,h⟩:=bnd h;refine RG (ST (q01 Tu109 G Ts9 Dc G) G (ST (XL H Ta9) G ?_));refine q02 H (Y1g u) G trivial (q00 G) G ?_;intro O M w H J hR;obtain rfl:=hR;refine AR G G ?_;obtain rfl:=oI h;exact q07 G G H.ext G
theorem Y7i {p0:UInt8}{r:Bool}(h:Y3V p0=some r):Ct Tryz.prog 132 [encB p0] (fun M=>True) (fun v M=>v=Value.bool r):=by
 refine Ct.of Tryz.func132 (enters Tryz.func132 Kr G) G G G ?_;intro K M0 H hp;unfold Y3V at h;refine SR (AQ G G ?_);obtain⟨N,E,h⟩:=bnd h;refine q0c (fun e w =>∃(J:Bool) (M:Mem),e=[(2,Value.bool J)]/\St K M0 M [] w/\some J=some N) [] ?_ ?_ (trivial)
 .
  by_cases u:32<=p0.toNat
  .
   rw[l01 u] at E;refine RM G G (DT u (q1g (i:=p0.toNat) (j:=32) G G) G (MV G G (SG (q06 G) G G G (SG (Ex.leqB (i:=p0.toNat) (j:=126) G G) G G G (PT G G G (AS G G (NL ?_)))))));exact MN ⟨_,_,G,H,E⟩
  rw[l00 u] at E;refine RM G G (DF u (q1g (i:=p0.toNat) (j:=32) G G) G (MV G G (GF G G G (GF G G G (PF G G G (AS G G (NL ?_)))))));exact MN ⟨_,_,G,H,E⟩
 rintro e w ⟨J,M,rfl,H,O⟩;obtain rfl:=oI O;refine TN (RT ?_);obtain rfl:=oI h;exact q07 G G H.ext G
theorem Y6t {p0:UInt8}{r:UInt8}(h:Y3j p0=some r):Ct Tryz.prog 168 [encB p0] (fun M=>True) (fun v M=>v=encB r):=by
 refine Ct.of Tryz.func168 (enters Tryz.func168 Kr G) G G G ?_;intro E M0 H hp;unfold Y3j at h;refine SR (AQ G G ?_);obtain⟨J,u,h⟩:=bnd h;refine RM G G (ST (Ex.andB (c:=p0) (d:=15) G G) G (ST (q0p Tu9 G G u) G (AR G G ?_)));obtain rfl:=oI h;exact q07 G G H.ext G
theorem Y7x {p0:Ls}{r:List Ls}(h:Y4m p0=some r):Ct Tryz.prog 133 [S p0] (fun M=>True) (fun v M=>Sl M encS v r):=by
 refine Ct.of Tryz.func133 (enters Tryz.func133 Kr G) G G G ?_;intro w0 M0 H hp;unfold Y4m at h;refine SR (AQ G G (RG (WR.litR (enc:=encS) xty77 ([[117,116,102,56,39,39]]:List Ls) H G Kf (fun _=>G) G G (q00 G) G ?_)));intro v7 w H;refine AQ G G (SM G G (ST (q0g Tu9 G) G (MV G G (NT ?_))));obtain⟨o2,u,h⟩:=bnd h;refine q0c (fun e w =>∃(l5:List Ls) (v6:Value) (M:Mem),e=[(3,v6)]/\St w0 M0 M [RowI 9 encS v6 l5] w/\some l5=some o2) [] ?_ ?_ (trivial)
 .
  refine BL (q0l (fun m e w =>∃(K:List Ls) (N:Value) (O:Int) (M:Mem),e=[(0,S p0),(3,N),(9,I (p0.length:Int)),(10,I O)]/\St w0 M0 M [RowI 9 encS N K] w/\Y1B p0 m K O=some o2) FU [(0,_),(3,_),(9,_),(10,_)] ⟨rfl,rfl,rfl,rfl,trivial⟩ ⟨_,_,_,_,rfl,H,u⟩ ?_);rintro Z e w ⟨K,N,O,M,rfl,H,u⟩;rcases Z with _|Z
  . rw[Y1B] at u;cases u
  rw[Y1B] at u;refine SR (ST (q0m G G) G (NQ ?_));refine CB (p:=O<(p0.length:Int)) G (fun V=>?_) fun V=>?_
  .
   rw[l01 V] at u;refine KQ (BL (SM G G (AQ G G ?_)));obtain⟨b6,a4,u⟩:=bnd u;obtain⟨b7,a5,u⟩:=bnd u;refine RM G G (MV G G (MV G G (ST (q0e G G a4) G (ST (Ex.sliceC Tu9 G G G a5) G (AQ G G (SQ ?_))))));obtain⟨b8,a6,u⟩:=bnd u;obtain⟨aj,am,u⟩:=bnd u;refine RM G G (MV G G (ST (q0p Tu9 G G a6) G (q02 H (Y21 am) G trivial (q00 G) G ?_)));intro b9 M w H U hR;obtain rfl:=hR;refine ST (q0w G) G (NT ?_);obtain⟨ay,E,u⟩:=bnd u;refine q0c (fun e w =>∃(a0:Ls) (M:Mem),e=[(0,S p0),(3,N),(5,S a0),(9,I (p0.length:Int)),(10,I O)]/\St w0 M0 M [RowI 9 encS N K] w/\some a0=some ay) [] ?_ ?_ (trivial)
   .
    refine q0a G (fun J=>?_) (fun J=>?_)
    .
     replace J:aj=false:=by simpa using J
     subst J;rw[l00 l03] at E;obtain⟨az,a7,E⟩:=bnd E;obtain⟨b0,an,E⟩:=bnd E;obtain⟨ba,a8,E⟩:=bnd E;obtain⟨b1,ao,E⟩:=bnd E;refine q0v (m:=12) G G H ?_;intro w H;refine TK 0 G (fun _=>q06 G) G (TK 1 G (fun _=>q06 G) G (TK 2 G (fun _=>q0p Tu9 G G a7) G (TK 3 G (fun _=>Ex.shrB (c:=az) (m:=4) G G Dc) G (TK 5 G (fun _=>q06 G) G (TK 6 G (fun _=>q06 G) G (TK 7 G (fun _=>q0p Tu9 G G a8) G ?_))))));refine q0k (fuel:=0) [4,8,9,10,11] G Kr (q02 H (Y6t an) G trivial (q00 G) G ?_);intro bb M w H U hR;obtain rfl:=hR;refine q02 H (Y6t ao) G trivial (q00 G) G ?_;intro bc M w H U hR;obtain rfl:=hR;refine q0M (enc:=encB) xty23 ([37,b0,b1]:Ls) H G Kf (fun _=>G) G G (q00 G) G ?_;intro bd M w H U ap;refine ST (q0Y Tu23 Tu5 Tu9 H (ap) G) G (AS G G (NA (q0f Kr ?_)));exact MN ⟨_,_,G,H,E⟩
    replace J:aj=true:=by simpa using J
    subst J;rw[l01 rfl] at E;refine SK ?_;exact MN ⟨_,_,G,H,E⟩
   rintro e w ⟨a0,M,rfl,H,b2⟩;obtain rfl:=oI b2;refine TN (SQ ?_);obtain⟨be,a9,u⟩:=bnd u;refine RM G G (ST (q1x (l:=K) Tu77 H Km G) G ?_);refine ST (q0I G G a9) G (AQ G G ?_);obtain⟨bg,a1,u⟩:=bnd u;obtain⟨b3,aa,u⟩:=bnd u;refine RM G G (MV G G (WR.idxRowC (l:=K) H Tu77 Ts9 Km G G a1 (q00 G) G ?_));intro bh aq;refine ST (Ex.loadRowC H G aq Km a1 Ta9) G ?_;refine ST (q0g Tu9 G) G (MV G G (ST (q0g Tu9 G) G (ST (q0e G G aa) G (ST (q1q G G) G (NT ?_)))));refine CB (p:=b3<=(60:Int)) G (fun Y=>?_) fun Y=>?_
   .
    rw[l01 Y] at u;obtain⟨bi,a2,u⟩:=bnd u;obtain⟨b4,ab,u⟩:=bnd u;obtain⟨bj,ac,u⟩:=bnd u;obtain⟨bm,ad,u⟩:=bnd u;refine RM G G (MV G G (WR.idxRowC (l:=K) H Tu77 Ts9 Km G G a2 (q00 G) G ?_));intro bn ar;refine ST (Ex.loadRowC H G ar Km a2 Ta9) G ?_;refine MV G G (ST (q0d G G ab) G (WR.idxRowC (l:=K) H Tu77 Ts9 Km G G ac (q00 G) G ?_));intro bo au;refine WR.storeRowC (a:=b4) H G G ⟨G,G⟩ au Ud ad Ts9 (q00 G) ?_;intro w H;refine NL (IB (TN ?_));obtain⟨bp,ae,u⟩:=bnd u;refine RG (ST (q0e G G ae) G (MV G G (NL ?_)));exact AG Z ⟨_,_,_,_,G,H,u⟩ (l0a _)
   rw[l00 Y] at u;obtain⟨bq,ah,u⟩:=bnd u;refine RM G G (MV G G (q0M (enc:=encS) xty77 ([a0]:List Ls) H G Kf (fun _=>G) G G (q00 G) G ?_));intro br M w H U av;refine q0F (l:=K) xty77 G (fun _=>G) H G Ud G (av) ah (q00 G) G ?_;intro bs w H;refine AS G G (NL (IB (TN ?_)));obtain⟨bt,ai,u⟩:=bnd u;refine RG (ST (q0e G G ai) G (MV G G (NL ?_)));exact AG Z ⟨_,_,_,_,G,H,u⟩ (l0a _)
  rw[l00 V] at u;refine q0j (q03 (q03 (q0b ?_)));exact MN ⟨_,_,_,G,H,u⟩
 rintro e w ⟨l5,v6,M,rfl,H,b5⟩;obtain rfl:=oI b5;refine TN (SM G G (AR G G ?_));obtain⟨M,U,aw,H⟩:=H.freezeRow (v:=v6) (enc:=encS) (t:=9) Kv;obtain rfl:=oI h;exact q07 G G H.ext aw
set_option maxHeartbeats 4000000 in
theorem Y87 {p0:Z00} {r:Ls} (h:Y4H p0=some r):Ct Tryz.prog 95 [Value.agg #[S p0.1,S p0.2]] (fun M=>Gv0 M) (fun v M=>v=S r):=by
 refine Ct.of Tryz.func95 (enters Tryz.func95 Kr G) G G G ?_;intro w0 M0 H hp;have u:=hp;unfold Y4H at h;refine SR (q0D [_,_] H G G (q00 G) G ?_);intro a4 w H;refine AQ G G (SQ ?_);obtain⟨b1,ba,h⟩:=bnd h;refine RG (ST (q01 Tu109 G Ts9 Dc G) G (ST (XL H Ta9) G ?_));refine q02 H (Y4b ba) G trivial (q00 G) G ?_;intro v8 M w H E hR;have u:=u.mono E;obtain rfl:=hR;refine NT ?_;refine q0a G (fun aq=>?_) (fun aq=>?_)
 .
  subst aq;rw[l01 rfl] at h;refine SQ ?_;obtain⟨s4,b0,h⟩:=bnd h;obtain⟨s5,b2,h⟩:=bnd h;obtain⟨s6,b3,h⟩:=bnd h;refine RG (ST (q01 Tu109 G Ts9 Dc G) G (ST (XL H Ta9) G ?_));refine ST (q0d G G b0) G (ST (q0d G G b2) G (ST (q01 Tu109 G Ts9 Dc G) G (ST (XL H Ta9) G ?_)));refine ST (q0d G G b3) G (AR G G ?_);obtain rfl:=oI h;exact q07 G G H.ext G
 subst aq;rw[l00 l03] at h;refine KQ (SQ ?_);obtain⟨o7,e8,h⟩:=bnd h;refine q0c (fun e w =>∃(b9:Bool) (M:Mem),e=[(1,ptr a4 0),(24,Value.bool b9)]/\St w0 M0 M [.blk a4 (.cells #[S p0.1,S p0.2] 109)] w/\Gv0 M/\some b9=some o7) [] ?_ ?_ (trivial)
 .
  refine RG (ST (q01 Tu109 G Ts9 Dc G) G (ST (XL H Ta9) G ?_));refine ST (q0g Tu9 G) G ?_;by_cases aa:(p0.2.length:Int)<=(60:Int)
  .
   rw[l01 aa] at e8;obtain⟨bj,b5,e8⟩:=bnd e8;refine DT aa (q1q G G) G (MV G G (SG (q01 Tu109 G Ts9 Dc G) G G G (SG (XL H Ta9) G G G ?_)));refine q02 H (Y4X b5) G ((fun _ _ h=>FnV.of (Y7i h) (fun _ _=>trivial))) (q0h G G G) G ?_;intro bm M w H E hR;have u:=u.mono E;obtain rfl:=hR;refine PT G G G (NL ?_);exact MN ⟨_,_,G,H,u,e8⟩
  rw[l00 aa] at e8;refine DF aa (q1q G G) G (MV G G (q0i 3 G G (PF G G G (NL ?_))));exact MN ⟨_,_,G,H,u,e8⟩
 rintro e w ⟨b9,M,rfl,H,u,bb⟩;obtain rfl:=oI bb;refine TN ?_;refine q0a G (fun ac=>?_) (fun ac=>?_)
 .
  subst ac;rw[l01 rfl] at h;refine SQ ?_;obtain⟨bn,Z,h⟩:=bnd h;obtain⟨bo,a0,h⟩:=bnd h;obtain⟨_,a5,h⟩:=bnd h;obtain⟨bp,O,h⟩:=bnd h;obtain⟨bq,U,h⟩:=bnd h;obtain⟨bc,V,h⟩:=bnd h;refine q0V (fun e w =>∃  (M:Mem),e=[(2,S bc)]/\St w0 M0 M [] w/\Gv0 M) ?_ ?_
  .
   refine q0v (m:=12) G G H ?_;intro w H;refine TK 0 G (fun _=>q01 Tu109 G Ts9 Dc G) G (TK 6 G (fun _=>q01 Tu109 G Ts9 Dc G) G ?_);refine WA.three (i:=1) (j:=4) (k:=7) Kr G G G ?_ ?_ ?_
   .
    refine ST (XL H Ta9) G ?_;refine NA (TK 2 G (fun _=>q0d G G Z) G (TK 3 G (fun _=>q0d G G a0) G ?_));refine q0C (i:=4) (j:=7) Kr G G ?_ ?_
    .
     refine q0M (enc:=encS) xty77 ([[92],[92,92],[34],[92,34]]:List Ls) H G Kf (fun _=>G) G G (q00 G) G ?_;intro ae M w H E a2;have u:=u.mono E;refine NA ?_;refine q0C (i:=5) (j:=7) Kr G G ?_ ?_
     .
      refine q0R (A:=[]) (B:=[.blk a4 (.cells #[S p0.1,S p0.2] 109)]) H (Y0b a5) (q0P _) G (a2) (q00 G) G ?_;intro a8 M w its H E hR;have u:=u.mono E;obtain⟨J,Y,rfl,K,rfl⟩:=hR;simp only[l09,l07] at H;refine NA (q0k (fuel:=0) [7,8,9,10,11] G Kr (ST (XL H Ta9) G ?_));refine XC (A:=[.blk J (.cells Y 140)]) H (Y01 O) G K (q00 G) G Kt ?_;intro a6 M w its H E hR;have u:=u.mono E;obtain⟨a7,rfl,a3,rfl⟩:=hR;simp only[l09,l07] at H;refine ST (q0d G G U) G (ST (q0d G G V) G (AS G G (NA (q0f Kr ?_))));exact MP ⟨_,G,(H.pick (L':=[]) Kp),u⟩
     refine ST (XL H Ta9) G ?_;refine NA (q0k (fuel:=0) [5,8,9,10,11] G Kr (q0R (A:=[]) (B:=[.blk a4 (.cells #[S p0.1,S p0.2] 109)]) H (Y0b a5) (q0P _) G (a2) (q00 G) G ?_));intro a8 M w its H E hR;have u:=u.mono E;obtain⟨J,Y,rfl,K,rfl⟩:=hR;simp only[l09,l07] at H;refine XC (A:=[.blk J (.cells Y 140)]) H (Y01 O) G K (q00 G) G Kt ?_;intro a6 M w its H E hR;have u:=u.mono E;obtain⟨a7,rfl,a3,rfl⟩:=hR;simp only[l09,l07] at H;refine ST (q0d G G U) G (ST (q0d G G V) G (AS G G (NA (q0f Kr ?_))));exact MP ⟨_,G,(H.pick (L':=[]) Kp),u⟩
    refine ST (XL H Ta9) G ?_;refine NA (q0k (fuel:=0) [4,5,8,9,10,11] G Kr (q0M (enc:=encS) xty77 ([[92],[92,92],[34],[92,34]]:List Ls) H G Kf (fun _=>G) G G (q00 G) G ?_));intro ae M w H E a2;have u:=u.mono E;refine q0R (A:=[]) (B:=[.blk a4 (.cells #[S p0.1,S p0.2] 109)]) H (Y0b a5) (q0P _) G (a2) (q00 G) G ?_;intro a8 M w its H E hR;have u:=u.mono E;obtain⟨J,Y,rfl,K,rfl⟩:=hR;simp only[l09,l07] at H;refine XC (A:=[.blk J (.cells Y 140)]) H (Y01 O) G K (q00 G) G Kt ?_;intro a6 M w its H E hR;have u:=u.mono E;obtain⟨a7,rfl,a3,rfl⟩:=hR;simp only[l09,l07] at H;refine ST (q0d G G U) G (ST (q0d G G V) G (AS G G (NA (q0f Kr ?_))));exact MP ⟨_,G,(H.pick (L':=[]) Kp),u⟩
   .
    refine q0M (enc:=encS) xty77 ([[92],[92,92],[34],[92,34]]:List Ls) H G Kf (fun _=>G) G G (q00 G) G ?_;intro ae M w H E a2;have u:=u.mono E;refine NA ?_;refine WA.three (i:=1) (j:=5) (k:=7) Kr G G G ?_ ?_ ?_
    .
     refine ST (XL H Ta9) G ?_;refine NA (TK 2 G (fun _=>q0d G G Z) G (TK 3 G (fun _=>q0d G G a0) G ?_));refine q0C (i:=5) (j:=7) Kr G G ?_ ?_
     .
      refine q0R (A:=[]) (B:=[.blk a4 (.cells #[S p0.1,S p0.2] 109)]) H (Y0b a5) (q0P _) G (a2) (q00 G) G ?_;intro a8 M w its H E hR;have u:=u.mono E;obtain⟨J,Y,rfl,K,rfl⟩:=hR;simp only[l09,l07] at H;refine NA (q0k (fuel:=0) [7,8,9,10,11] G Kr (ST (XL H Ta9) G ?_));refine XC (A:=[.blk J (.cells Y 140)]) H (Y01 O) G K (q00 G) G Kt ?_;intro a6 M w its H E hR;have u:=u.mono E;obtain⟨a7,rfl,a3,rfl⟩:=hR;simp only[l09,l07] at H;refine ST (q0d G G U) G (ST (q0d G G V) G (AS G G (NA (q0f Kr ?_))));exact MP ⟨_,G,(H.pick (L':=[]) Kp),u⟩
     refine ST (XL H Ta9) G ?_;refine NA (q0k (fuel:=0) [5,8,9,10,11] G Kr (q0R (A:=[]) (B:=[.blk a4 (.cells #[S p0.1,S p0.2] 109)]) H (Y0b a5) (q0P _) G (a2) (q00 G) G ?_));intro a8 M w its H E hR;have u:=u.mono E;obtain⟨J,Y,rfl,K,rfl⟩:=hR;simp only[l09,l07] at H;refine XC (A:=[.blk J (.cells Y 140)]) H (Y01 O) G K (q00 G) G Kt ?_;intro a6 M w its H E hR;have u:=u.mono E;obtain⟨a7,rfl,a3,rfl⟩:=hR;simp only[l09,l07] at H;refine ST (q0d G G U) G (ST (q0d G G V) G (AS G G (NA (q0f Kr ?_))));exact MP ⟨_,G,(H.pick (L':=[]) Kp),u⟩
    .
     refine q0R (A:=[]) (B:=[.blk a4 (.cells #[S p0.1,S p0.2] 109)]) H (Y0b a5) (q0P _) G (a2) (q00 G) G ?_;intro a8 M w its H E hR;have u:=u.mono E;obtain⟨J,Y,rfl,K,rfl⟩:=hR;simp only[l09,l07] at H;refine NA ?_;refine q0C (i:=1) (j:=7) Kr G G ?_ ?_
     .
      refine ST (XL H Ta9) G ?_;refine NA (TK 2 G (fun _=>q0d G G Z) G (TK 3 G (fun _=>q0d G G a0) G (q0k (fuel:=0) [7,8,9,10,11] G Kr (ST (XL H Ta9) G ?_))));refine XC (A:=[.blk J (.cells Y 140)]) H (Y01 O) G K (q00 G) G Kt ?_;intro a6 M w its H E hR;have u:=u.mono E;obtain⟨a7,rfl,a3,rfl⟩:=hR;simp only[l09,l07] at H;refine ST (q0d G G U) G (ST (q0d G G V) G (AS G G (NA (q0f Kr ?_))));exact MP ⟨_,G,(H.pick (L':=[]) Kp),u⟩
     refine ST (XL H Ta9) G ?_;refine NA ?_;refine q0C (i:=1) (j:=8) Kr G G ?_ ?_
     .
      refine ST (XL H Ta9) G ?_;refine NA (TK 2 G (fun _=>q0d G G Z) G (TK 3 G (fun _=>q0d G G a0) G (q0k (fuel:=0) [8,9,10,11] G Kr (XC (A:=[.blk J (.cells Y 140)]) H (Y01 O) G K (q00 G) G Kt ?_))));intro a6 M w its H E hR;have u:=u.mono E;obtain⟨a7,rfl,a3,rfl⟩:=hR;simp only[l09,l07] at H;refine ST (q0d G G U) G (ST (q0d G G V) G (AS G G (NA (q0f Kr ?_))));exact MP ⟨_,G,(H.pick (L':=[]) Kp),u⟩
     refine XC (A:=[.blk J (.cells Y 140)]) H (Y01 O) G K (q00 G) G Kt ?_;intro a6 M w its H E hR;have u:=u.mono E;obtain⟨a7,rfl,a3,rfl⟩:=hR;simp only[l09,l07] at H;refine NA (q0k (fuel:=0) [1,2,3,9,10,11] G Kr (ST (XL H Ta9) G ?_));refine ST (q0d G G Z) G (ST (q0d G G a0) G (ST (q0d G G U) G (ST (q0d G G V) G (AS G G (NA (q0f Kr ?_))))));exact MP ⟨_,G,(H.pick (L':=[]) Kp),u⟩
    refine ST (XL H Ta9) G ?_;refine NA ?_;refine q0C (i:=1) (j:=5) Kr G G ?_ ?_
    .
     refine ST (XL H Ta9) G ?_;refine NA (TK 2 G (fun _=>q0d G G Z) G (TK 3 G (fun _=>q0d G G a0) G (q0k (fuel:=0) [5,8,9,10,11] G Kr (q0R (A:=[]) (B:=[.blk a4 (.cells #[S p0.1,S p0.2] 109)]) H (Y0b a5) (q0P _) G (a2) (q00 G) G ?_))));intro a8 M w its H E hR;have u:=u.mono E;obtain⟨J,Y,rfl,K,rfl⟩:=hR;simp only[l09,l07] at H;refine XC (A:=[.blk J (.cells Y 140)]) H (Y01 O) G K (q00 G) G Kt ?_;intro a6 M w its H E hR;have u:=u.mono E;obtain⟨a7,rfl,a3,rfl⟩:=hR;simp only[l09,l07] at H;refine ST (q0d G G U) G (ST (q0d G G V) G (AS G G (NA (q0f Kr ?_))));exact MP ⟨_,G,(H.pick (L':=[]) Kp),u⟩
    refine q0R (A:=[]) (B:=[.blk a4 (.cells #[S p0.1,S p0.2] 109)]) H (Y0b a5) (q0P _) G (a2) (q00 G) G ?_;intro a8 M w its H E hR;have u:=u.mono E;obtain⟨J,Y,rfl,K,rfl⟩:=hR;simp only[l09,l07] at H;refine NA ?_;refine q0C (i:=1) (j:=8) Kr G G ?_ ?_
    .
     refine ST (XL H Ta9) G ?_;refine NA (TK 2 G (fun _=>q0d G G Z) G (TK 3 G (fun _=>q0d G G a0) G (q0k (fuel:=0) [8,9,10,11] G Kr (XC (A:=[.blk J (.cells Y 140)]) H (Y01 O) G K (q00 G) G Kt ?_))));intro a6 M w its H E hR;have u:=u.mono E;obtain⟨a7,rfl,a3,rfl⟩:=hR;simp only[l09,l07] at H;refine ST (q0d G G U) G (ST (q0d G G V) G (AS G G (NA (q0f Kr ?_))));exact MP ⟨_,G,(H.pick (L':=[]) Kp),u⟩
    refine XC (A:=[.blk J (.cells Y 140)]) H (Y01 O) G K (q00 G) G Kt ?_;intro a6 M w its H E hR;have u:=u.mono E;obtain⟨a7,rfl,a3,rfl⟩:=hR;simp only[l09,l07] at H;refine NA (q0k (fuel:=0) [1,2,3,9,10,11] G Kr (ST (XL H Ta9) G ?_));refine ST (q0d G G Z) G (ST (q0d G G a0) G (ST (q0d G G U) G (ST (q0d G G V) G (AS G G (NA (q0f Kr ?_))))));exact MP ⟨_,G,(H.pick (L':=[]) Kp),u⟩
   refine ST (XL H Ta9) G ?_;refine NA ?_;refine q0C (i:=1) (j:=4) Kr G G ?_ ?_
   .
    refine ST (XL H Ta9) G ?_;refine NA (TK 2 G (fun _=>q0d G G Z) G (TK 3 G (fun _=>q0d G G a0) G (q0k (fuel:=0) [4,5,8,9,10,11] G Kr (q0M (enc:=encS) xty77 ([[92],[92,92],[34],[92,34]]:List Ls) H G Kf (fun _=>G) G G (q00 G) G ?_))));intro ae M w H E a2;have u:=u.mono E;refine q0R (A:=[]) (B:=[.blk a4 (.cells #[S p0.1,S p0.2] 109)]) H (Y0b a5) (q0P _) G (a2) (q00 G) G ?_;intro a8 M w its H E hR;have u:=u.mono E;obtain⟨J,Y,rfl,K,rfl⟩:=hR;simp only[l09,l07] at H;refine XC (A:=[.blk J (.cells Y 140)]) H (Y01 O) G K (q00 G) G Kt ?_;intro a6 M w its H E hR;have u:=u.mono E;obtain⟨a7,rfl,a3,rfl⟩:=hR;simp only[l09,l07] at H;refine ST (q0d G G U) G (ST (q0d G G V) G (AS G G (NA (q0f Kr ?_))));exact MP ⟨_,G,(H.pick (L':=[]) Kp),u⟩
   refine q0M (enc:=encS) xty77 ([[92],[92,92],[34],[92,34]]:List Ls) H G Kf (fun _=>G) G G (q00 G) G ?_;intro ae M w H E a2;have u:=u.mono E;refine NA ?_;refine q0C (i:=1) (j:=5) Kr G G ?_ ?_
   .
    refine ST (XL H Ta9) G ?_;refine NA (TK 2 G (fun _=>q0d G G Z) G (TK 3 G (fun _=>q0d G G a0) G (q0k (fuel:=0) [5,8,9,10,11] G Kr (q0R (A:=[]) (B:=[.blk a4 (.cells #[S p0.1,S p0.2] 109)]) H (Y0b a5) (q0P _) G (a2) (q00 G) G ?_))));intro a8 M w its H E hR;have u:=u.mono E;obtain⟨J,Y,rfl,K,rfl⟩:=hR;simp only[l09,l07] at H;refine XC (A:=[.blk J (.cells Y 140)]) H (Y01 O) G K (q00 G) G Kt ?_;intro a6 M w its H E hR;have u:=u.mono E;obtain⟨a7,rfl,a3,rfl⟩:=hR;simp only[l09,l07] at H;refine ST (q0d G G U) G (ST (q0d G G V) G (AS G G (NA (q0f Kr ?_))));exact MP ⟨_,G,(H.pick (L':=[]) Kp),u⟩
   refine q0R (A:=[]) (B:=[.blk a4 (.cells #[S p0.1,S p0.2] 109)]) H (Y0b a5) (q0P _) G (a2) (q00 G) G ?_;intro a8 M w its H E hR;have u:=u.mono E;obtain⟨J,Y,rfl,K,rfl⟩:=hR;simp only[l09,l07] at H;refine NA ?_;refine q0C (i:=1) (j:=8) Kr G G ?_ ?_
   .
    refine ST (XL H Ta9) G ?_;refine NA (TK 2 G (fun _=>q0d G G Z) G (TK 3 G (fun _=>q0d G G a0) G (q0k (fuel:=0) [8,9,10,11] G Kr (XC (A:=[.blk J (.cells Y 140)]) H (Y01 O) G K (q00 G) G Kt ?_))));intro a6 M w its H E hR;have u:=u.mono E;obtain⟨a7,rfl,a3,rfl⟩:=hR;simp only[l09,l07] at H;refine ST (q0d G G U) G (ST (q0d G G V) G (AS G G (NA (q0f Kr ?_))));exact MP ⟨_,G,(H.pick (L':=[]) Kp),u⟩
   refine XC (A:=[.blk J (.cells Y 140)]) H (Y01 O) G K (q00 G) G Kt ?_;intro a6 M w its H E hR;have u:=u.mono E;obtain⟨a7,rfl,a3,rfl⟩:=hR;simp only[l09,l07] at H;refine NA (q0k (fuel:=0) [1,2,3,9,10,11] G Kr (ST (XL H Ta9) G ?_));refine ST (q0d G G Z) G (ST (q0d G G a0) G (ST (q0d G G U) G (ST (q0d G G V) G (AS G G (NA (q0f Kr ?_))))));exact MP ⟨_,G,(H.pick (L':=[]) Kp),u⟩
  rintro e w ⟨M,rfl,H,u⟩;refine TN (RT ?_);obtain rfl:=oI h;exact q07 G G H.ext G
 subst ac;rw[l00 l03] at h;refine KQ (RG (AQ G G (SQ ?_)));obtain⟨a9,b6,h⟩:=bnd h;refine RG (ST (q01 Tu109 G Ts9 Dc G) G (ST (XL H Ta9) G ?_));refine q02 H (Y7x b6) G trivial (q00 G) G ?_;intro ah M w H E hR;have u:=u.mono E;have a1:=hR;refine ST (q0o Tu77 a1 G) G (MV G G (NT ?_));obtain⟨az,N,h⟩:=bnd h;refine q0c (fun e w =>∃(ar:Ls) (M:Mem),e=[(3,S ar)]/\St w0 M0 M [] w/\Gv0 M/\some ar=some az) [] ?_ ?_ (trivial)
 .
  refine BL (q0l (fun m e w =>∃(au:Ls) (ab:Int) (M:Mem),e=[(1,ptr a4 0),(3,S au),(38,ah),(39,I (a9.length:Int)),(40,I ab)]/\St w0 M0 M [.blk a4 (.cells #[S p0.1,S p0.2] 109)] w/\Gv0 M/\Sl M encS ah a9/\Y1S p0 a9 m au ab=some az) FU [(1,_),(3,_),(38,_),(39,_),(40,_)] ⟨rfl,rfl,rfl,rfl,rfl,trivial⟩ ⟨_,_,_,rfl,H,u,a1,N⟩ ?_);rintro av e w ⟨au,ab,M,rfl,H,u,a1,N⟩;rcases av with _|av
  . rw[Y1S] at N;cases N
  rw[Y1S] at N;refine SR (ST (q0m G G) G (NQ ?_));refine CB (p:=ab<(a9.length:Int)) G (fun ad=>?_) fun ad=>?_
  .
   rw[l01 ad] at N;refine KQ (BL (SQ ?_));obtain⟨br,ax,N⟩:=bnd N;obtain⟨bi,bs,b7,b8⟩:=a1.atC ax;refine RM G G (ST (q0q b7 Tu77 Ts9 G G) G (ST (q0n H G b8 Ta9) G (AS G G (AN G G ?_))));obtain⟨bt,ai,N⟩:=bnd N;obtain⟨bu,aj,N⟩:=bnd N;obtain⟨bv,aw,N⟩:=bnd N;obtain⟨bw,ak,N⟩:=bnd N;obtain⟨bx,al,N⟩:=bnd N;obtain⟨bz,am,N⟩:=bnd N;obtain⟨bd,an,N⟩:=bnd N;refine q0V (fun e w =>∃  (M:Mem),e=[(1,ptr a4 0),(3,S bd),(38,ah),(39,I (a9.length:Int)),(40,I ab)]/\St w0 M0 M [.blk a4 (.cells #[S p0.1,S p0.2] 109)] w/\Gv0 M/\Sl M encS ah a9) ?_ ?_
   .
    refine q0v (m:=13) G G H ?_;intro w H;refine TK 0 G (fun _=>q06 G) G (TK 1 G (fun _=>q01 Tu109 G Ts9 Dc G) G (TK 5 G (fun _=>q06 G) G (TK 9 G (fun _=>q06 G) G ?_)));refine q0C (i:=2) (j:=6) Kr G G ?_ ?_
    .
     refine ST (XL H Ta9) G ?_;refine NA (TK 3 G (fun _=>q0d G G ai) G (TK 4 G (fun _=>q0d G G aj) G (q0k (fuel:=0) [6,7,8,10,11,12] G Kr (q02 H (Y2n aw) G (u) (q00 G) G ?_))));intro be M w H E hR;have u:=u.mono E;have a1:=a1.mono E;obtain rfl:=hR;refine ST (q0d G G ak) G (ST (q0d G G al) G (ST (q0d G G am) G (ST (q0d G G an) G (AS G G (NA (q0f Kr ?_))))));exact MP ⟨_,G,H,u,a1⟩
    refine q02 H (Y2n aw) G (u) (q00 G) G ?_;intro be M w H E hR;have u:=u.mono E;have a1:=a1.mono E;obtain rfl:=hR;refine NA (q0k (fuel:=0) [2,3,4,7,8,10,11,12] G Kr (ST (XL H Ta9) G ?_));refine ST (q0d G G ai) G (ST (q0d G G aj) G (ST (q0d G G ak) G (ST (q0d G G al) G (ST (q0d G G am) G (ST (q0d G G an) G (AS G G (NA (q0f Kr ?_))))))));exact MP ⟨_,G,H,u,a1⟩
   rintro e w ⟨M,rfl,H,u,a1⟩;refine IB (TN ?_);obtain⟨c0,ay,N⟩:=bnd N;refine RG (ST (q0e G G ay) G (MV G G (NL ?_)));exact AG av ⟨_,_,_,G,H,u,a1,N⟩ (l0a _)
  rw[l00 ad] at N;refine q0j (q03 (q03 (q0b ?_)));exact MN ⟨_,_,G,(H.pick (L':=[]) Kp),u,N⟩
 rintro e w ⟨ar,M,rfl,H,u,bg⟩;obtain rfl:=oI bg;refine TN (SM G G (AR G G ?_));obtain rfl:=oI h;exact q07 G G H.ext G
theorem Y5b {p0:Z0i}{O:Value}{r:Z0j}(h:Y3L p0=some r):Ct Tryz.prog 56 [Value.agg #[S p0.1,S p0.2.1,O]] (fun M=>Gv0 M/\Tabs M/\SlS M 2 xenc109 O p0.2.2) (fun v M=>v=Value.tuple #[S r.1,Value.agg #[I r.2.1,I r.2.2]]):=by
 refine Ct.of Tryz.func56 (enters Tryz.func56 Kr G) G G G ?_;intro w0 M0 H hp;obtain⟨u,N,E⟩:=hp;unfold Y3L at h;refine SR (q0D [_,_,_] H G G (q00 G) G ?_);intro am w H;refine AS G G (q09 [_,_] H Tz28 G (q00 G) G ?_);intro U w H;refine NQ (SQ ?_);obtain⟨⟨n1,n2⟩,ah,h⟩:=bnd h;try dsimp only at h
 refine RG (ST (q08 H G Km Ta105 Ts105 Kf) G ?_);refine q02 H (Y48 ah) G ⟨N,E⟩ (q00 G) G ?_;intro v9 M w H K hR;have u:=u.mono K;have N:=N.mono K;have E:=E.mono K;try dsimp only at hR
 obtain rfl:=hR;refine q09 [_,_] H Tz28 G (q00 G) G ?_;intro an w H;refine q04 [_,_] H G G G Ku Ts28 G Kf Kf (q00 G) ?_;intro w H;refine NQ ?_;obtain⟨b4,ai,h⟩:=bnd h;refine RG (ST (q08 H G Km Ta28 Ts28 Kf) G ?_);refine q02 H (Y06 ai) G trivial (q00 G) G ?_;intro ao M w H K hR;have u:=u.mono K;have N:=N.mono K;have E:=E.mono K;obtain rfl:=hR;refine NT ?_;refine q0a G (fun a1=>?_) (fun a1=>?_)
 .
  subst a1;rw[l01 rfl] at h;refine SQ (q0v (m:=3) G G H ?_);intro w H;refine TK 1 G (fun _=>q1v G) G (q0k (fuel:=0) [0,2] G Kr (ST (q08 H G Km Ta28 Ts28 Kf) G ?_));refine q04 [_,_] H G G G Ku Ts28 G Kf Kf (q00 G) ?_;intro w H;refine NA (q0f Kr (TN (RT ?_)));obtain rfl:=oI h;exact q0r G G ⟨_,G,H.loadAgg Km Ta28 Ts28 Kf⟩ H.ext G
 subst a1;rw[l00 l03] at h;refine KQ ?_;obtain⟨s7,a7,h⟩:=bnd h;obtain⟨s8,a8,h⟩:=bnd h;refine RG (ST (q01 Tu105 G Ts9 Dc G) G (ST (XL H Ta9) G ?_));refine ST (q0d G G a7) G (ST (q01 Tu105 G Ts9 Dc G) G (ST (XL H Ta9) G ?_));refine ST (q0d G G a8) G (AQ G G (SR (ST (q01 Tu105 G Ts103 Dc G) G (ST (XL H Ta103) G ?_))));refine ST (q0L Tu103 E G) G (MV G G (NT ?_));obtain⟨o9,J,h⟩:=bnd h;refine q0c (fun e w =>∃(Z:Ls) (M:Mem),e=[(3,ptr U 0),(5,S Z)]/\St w0 M0 M [.blk U (.cells #[I 0,I 0] 28)] w/\Gv0 M/\Tabs M/\some Z=some o9) [] ?_ ?_ (trivial)
 .
  refine BL ?_;refine q0l (fun m e w =>∃(a2:Ls) (a0:Int) (M:Mem),e=[(3,ptr U 0),(5,S a2),(20,O),(21,I (p0.2.2.length:Int)),(22,I a0)]/\St w0 M0 M [.blk U (.cells #[I 0,I 0] 28)] w/\Gv0 M/\Tabs M/\SlS M 2 xenc109 O p0.2.2/\Y2f p0 m a2 a0=some o9) FU [(3,_),(5,_),(20,_),(21,_),(22,_)] ⟨rfl,rfl,rfl,rfl,rfl,trivial⟩ ⟨_,_,_,rfl,(H.pick (L':=[.blk U (.cells #[I 0,I 0] 28)]) Kp),u,N,E,J⟩ ?_;rintro a3 e w ⟨a2,a0,M,rfl,H,u,N,E,J⟩;rcases a3 with _|a3
  . rw[Y2f] at J;cases J
  rw[Y2f] at J;refine SR (ST (q0m G G) G (NQ ?_));refine CB (p:=a0<(p0.2.2.length:Int)) G (fun V=>?_) fun V=>?_
  .
   rw[l01 V] at J;refine KQ (BL (SQ ?_));obtain⟨ap,a4,J⟩:=bnd J;obtain⟨al,aq,a9,aa⟩:=E.atC a4;refine RG (ST (q0q a9 Tu103 Ts109 G G) G (ST (q0E H G aa Ta109 Ts109 Kf) G ?_));refine q09 [_,_] H Tz109 G (q00 G) G ?_;intro ar w H;refine q04 [_,_] H G G G Ku Ts109 G Kf Kf (q00 G) ?_;intro w H;refine NT ?_;obtain⟨au,ab,J⟩:=bnd J;obtain⟨av,a5,J⟩:=bnd J;refine RM G G (ST (q08 H G Km Ta109 Ts109 Kf) G ?_);refine q02 H (Y87 ab) G (u) (q00 G) G ?_;intro aw M w H K hR;have u:=u.mono K;have N:=N.mono K;have E:=E.mono K;obtain rfl:=hR;refine ST (q0d G G a5) G (AS G G (NL (IB (TN ?_))));obtain⟨ax,a6,J⟩:=bnd J;refine RG (ST (q0e G G a6) G (MV G G (NL ?_)));exact AG a3 ⟨_,_,_,G,(H.pick (L':=[.blk U (.cells #[I 0,I 0] 28)]) Kp),u,N,E,J⟩ (l0a _)
  rw[l00 V] at J;refine q0j (q03 (q03 (q0b ?_)));exact MN ⟨_,_,G,H,u,N,J⟩
 rintro e w ⟨Z,M,rfl,H,u,N,ak⟩;obtain rfl:=oI ak;refine TN (SQ (SM G G (ST (q0g Tu9 G) G (ST (q0A G G) G (NT ?_)))));refine CB (p:=(4000:Int)<(Z.length:Int)) G (fun Y=>?_) fun Y=>?_
 .
  rw[l01 Y] at h;refine SQ ?_;obtain⟨⟨ay,az⟩,ac,h⟩:=bnd h;try dsimp only at h
  refine RG (q02 H (Y02 ac) G trivial (q00 G) G ?_);intro b0 M w H K hR;try dsimp only at hR
  obtain rfl:=hR;refine AS G G (q04 [_,_] H G G G Ku Ts28 G Kf Kf (q00 G) ?_);intro w H;refine NR ?_;obtain rfl:=oI h;exact q0r G G ⟨_,G,H.loadAgg Km Ta28 Ts28 Kf⟩ H.ext G
 rw[l00 Y] at h;refine KQ ?_;obtain⟨⟨b1,b2⟩,ad,h⟩:=bnd h;try dsimp only at h
 refine RM G G (q02 H (Y07 ad) G trivial (q00 G) G ?_);intro b3 M w H K hR;try dsimp only at hR
 obtain rfl:=hR;refine AS G G (q04 [_,_] H G G G Ku Ts28 G Kf Kf (q00 G) ?_);intro w H;refine NR ?_;obtain rfl:=oI h;exact q0r G G ⟨_,G,H.loadAgg Km Ta28 Ts28 Kf⟩ H.ext G
theorem Y8z {p0:List Z00}{a0:Value}{r:Z0l}(h:Y5k p0=some r):Ct Tryz.prog 46 [a0] (fun M=>Gv2 M/\Gv1 M/\Gv3 M/\Gv0 M/\Tabs M/\SlS M 2 xenc46 a0 p0) (fun v M =>∃x0,v=Value.tuple #[x0,Value.bool r.2]/\SlS M 2 xenc46 x0 r.1):=by
 refine Ct.of Tryz.func46 (enters Tryz.func46 Kr G) G G G ?_;intro w0 M0 H hp;obtain⟨V,Y,gM,u,N,J⟩:=hp;unfold Y5k at h;refine SR (AS G G (AQ G G ?_));obtain⟨⟨⟨s1,s2,l3⟩,n4,b5⟩,aa,h⟩:=bnd h;try dsimp only at h
 refine RM G G (q1l H (Y4z aa) G ⟨V,Y,gM,u,N,J⟩ (q00 G) G ?_);intro ai M w its H E hR;have u:=u.mono E;have N:=N.mono E;have J:=J.mono E;try dsimp only at hR
 obtain⟨K,rfl,rfl⟩:=hR;simp only[l09,l07] at H;refine MV G G (ST (q05 G G) G (ST (q05 G G) G (ST (q05 G G) G (q09 [_,_,_] H Tz105 G (q00 G) G ?_))));intro aj w H;refine q04 [_,_,_] H G G G Ku Ts105 G Kf (by simp only[l0i,l0u,(H.rowOneS (v:=K) Km).2];rfl) (q00 G) ?_;intro w H;refine AS G G (AQ G G ?_);obtain⟨l8,a3,h⟩:=bnd h;refine RG (ST (q01 Tu105 G Ts103 Dc G) G (ST (XL H Ta103) G ?_));refine XC (A:=[RowS 109 2 xenc109 K l3]) H (Y4U a3) G ((fun _ _ h=>FnV.of (Y7w h) (fun _ _=>trivial))) (q00 G) G Kt ?_;intro ab M w its H E hR;have u:=u.mono E;have N:=N.mono E;have J:=J.mono E;obtain rfl:=hR;simp only[l09,l07] at H;refine ST (q01 Tu105 G Ts103 Dc G) G (q0O [_,_,_] H G G (H.rowOneS Km) Ku Kf Ts103 (by first|decide|(simp;done)|(simp;omega)) (q00 G) ?_);intro w H;refine NQ ?_;obtain⟨⟨ac,⟨ak,al⟩⟩,a4,h⟩:=bnd h;try dsimp only at h
 refine RG (ST (q08 H G Km Ta105 Ts105 Kf) G ?_);obtain⟨M,E,ad,H⟩:=H.freezeRowS (v:=ab) (enc:=xenc109) (t:=109) Kv (fun _=>rfl);have u:=u.mono E;have N:=N.mono E;have J:=J.mono E;refine q02 H (Y5b a4) G ⟨u,N,ad⟩ (q00 G) G ?_;intro am M w H E hR;have J:=J.mono E;try dsimp only at hR
 obtain rfl:=hR;refine MV G G (ST (q05 G G) G (ST (q05 G G) G (q09 [_,_] H Tz28 G (q00 G) G ?_)));intro an w H;refine AS G G (q04 [_,_] H G G G Ku Ts28 G Kf Kf (q00 G) ?_);intro w H;refine NQ (SQ ?_);obtain⟨ao,a5,h⟩:=bnd h;refine RG (ST (q08 H G Km Ta28 Ts28 Kf) G ?_);refine q02 H (Y06 a5) G trivial (q00 G) G ?_;intro ap M w H E hR;have J:=J.mono E;obtain rfl:=hR;refine NT ?_;refine q0a G (fun O=>?_) (fun O=>?_)
 .
  subst O;rw[l01 rfl] at h;refine SR (AS G G (AR G G ?_));obtain rfl:=oI h;exact q0r G G G H.ext (⟨_,G,(q1a _ _ (fun _=>G))⟩)
 subst O;rw[l00 l03] at h;refine KQ ?_;obtain⟨ae,a6,h⟩:=bnd h;refine RM G G (q1l H (Y2x a6) G (J) (q00 G) G ?_);intro a1 M w its H E hR;obtain⟨a1,rfl,rfl⟩:=hR;simp only[l09,l07] at H;refine AQ G G ?_;obtain⟨a2,U,h⟩:=bnd h;obtain⟨aq,Z,h⟩:=bnd h;refine RM G G (MV G G (MV G G (q0x (l:=ae) H Tu22 Ts46 Km G G U (q00 G) G ?_)));intro ar a7;refine ST (q01 Tu46 G Ts9 Dc G) G (WR.storeRowFC (j:=1) (a:=a2) (a':=(a2.1,ac)) H G G ⟨G,G⟩ a7 Ud (fun _=>G) U Z G G Ts9 (q00 G) ?_);intro w H;refine NT (SM G G (AS G G (AR G G ?_)));obtain⟨M,E,a8,H⟩:=H.freezeRowS (v:=a1) (enc:=xenc46) (t:=46) Kv (fun _=>rfl);obtain rfl:=oI h;exact q0r G G G H.ext (⟨_,G,a8⟩)
theorem Y5N {self:Z03->(List Z00)->Ls->Int->Option Z0r}(ih :∀{p0:Z03} {p1:List Z00} {p2:Ls} {p3:Int} {N:Nat} {a3:Value} {ac:Value} {r:Z0r},self p0 p1 p2 p3=some r->CtX Tryz.prog 22 [ptr N 0,a3,ac,I p3] [.blk N (.cells #[I p0.1,I p0.2.1,I p0.2.2] 59)] (fun M=>Gv2 M/\Gv1 M/\Gv3 M/\Gv0 M/\Tabs M/\SlS M 2 xenc46 a3 p1/\Sl M encB ac p2) (fun v M its =>∃O U V,v=Value.tuple #[Value.agg #[O,U,V],Value.bool r.2.1]/\SlS M 2 xenc46 O r.1.1/\Sl M encB U r.1.2.1/\SlR xrl39 M V r.1.2.2/\its=[.blk N (.cells #[I r.2.2.1,I r.2.2.2.1,I r.2.2.2.2] 59)])){p0:Z03}{p1:Ls}{p2:Int}{N:Nat}{a3:Value}{r:Z0r}(h:Y1i self p0 p1 p2=some r):CtX Tryz.prog 47 [ptr N 0,a3,I p2] [.blk N (.cells #[I p0.1,I p0.2.1,I p0.2.2] 59)] (fun M=>Gv2 M/\Gv1 M/\Gv3 M/\Gv0 M/\Tabs M/\Sl M encB a3 p1) (fun v M its =>∃O U V,v=Value.tuple #[Value.agg #[O,U,V],Value.bool r.2.1]/\SlS M 2 xenc46 O r.1.1/\Sl M encB U r.1.2.1/\SlR xrl39 M V r.1.2.2/\its=[.blk N (.cells #[I r.2.2.1,I r.2.2.2.1,I r.2.2.2.2] 59)]):=by
 refine q0W Tryz.func47 (enters Tryz.func47 Kr G) G G G ?_;intro w0 M0 H hp;obtain⟨J,K,gM,E,gT,Y⟩:=hp;unfold Y1i at h;refine SR (q09 [_,_,_] H Tz39 G (q00 G) G ?_);intro aw w H;refine AQ G G ?_;obtain⟨⟨l1,n2,⟨n3,n4⟩⟩,am,h⟩:=bnd h;try dsimp only at h
 refine RM G G (q02 H (Y6p am) G ⟨gM,Y⟩ (q00 G) G ?_);intro ax M w H u hR;have J:=J.mono u;have K:=K.mono u;have gM:=gM.mono u;have E:=E.mono u;have gT:=gT.mono u;have Y:=Y.mono u;try dsimp only at hR
 obtain⟨ar,rfl,a2⟩:=hR;refine MV G G (ST (q05 G G) G (ST (q05 G G) G (ST (q05 G G) G (q09 [_,_] H Tz28 G (q00 G) G ?_))));intro au w H;refine AS G G (AS G G (q04 [_,_] H G G G Ku Ts28 G Kf Kf (q00 G) ?_));intro w H;refine NQ (SQ ?_);obtain⟨b6,an,h⟩:=bnd h;refine RG (ST (q08 H G Km Ta28 Ts28 Kf) G ?_);refine q02 H (Y06 an) G trivial (q00 G) G ?_;intro ay M w H u hR;have J:=J.mono u;have K:=K.mono u;have gM:=gM.mono u;have E:=E.mono u;have gT:=gT.mono u;have Y:=Y.mono u;have a2:=a2.mono u;obtain rfl:=hR;refine NT ?_;refine q0a G (fun aa=>?_) (fun aa=>?_)
 .
  subst aa;rw[l01 rfl] at h;refine SQ ?_;obtain⟨⟨n9,ao⟩,ad,h⟩:=bnd h;try dsimp only at h
  refine RM G G (ST (q01 Tu28 G Ts3 Dc G) G (ST (XL H Ta3) G ?_));refine q02 H (Y02 ad) G trivial (q00 G) G ?_;intro az M w H u hR;try dsimp only at hR
  obtain rfl:=hR;refine FN G G Tu59 G Ts28 G G (WR.storeP [_,_,_] H G G G Ku Ts28 G G G G (q00 G) ?_);intro w H;refine NQ (RG (ST (q0t [Value.slice none 0 0,Value.slice none 0 0,Value.slice none 0 0] Tu39 Tz39 (xplaces39 Tu39) G G) G (q04 [_,_,_] H G G G Ku Ts39 G Kf Kf (q00 G) ?_)));intro w H;refine AR G G ?_;obtain rfl:=oI h;exact q0Z (its:=[.blk N (.cells #[I p0.1,I n9,I ao] 59)]) G ⟨_,G,H.loadAgg Km Ta39 Ts39 Kf⟩ G H Kp ⟨_,_,_,G,(q1a _ _ (fun _=>G)),q0U _ _,q1F,G⟩
 subst aa;rw[l00 l03] at h;refine KQ (SM G G (FN G G Tu59 G Ts3 G G (ST (XL H Ta3) G ?_)));refine ST (q0s G G) G (NT ?_);refine CB (p:=p0.1=(40:Int)) G (fun a4=>?_) fun a4=>?_
 .
  rw[l01 a4] at h;refine SQ ?_;obtain⟨⟨ap,aq⟩,ae,h⟩:=bnd h;try dsimp only at h
  refine RM G G (q02 H (Y02 ae) G trivial (q00 G) G ?_);intro b0 M w H u hR;try dsimp only at hR
  obtain rfl:=hR;refine FN G G Tu59 G Ts28 G G (WR.storeP [_,_,_] H G G G Ku Ts28 G G G G (q00 G) ?_);intro w H;refine NQ (RG (ST (q0t [Value.slice none 0 0,Value.slice none 0 0,Value.slice none 0 0] Tu39 Tz39 (xplaces39 Tu39) G G) G (q04 [_,_,_] H G G G Ku Ts39 G Kf Kf (q00 G) ?_)));intro w H;refine AR G G ?_;obtain rfl:=oI h;exact q0Z (its:=[.blk N (.cells #[I p0.1,I ap,I aq] 59)]) G ⟨_,G,H.loadAgg Km Ta39 Ts39 Kf⟩ G H Kp ⟨_,_,_,G,(q1a _ _ (fun _=>G)),q0U _ _,q1F,G⟩
 rw[l00 a4] at h;refine KQ ?_;obtain⟨b1,a5,h⟩:=bnd h;obtain⟨⟨⟨b2,b3,b4⟩,b5,ab⟩,ah,h⟩:=bnd h;try dsimp only at h
 refine RM G G (MV G G (MV G G (MV G G (ST (q1E Tu23 Ts5 (Y) G G a5) G (MV G G (XC (A:=[.blk N (.cells #[I p0.1,I p0.2.1,I p0.2.2] 59)]) H (ih ah) G ⟨J,K,gM,E,gT,a2,(Y.subV a5)⟩ (q00 G) G Kt ?_))))));intro b7 M w its H u hR;try dsimp only at hR
 obtain⟨ai,aj,ak,rfl,Z,a0,a1,rfl⟩:=hR;simp only[l09,l07] at H;refine ST (q05 G G) G (ST (q05 G G) G (q04 [_,_,_] H G G G Ku Ts39 G Kf (by simp only[l0i,l0u,(Z).one.2,(a0).one.2,(a1).one.2];rfl) (q00 G) ?_));intro w H;refine AR G G ?_;obtain rfl:=oI h;exact q0Z (its:=[.blk N (.cells #[I ab.1,I ab.2.1,I ab.2.2] 59)]) G ⟨_,G,H.loadAgg Km Ta39 Ts39 Kf⟩ G H Kp ⟨_,_,_,G,Z,a0,a1,G⟩
theorem Y5p {self:Z03->(List Z00)->Ls->Int->Option Z0r}(ih :∀{p0:Z03} {p1:List Z00} {p2:Ls} {p3:Int} {U:Nat} {ap:Value} {aq:Value} {r:Z0r},self p0 p1 p2 p3=some r->CtX Tryz.prog 22 [ptr U 0,ap,aq,I p3] [.blk U (.cells #[I p0.1,I p0.2.1,I p0.2.2] 59)] (fun M=>Gv2 M/\Gv1 M/\Gv3 M/\Gv0 M/\Tabs M/\SlS M 2 xenc46 ap p1/\Sl M encB aq p2) (fun v M its =>∃ah ai aj,v=Value.tuple #[Value.agg #[ah,ai,aj],Value.bool r.2.1]/\SlS M 2 xenc46 ah r.1.1/\Sl M encB ai r.1.2.1/\SlR xrl39 M aj r.1.2.2/\its=[.blk U (.cells #[I r.2.2.1,I r.2.2.2.1,I r.2.2.2.2] 59)])){p0:Z03}{p1:List Z00}{p2:Ls}{p3:Int}{U:Nat}{ap:Value}{aq:Value}{r:Z0r}(h:Y1s self p0 p1 p2 p3=some r):CtX Tryz.prog 22 [ptr U 0,ap,aq,I p3] [.blk U (.cells #[I p0.1,I p0.2.1,I p0.2.2] 59)] (fun M=>Gv2 M/\Gv1 M/\Gv3 M/\Gv0 M/\Tabs M/\SlS M 2 xenc46 ap p1/\Sl M encB aq p2) (fun v M its =>∃ah ai aj,v=Value.tuple #[Value.agg #[ah,ai,aj],Value.bool r.2.1]/\SlS M 2 xenc46 ah r.1.1/\Sl M encB ai r.1.2.1/\SlR xrl39 M aj r.1.2.2/\its=[.blk U (.cells #[I r.2.2.1,I r.2.2.2.1,I r.2.2.2.2] 59)]):=by
 refine q0W Tryz.func22 (enters Tryz.func22 Kr G) G G G ?_;intro w0 M0 H hp;obtain⟨J,K,V,E,Y,Z,a4⟩:=hp;unfold Y1s at h;refine SR (q09 [_,_,_] H Tz39 G (q00 G) G ?_);intro ak w H;refine AQ G G ?_;obtain⟨n1,cm,h⟩:=bnd h;refine RM G G (FN G G Tu59 G Ts3 G G (ST (XL H Ta3) G ?_));refine ST (q0e G G cm) G (FN G G Tu59 G Ts3 G G (q1d [_,_,_] H G G Ku Kf Ts3 (by first|decide|(simp;done)|(simp;omega)) Kf Kf (q00 G) ?_));intro w H;refine NQ ?_;obtain⟨l2,cy,h⟩:=bnd h;obtain⟨l5,cz,h⟩:=bnd h;refine RM G G (q1l H (Y2x cy) G (Z) (q00 G) G ?_);intro bn M w its H u hR;have J:=J.mono u;have K:=K.mono u;have V:=V.mono u;have E:=E.mono u;have Y:=Y.mono u;have Z:=Z.mono u;have a4:=a4.mono u;obtain⟨bn,rfl,rfl⟩:=hR;simp only[l09,l07] at H;refine MV G G (q1l H (Y4s cz) G (a4) (q00 G) G ?_);intro bo M w its H u hR;have J:=J.mono u;have K:=K.mono u;have V:=V.mono u;have E:=E.mono u;have Y:=Y.mono u;have Z:=Z.mono u;have a4:=a4.mono u;obtain⟨bo,rfl,rfl⟩:=hR;simp only[l09,l07] at H;obtain⟨M,u,a3,H⟩:=H.freezeRowSN (v:=bn) (enc:=xenc46) (t:=46) Kv (fun _=>rfl) ⟨⟨_,Km⟩,trivial⟩;have J:=J.mono u;have K:=K.mono u;have V:=V.mono u;have E:=E.mono u;have Y:=Y.mono u;have Z:=Z.mono u;have a4:=a4.mono u;obtain⟨M,u,a5,H⟩:=H.freezeRowN (v:=bo) (enc:=encB) (t:=5) Kv ⟨⟨_,Km⟩,trivial⟩;have J:=J.mono u;have K:=K.mono u;have V:=V.mono u;have E:=E.mono u;have Y:=Y.mono u;have Z:=Z.mono u;have a4:=a4.mono u;have a3:=a3.mono u;refine ST (q0t [bn,bo,Value.slice none 0 0] Tu39 Tz39 (xplaces39 Tu39) G (by obtain⟨_,_,_,hv,-⟩:=a3;rw [hv];clear hv;obtain ⟨_,_,hv,-⟩:=a5;rw [hv];clear hv;rfl)) G ?_
 refine q09 [_,_,_] H Tz39 G (q00 G) G ?_;intro a6 w H;refine q04 [_,_,_] H G G G Ku Ts39 G Kf (by simp only[l0i,l0u,(a3).one.2,(a5).one.2];rfl) (q00 G) ?_;intro w H;refine NQ ?_;obtain⟨ar,cn,h⟩:=bnd h;refine RM G G (MV G G (MV G G (q02 H (Y6s cn) G ⟨J,K,V,E,Y,Z,a4⟩ (q00 G) G ?_)));intro cf M w H u hR;have J:=J.mono u;have K:=K.mono u;have V:=V.mono u;have E:=E.mono u;have Y:=Y.mono u;have Z:=Z.mono u;have a3:=a3.mono u;have a5:=a5.mono u;have O:=hR;refine AQ G G (SM G G (ST (q1e Tu89 O G) G (ST (q0s G G) G (NT ?_))));refine CB (p:=(ar.length:Int)=(0:Int)) G (fun b5=>?_) fun b5=>?_
 .
  rw[l01 b5] at h;refine SR (ST (q08 H G Km Ta39 Ts39 Kf) G ?_);refine q04 [_,_,_] H G G G Ku Ts39 G Kf (by simp only[l0i,l0u,(a3).one.2,(a5).one.2];rfl) (q00 G) ?_;intro w H;refine AR G G ?_;obtain rfl:=oI h;exact q0Z (its:=[.blk U (.cells #[I n1,I p0.2.1,I p0.2.2] 59)]) G ⟨_,G,H.loadAgg Km Ta39 Ts39 Kf⟩ G H Kp ⟨_,_,_,G,a3,a5,q1F,G⟩
 rw[l00 b5] at h;refine KQ ?_;obtain⟨⟨de,cg⟩,co,h⟩:=bnd h;try dsimp only at h
 refine RM G G (q02 H (Y8z co) G ⟨J,K,V,E,Y,Z⟩ (q00 G) G ?_);intro df M w H u hR;have J:=J.mono u;have K:=K.mono u;have V:=V.mono u;have E:=E.mono u;have Y:=Y.mono u;have a3:=a3.mono u;have a5:=a5.mono u;have O:=O.mono u;try dsimp only at hR
 obtain⟨bb,rfl,am⟩:=hR;refine MV G G (ST (q05 G G) G (ST (q05 G G) G (AS G G (AQ G G (SM G G (ST (q0w G) G (NT ?_)))))));refine q0a G (fun a7=>?_) (fun a7=>?_)
 .
  replace a7:cg=false:=by simpa using a7
  subst a7;rw[l00 l03] at h;refine SR (ST (q08 H G Km Ta39 Ts39 Kf) G ?_);refine q04 [_,_,_] H G G G Ku Ts39 G Kf (by simp only[l0i,l0u,(a3).one.2,(a5).one.2];rfl) (q00 G) ?_;intro w H;refine AR G G ?_;obtain rfl:=oI h;exact q0Z (its:=[.blk U (.cells #[I n1,I p0.2.1,I p0.2.2] 59)]) G ⟨_,G,H.loadAgg Km Ta39 Ts39 Kf⟩ G H Kp ⟨_,_,_,G,a3,a5,q1F,G⟩
 replace a7:cg=true:=by simpa using a7
 subst a7;rw[l01 rfl] at h;refine SK (TN (SM G G (ST (q0t [bb,Value.slice none 0 0,Value.slice none 0 0] Tu39 Tz39 (xplaces39 Tu39) G (by obtain⟨_,_,_,hv,-⟩:=am;rw [hv];clear hv;rfl)) G ?_)));refine q04 [_,_,_] H G G G Ku Ts39 G Kf (by simp only[l0i,l0u,(am).one.2];rfl) (q00 G) ?_;intro w H;refine NQ (SM G G (ST (q1e Tu89 O G) G (MV G G (NT ?_))));obtain⟨ch,N,h⟩:=bnd h;refine q0c (fun e w =>∃(bp:List Z00) (bq:Value) (br:Ls) (bs:Value) (bt:List BT38) (bu:Value) (bv:List Z00) (bw:Value) (bx:Ls) (bz:Value) (c0:List BT38) (au:Value) (c1:List Z05) (bc:Int) (bd:Int) (be:Int) (M:Mem),e=[(8,ptr ak 0),(10,ptr a6 0)]/\StX (feet [.blk U (.cells #[I p0.1,I p0.2.1,I p0.2.2] 59)]) w0 M0 M [.blk ak (.cells #[bq,bs,bu] 39), .blk a6 (.cells #[bw,bz,au] 39),RowS 39 xrl39.k xrl39.enc au c1, .blk U (.cells #[I bc,I bd,I be] 59)] w/\Gv2 M/\Gv1 M/\Gv3 M/\Gv0 M/\Tabs M/\SlS M 2 xenc46 bq bp/\Sl M encB bs br/\SlR xrl39 M bu bt/\SlS M 2 xenc46 bw bv/\Sl M encB bz bx/\RelL xrl39 M c1 c0/\some (.inl (bp,br,bt,bv,bx,c0,bc,bd,be))=some ch) [] ?_ ?_ (trivial)
 .
  refine BL ?_;replace H:=H.newRowS 39 xrl39.k xrl39.enc;first|have c2:RelL xrl39 M [] []:=RelL.nil|have c2:RelL xrl39 M0 [] []:=RelL.nil
  refine q0l (fun m e w =>∃(av:Int) (aw:Int) (ax:Int) (c3:List Z00) (ay:Value) (c4:Ls) (az:Value) (c5:List BT38) (b0:Value) (c6:List Z00) (b1:Value) (c7:Ls) (b2:Value) (bg:List BT38) (b3:Value) (bh:List Z05) (bi:Int) (M:Mem),e=[(0,ptr U 0),(3,I p3),(8,ptr ak 0),(10,ptr a6 0),(48,cf),(49,I (ar.length:Int)),(50,I bi)]/\StX (feet [.blk U (.cells #[I p0.1,I p0.2.1,I p0.2.2] 59)]) w0 M0 M [.blk U (.cells #[I av,I aw,I ax] 59), .blk ak (.cells #[ay,az,b0] 39), .blk a6 (.cells #[b1,b2,b3] 39),RowS 39 xrl39.k xrl39.enc b3 bh] w/\Gv2 M/\Gv1 M/\Gv3 M/\Gv0 M/\Tabs M/\SlS M 2 xenc46 ay c3/\Sl M encB az c4/\SlR xrl39 M b0 c5/\SlS M 2 xenc46 b1 c6/\Sl M encB b2 c7/\RelL xrl39 M bh bg/\SlR xrl23 M cf ar/\Y0c self p3 ar m av aw ax c3 c4 c5 c6 c7 bg bi=some ch) FU [(0,_),(3,_),(8,_),(10,_),(48,_),(49,_),(50,_)] ⟨rfl,rfl,rfl,rfl,rfl,rfl,rfl,trivial⟩ ⟨_,_,_,_,_,_,_,_,_,_,_,_,_,_,_,_,_,_,rfl,(H.pick (L':=[.blk U (.cells #[I n1,I p0.2.1,I p0.2.2] 59), .blk ak (.cells #[Value.slice none 0 0,Value.slice none 0 0,Value.slice none 0 0] 39), .blk a6 (.cells #[bb,Value.slice none 0 0,(Value.slice none 0 0)] 39),RowS 39 xrl39.k xrl39.enc (Value.slice none 0 0) ([]:List Z05)]) Kp),J,K,V,E,Y,(q1a _ _ (fun _=>rfl)),q0U _ _,q1F,am,q0U _ _,c2,O,N⟩ ?_;rintro c8 e w ⟨av,aw,ax,c3,ay,c4,az,c5,b0,c6,b1,c7,b2,bg,b3,bh,bi,M,rfl,H,J,K,V,E,Y,a9,aa,ab,ac,ad,ae,O,N⟩;rcases c8 with _|c8
  . rw[Y0c] at N;cases N
  rw[Y0c] at N;refine SR (ST (q0m G G) G (NQ ?_));refine CB (p:=bi<(ar.length:Int)) G (fun b6=>?_) fun b6=>?_
  .
   rw[l01 b6] at N;refine KQ (BL (SQ ?_));obtain⟨d0,ca,N⟩:=bnd N;obtain⟨d9,dh,cb,cp,cq,b7⟩:=O.atC ca;replace b7:Sl _ encB (hv cb) d0:=b7;have c9:=b7;refine RG (ST (q0q cp Tu89 Ts23 G G) G (ST (q0n H G (cq.at (j:=0) G) Ta23) G (AQ G G ?_)));obtain⟨di,cc,N⟩:=bnd N;obtain⟨⟨⟨d1,d2,d3⟩,ci,al⟩,cr,N⟩:=bnd N;try dsimp only at N
   refine RM G G (MV G G (MV G G (ST (q0e G G cc) G (XC (A:=[.blk U (.cells #[I av,I aw,I ax] 59)]) H (Y5N @ih cr) G ⟨J,K,V,E,Y,c9⟩ (q00 G) G Kt ?_))));intro dj M w its H u hR;have J:=J.mono u;have K:=K.mono u;have V:=V.mono u;have E:=E.mono u;have Y:=Y.mono u;have ae:=ae.mono u;have O:=O.mono u;have a9:=a9.mono u;have aa:=aa.mono u;have ab:=ab.mono u;have ac:=ac.mono u;have ad:=ad.mono u;try dsimp only at hR
   obtain⟨cu,cv,cw,rfl,a0,a1,a2,rfl⟩:=hR;simp only[l09,l07] at H;refine MV G G (ST (q05 G G) G (ST (q05 G G) G (q09 [_,_,_] H Tz39 G (q00 G) G ?_)));intro da w H;refine q04 [_,_,_] H G G G Ku Ts39 G Kf (by simp only[l0i,l0u,(a0).one.2,(a1).one.2,(a2).one.2];rfl) (q00 G) ?_;intro w H;refine AQ G G (SM G G (ST (q0w G) G (NT ?_)));refine q0a G (fun a8=>?_) (fun a8=>?_)
   .
    replace a8:ci=false:=by simpa using a8
    subst a8;rw[l00 l03] at N;refine SR (ST (q0t [Value.slice none 0 0,Value.slice none 0 0,Value.slice none 0 0] Tu39 Tz39 (xplaces39 Tu39) G G) G (q04 [_,_,_] H G G G Ku Ts39 G Kf Kf (q00 G) ?_));intro w H;refine AR G G ?_;obtain rfl:=oI N;try dsimp only at h
    obtain rfl:=oI h;exact q0Z (its:=[.blk U (.cells #[I al.1,I al.2.1,I al.2.2] 59)]) G ⟨_,G,H.loadAgg Km Ta39 Ts39 Kf⟩ G H Kp ⟨_,_,_,G,(q1a _ _ (fun _=>G)),q0U _ _,q1F,G⟩
   replace a8:ci=true:=by simpa using a8
   subst a8;rw[l01 rfl] at N;refine SK (TN ?_);obtain⟨dk,cd,N⟩:=bnd N;refine RG (ST (q01 Tu39 G Ts37 Dc G) G (ST (XL H Ta37) G ?_));refine ST (q08 H G Km Ta39 Ts39 Kf) G ?_;have Hn:=H;obtain⟨d4,rfl⟩:=a0.hd;have H:=Hn;have Hn:=H;obtain⟨d5,rfl⟩:=a1.hd;have H:=Hn;have Hn:=H;obtain⟨d6,rfl⟩:=a2.hd;have H:=Hn;refine q1u (enc:=xrl39.enc) xty37 ([(d4,d5,d6)]:List Z05) H (fun _=>G) G Kr G G G (q00 G) G ?_;intro dl M w H u b8;have J:=J.mono u;have K:=K.mono u;have V:=V.mono u;have E:=E.mono u;have Y:=Y.mono u;have ae:=ae.mono u;have O:=O.mono u;have a0:=a0.mono u;have a1:=a1.mono u;have a2:=a2.mono u;have a9:=a9.mono u;have aa:=aa.mono u;have ab:=ab.mono u;have ac:=ac.mono u;have ad:=ad.mono u;replace b8:=SlR.of (R:=xrl39) (l:=([(BT38.of (d1,d2,d3))]:List BT38)) b8 ⟨(rmk38 ⟨a0,a1,a2⟩),trivial⟩;refine WR.appRC (R:=xrl39) (l:=bg) xty37 G H ae G Ud G (b8) cd (q00 G) G ?_;intro cj d7 w ct H;refine ST (q01 Tu39 G Ts37 Dc G) G (q0O [_,_,_] H G G (H.rowOneS Km) Ku Kf Ts37 (by first|decide|(simp;done)|(simp;omega)) (q00 G) ?_);intro w H;refine NL (IB (TN ?_));obtain⟨dm,ce,N⟩:=bnd N;refine RG (ST (q0e G G ce) G (MV G G (NL ?_)));exact AG c8 ⟨_,_,_,_,_,_,_,_,_,_,_,_,_,_,_,_,_,_,G,(H.pick (L':=[.blk U (.cells #[I al.1,I al.2.1,I al.2.2] 59), .blk ak (.cells #[ay,az,b0] 39), .blk a6 (.cells #[b1,b2,cj] 39),RowS 39 xrl39.k xrl39.enc cj d7]) Kp),J,K,V,E,Y,a9,aa,ab,ac,ad,ct,O,N⟩ (l0a _)
  rw[l00 b6] at N;refine q0j (q03 (q03 (q0b ?_)));exact MN ⟨_,_,_,_,_,_,_,_,_,_,_,_,_,_,_,_,_,G,(H.pick (L':=[.blk ak (.cells #[ay,az,b0] 39), .blk a6 (.cells #[b1,b2,b3] 39),RowS 39 xrl39.k xrl39.enc b3 bh, .blk U (.cells #[I av,I aw,I ax] 59)]) Kp),J,K,V,E,Y,a9,aa,ab,ac,ad,ae,N⟩
 rintro e w ⟨bp,bq,br,bs,bt,bu,bv,bw,bx,bz,c0,au,c1,bc,bd,be,M,rfl,H,J,K,V,E,Y,db,dc,dd,an,ao,b9,d8⟩;obtain rfl:=oI d8;try dsimp only at h
 refine TN (SR (ST (q08 H G Km Ta39 Ts39 Kf) G ?_));refine q04 [_,_,_] H G G G Ku Ts39 G Kf (by simp only[l0i,l0u,(an).one.2,(ao).one.2,(H.rowOneS (v:=au) Km).2];rfl) (q00 G) ?_;intro w H;refine AR G G ?_;obtain⟨M,u,ba,H⟩:=H.freezeRowSN (v:=au) (enc:=xrl39.enc) (t:=39) Kv (fun _=>rfl) ⟨⟨_,Km⟩,trivial⟩;have b9:=b9.mono u;have an:=an.mono u;have ao:=ao.mono u;replace ba:=SlR.of (R:=xrl39) ba b9;obtain rfl:=oI h;exact q0Z (its:=[.blk U (.cells #[I bc,I bd,I be] 59)]) G ⟨_,G,H.loadAgg Km Ta39 Ts39 Kf⟩ G H Kp ⟨_,_,_,G,an,ao,ba,G⟩
theorem Y40 :∀(m:Nat) {p0:Z03} {U:List Z00} {V:Ls} {Y:Int} {u:Nat} {N:Value} {O:Value} {r:Z0r},Y0a m p0 U V Y=some r->CtX Tryz.prog 22 [ptr u 0,N,O,I Y] [.blk u (.cells #[I p0.1,I p0.2.1,I p0.2.2] 59)] (fun M=>Gv2 M/\Gv1 M/\Gv3 M/\Gv0 M/\Tabs M/\SlS M 2 xenc46 N U/\Sl M encB O V) (fun v M its =>∃E J K,v=Value.tuple #[Value.agg #[E,J,K],Value.bool r.2.1]/\SlS M 2 xenc46 E r.1.1/\Sl M encB J r.1.2.1/\SlR xrl39 M K r.1.2.2/\its=[.blk u (.cells #[I r.2.2.1,I r.2.2.2.1,I r.2.2.2.2] 59)])
 | 0,_,_,_,_,_,_,_,_,h=>by rw[Y0a] at h;cases h
 | m+1,_,_,_,_,_,_,_,_,h=>Y5p (fun h=>Y40 m h) (by rw[Y0a] at h;exact h)
theorem Y5O {p0:Z03}{U:List Z00}{V:Ls}{Y:Int}{u:Nat}{N:Value}{O:Value}{r:Z0r}(h:Y2X p0 U V Y=some r):CtX Tryz.prog 22 [ptr u 0,N,O,I Y] [.blk u (.cells #[I p0.1,I p0.2.1,I p0.2.2] 59)] (fun M=>Gv2 M/\Gv1 M/\Gv3 M/\Gv0 M/\Tabs M/\SlS M 2 xenc46 N U/\Sl M encB O V) (fun v M its =>∃E J K,v=Value.tuple #[Value.agg #[E,J,K],Value.bool r.2.1]/\SlS M 2 xenc46 E r.1.1/\Sl M encB J r.1.2.1/\SlR xrl39 M K r.1.2.2/\its=[.blk u (.cells #[I r.2.2.1,I r.2.2.2.1,I r.2.2.2.2] 59)]):=Y40 FU h
theorem Y88 {p0:Z0f}{a1:Value}{a2:Value}{a3:Value}{r:Int}(h:Y3k p0=some r):Ct Tryz.prog 88 [Value.agg #[a1,a2,a3]] (fun M=>Gv2 M/\Gv1 M/\Gv3 M/\Gv0 M/\Tabs M/\SlS M 2 xenc46 a1 p0.1/\Sl M encB a2 p0.2.1/\SlR xrl39 M a3 p0.2.2) (fun v M=>v=I r):=by
 refine Ct.of Tryz.func88 (enters Tryz.func88 Kr G) G G G ?_;intro w0 M0 H hp;obtain⟨E,J,Z,u,V,N,Y,a0⟩:=hp;unfold Y3k at h;refine SR (q0D [_,_,_] H G G (q00 G) G ?_);intro a9 w H;refine AQ G G ?_;obtain⟨⟨⟨s1,s2,l3⟩,n4,b5⟩,ar,h⟩:=bnd h;try dsimp only at h
 refine RG (ST (q01 Tu39 G Ts22 Dc G) G (ST (XL H Ta22) G ?_));refine q1l H (Y4z ar) G ⟨E,J,Z,u,V,N⟩ (q00 G) G ?_;intro b7 M w its H K hR;have E:=E.mono K;have J:=J.mono K;have Z:=Z.mono K;have u:=u.mono K;have V:=V.mono K;have N:=N.mono K;have Y:=Y.mono K;have a0:=a0.mono K;try dsimp only at hR
 obtain⟨O,rfl,rfl⟩:=hR;simp only[l09,l07] at H;refine MV G G (ST (q05 G G) G (ST (q05 G G) G (ST (q05 G G) G (q09 [_,_,_] H Tz105 G (q00 G) G ?_))));intro aa w H;refine q04 [_,_,_] H G G G Ku Ts105 G Kf (by simp only[l0i,l0u,(H.rowOneS (v:=O) Km).2];rfl) (q00 G) ?_;intro w H;refine AS G G (AQ G G (SQ ?_));obtain⟨o8,e9,h⟩:=bnd h;refine q0c (fun e w =>∃(ad:Bool) (M:Mem),e=[(1,ptr a9 0),(3,ptr aa 0),(4,I n4),(31,Value.bool ad)]/\St w0 M0 M [.blk a9 (.cells #[a1,a2,a3] 39), .blk aa (.cells #[S s1,S s2,O] 105),RowS 109 2 xenc109 O l3] w/\Gv2 M/\Gv1 M/\Gv3 M/\Gv0 M/\Tabs M/\SlS M 2 xenc46 a1 p0.1/\Sl M encB a2 p0.2.1/\SlR xrl39 M a3 p0.2.2/\some ad=some o8) [] ?_ ?_ (trivial)
 .
  refine RG (ST (q01 Tu39 G Ts23 Dc G) G (ST (XL H Ta23) G ?_));refine ST (q0o Tu23 Y G) G ?_;by_cases a6:(0:Int)<(p0.2.1.length:Int)
  .
   rw[l01 a6] at e9;refine DT a6 (q0A G G) G (MV G G (GT G G G (GT G G G (PT G G G (MV G G (q0i 4 G G (PT G G G (NL ?_))))))));exact MN ⟨_,_,G,(H.pick (L':=[.blk a9 (.cells #[a1,a2,a3] 39), .blk aa (.cells #[S s1,S s2,O] 105),RowS 109 2 xenc109 O l3]) Kp),E,J,Z,u,V,N,Y,a0,e9⟩
  rw[l00 a6] at e9;refine DF a6 (q0A G G) G (MV G G (SG (q06 G) G G G (SG (q0w G) G G G (PF G G G (MV G G ?_)))));rcases b5 with _|_
  .
   rw[l00 l03] at e9;refine q0i 4 G G (PT G G G (NL ?_));exact MN ⟨_,_,G,(H.pick (L':=[.blk a9 (.cells #[a1,a2,a3] 39), .blk aa (.cells #[S s1,S s2,O] 105),RowS 109 2 xenc109 O l3]) Kp),E,J,Z,u,V,N,Y,a0,e9⟩
  rw[l01 rfl] at e9;obtain⟨b8,ak,e9⟩:=bnd e9;refine SG (q01 Tu105 G Ts9 Dc G) G G G (SG (XL H Ta9) G G G ?_);refine q02 H (Y1g ak) G trivial (q0h G G G) G ?_;intro b9 M w H K hR;have E:=E.mono K;have J:=J.mono K;have Z:=Z.mono K;have u:=u.mono K;have V:=V.mono K;have N:=N.mono K;have Y:=Y.mono K;have a0:=a0.mono K;obtain rfl:=hR;refine SG (q0w G) G G G (PF G G G (NL ?_));exact MN ⟨_,_,G,(H.pick (L':=[.blk a9 (.cells #[a1,a2,a3] 39), .blk aa (.cells #[S s1,S s2,O] 105),RowS 109 2 xenc109 O l3]) Kp),E,J,Z,u,V,N,Y,a0,e9⟩
 rintro e w ⟨ad,M,rfl,H,E,J,Z,u,V,N,Y,a0,au⟩;obtain rfl:=oI au;refine TN ?_;refine q0a G (fun ab=>?_) (fun ab=>?_)
 .
  subst ab;rw[l01 rfl] at h;refine SR (AR G G ?_);obtain rfl:=oI h;exact q07 G G H.ext G
 subst ab;rw[l00 l03] at h;refine KQ ?_;obtain⟨⟨ba,av,⟨bb,bc⟩⟩,al,h⟩:=bnd h;try dsimp only at h
 refine RG (ST (q08 H G Km Ta105 Ts105 Kf) G ?_);obtain⟨M,K,a4,H⟩:=H.freezeRowS (v:=O) (enc:=xenc109) (t:=109) Kv (fun _=>rfl);have E:=E.mono K;have J:=J.mono K;have Z:=Z.mono K;have u:=u.mono K;have V:=V.mono K;have N:=N.mono K;refine q02 H (Y6q al) G ⟨V,a4⟩ (q00 G) G ?_;intro bd M w H K hR;have E:=E.mono K;have J:=J.mono K;have Z:=Z.mono K;have u:=u.mono K;have V:=V.mono K;have N:=N.mono K;have a4:=a4.mono K;try dsimp only at hR
 obtain rfl:=hR;refine MV G G (ST (q05 G G) G (ST (q05 G G) G (ST (q05 G G) G (q09 [_,_] H Tz28 G (q00 G) G ?_))));intro be w H;refine AS G G (AS G G (q04 [_,_] H G G G Ku Ts28 G Kf Kf (q00 G) ?_));intro w H;refine NQ ?_;obtain⟨⟨aw,⟨bg,bh⟩⟩,am,h⟩:=bnd h;try dsimp only at h
 refine RG (ST (q08 H G Km Ta105 Ts105 Kf) G ?_);refine q02 H (Y5b am) G ⟨u,V,a4⟩ (q00 G) G ?_;intro bi M w H K hR;have E:=E.mono K;have J:=J.mono K;have Z:=Z.mono K;have u:=u.mono K;have V:=V.mono K;have a4:=a4.mono K;have N:=N.mono K;try dsimp only at hR
 obtain rfl:=hR;refine MV G G (ST (q05 G G) G (ST (q05 G G) G (q09 [_,_] H Tz28 G (q00 G) G ?_)));intro b4 w H;refine AS G G (q04 [_,_] H G G G Ku Ts28 G Kf Kf (q00 G) ?_);intro w H;refine NQ (SQ ?_);obtain⟨ax,U,h⟩:=bnd h;refine q0c (fun e w =>∃(ae:Bool) (M:Mem),e=[(68,Value.bool ae)]/\St w0 M0 M [] w/\Gv2 M/\Gv1 M/\Gv3 M/\Gv0 M/\Tabs M/\some ae=some ax) [] ?_ ?_ (trivial)
 .
  refine RM G G (MV G G ?_);rcases av with _|_
  .
   rw[l00 l03] at U;refine SG (q01 Tu105 G Ts103 Dc G) G G G (SG (XL H Ta103) G G G ?_);refine SG (q0L Tu103 a4 G) G G G ?_;by_cases a7:(60:Int)<=(l3.length:Int)
   .
    rw[l01 a7] at U;refine DU a7 (q0Q G G) G G G (PF G G G (MV G G (GT G G G (GT G G G (PT G G G (MV G G (q0i 8 G G (PT G G G (MV G G (q0i 3 G G (PT G G G (NL ?_))))))))))));exact MN ⟨_,_,G,(H.pick (L':=[]) Kp),E,J,Z,u,V,U⟩
   rw[l00 a7] at U;obtain⟨ay,an,U⟩:=bnd U;refine DG a7 (q0Q G G) G G G (PF G G G (MV G G (SG (q08 H G Km Ta28 Ts28 Kf) G G G ?_)));refine q02 H (Y06 an) G trivial (q0h G G G) G ?_;intro bj M w H K hR;have E:=E.mono K;have J:=J.mono K;have Z:=Z.mono K;have u:=u.mono K;have V:=V.mono K;have N:=N.mono K;obtain rfl:=hR;refine PF G G G (MV G G ?_);rcases ay with _|_
   .
    rw[l00 l03] at U;obtain⟨az,aj,U⟩:=bnd U;obtain⟨b6,bm,ao,ap⟩:=N.atC aj;refine SG (q06 G) G G G (SG (q01 Tu39 G Ts22 Dc G) G G G (SG (XL H Ta22) G G G ?_));refine SG (q06 G) G G G (SG (q0q ao Tu22 Ts46 G G) G G G (SG (q01 Tu46 G Ts9 Dc G) G G G (SG (q0n H G (ap.at (j:=1) G) Ta9) G G G ?_)));by_cases a8:aw=az.2
    .
     rw[l01 a8] at U;refine q0B (v' := .bool false) (q1m G G) (l02 Value.bool (by rw[l0f a8];rfl)) (q0h G G G) G G ?_;refine PF G G G (MV G G (SG (q06 G) G G G (SG (q0g Tu9 G) G G G (SG (q0A G G) G G G (PF G G G (NL ?_))))));exact MN ⟨_,_,G,(H.pick (L':=[]) Kp),E,J,Z,u,V,U⟩
    rw[l00 a8] at U;refine q0B (v' := .bool true) (q1m G G) (l02 Value.bool (by rw[l0g a8];rfl)) (q0h G G G) G G ?_;refine PF G G G (MV G G (q0i 3 G G (PT G G G (NL ?_))));exact MN ⟨_,_,G,(H.pick (L':=[]) Kp),E,J,Z,u,V,U⟩
   rw[l01 rfl] at U;refine q0i 8 G G (PT G G G (MV G G (q0i 3 G G (PT G G G (NL ?_)))));exact MN ⟨_,_,G,(H.pick (L':=[]) Kp),E,J,Z,u,V,U⟩
  rw[l01 rfl] at U;refine q0i 4 G G (PT G G G (MV G G (GT G G G (GT G G G (PT G G G (MV G G (q0i 8 G G (PT G G G (MV G G (q0i 3 G G (PT G G G (NL ?_))))))))))));exact MN ⟨_,_,G,(H.pick (L':=[]) Kp),E,J,Z,u,V,U⟩
 rintro e w ⟨ae,M,rfl,H,E,J,Z,u,V,b0⟩;obtain rfl:=oI b0;refine TN ?_;refine q0a G (fun ac=>?_) (fun ac=>?_)
 .
  subst ac;rw[l01 rfl] at h;refine SR (AR G G ?_);obtain rfl:=oI h;exact q07 G G H.ext G
 subst ac;rw[l00 l03] at h;refine KQ (RG (AR G G ?_));obtain rfl:=oI h;exact q07 G G H.ext G
end Go.Proofs.YtkgohbecojnfaaaGreatDoor
end
