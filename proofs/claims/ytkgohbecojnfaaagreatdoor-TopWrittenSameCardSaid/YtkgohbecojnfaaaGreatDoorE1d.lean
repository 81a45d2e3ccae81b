/-
  Twt3, Twt4, Twt5: own texts of this repository (wip/tpl, wip/plans), merged and shaken by wip/tools/pack.py.
-/
import Derived.KernelRfl
import Derived.Test.YtkgohbecojnfaaaGreatDoorE1c
set_option maxRecDepth 100000
set_option linter.unusedVariables false
set_option linter.unusedSimpArgs false
section
namespace Go.Proofs.YtkgohbecojnfaaaGreatDoor
open Go Go.RowKit Go.Ph Go.Ph.Pl Go.Ph.Pf
theorem Y3W {p0:Ls}{V:Int}{r:Int}(h:Y1Y p0 V=some r):Ct Tryz.prog 149 [S p0,Value.int .i32 V] (fun M=>True) (fun v M=>v=I r):=by
 refine Ct.of Tf149 (enters Tf149 Kr G) G G G ?_;intro w0 M0 H hp;unfold Y1Y at h;refine SQ (RG (AS G G (NL (TN (BL (SQ ?_))))));obtain⟨o1,e2,h⟩:=bnd h;refine q0c (fun e w =>∃(b3:Bool) (M:Mem),e=[(0,S p0),(1,Value.int .i32 V),(160,Value.bool b3)]/\St w0 M0 M [] w/\some b3=some o1) [] ?_ ?_ (trivial)
 .
  by_cases a7:(0:Int)<=V
  .
   rw[if_pos a7] at e2;refine RG (MV G G (DT a7 (q1q G G) G (MV G G (SG (q06 G) G G G (SG (q0m G G) G G G (PT G G G (AS G G (NL ?_))))))));exact MN ⟨_,_,G,H,e2⟩
  rw[if_neg a7] at e2;refine RG (MV G G (DF a7 (q1q G G) G (MV G G (GF G G G (GF G G G (PF G G G (AS G G (NL ?_))))))));exact MN ⟨_,_,G,H,e2⟩
 rintro e w ⟨b3,M,rfl,H,q5⟩;obtain rfl:=oI q5;refine TN ?_;refine q0a G (fun ab=>?_) (fun ab=>?_)
 .
  subst ab;rw[if_pos rfl] at h;refine SQ ?_;obtain⟨n7,bc,h⟩:=bnd h;refine RG (MV G G (MV G G (ST (Ex.convU8C Tu21 Tu5 G) G (q02 H (Y36 bc) G trivial (q00 G) G ?_))));intro bo M w H b2 hR;obtain rfl:=hR;refine AS G G (NL (TN (RT ?_)));obtain rfl:=oI h;exact q07 G G H.ext G
 subst ab;rw[if_neg l00] at h;refine SQ (RG (MV G G (ST (q0u G G) G (AS G G (NL (TN ?_))))));refine CB (p:=V=(65533:Int)) G (fun ac=>?_) fun ac=>?_
 .
  rw[if_pos ac] at h;refine SQ (SQ (RG (MV G G (WR.rangeStr H Tu9 G (q00 G) G ?_))));intro a8 w H;refine NL (TN ?_);obtain⟨b4,K,h⟩:=bnd h;refine q0c (fun e w =>∃  (M:Mem),e=[]/\St w0 M0 M [] w/\some (.inl ())=some b4) [] ?_ ?_ (trivial)
  .
   refine BL (q0l (fun m e w =>∃(Y:Nat) (M:Mem),e=[(175,ptr a8 0)]/\St w0 M0 M [.blk a8 (.stringIter ⟨((p0):Ls).toArray⟩ Y)] w/\Y1I p0 m Y=some b4) FU [(175,_)] ⟨rfl,trivial⟩ ⟨_,_,rfl,H,K⟩ ?_);rintro ad e w ⟨Y,M,rfl,H,K⟩;rcases ad with _|ad
   . rw[Y1I] at K;cases K
   rw[Y1I] at K;refine SQ ?_;by_cases a1:Y<p0.length
   .
    rw[if_pos a1] at K;refine RG (WR.nextT H a1 G Ku (q00 G) G ?_);intro w H;refine ST (q05 G G) G (NL (TN (SQ (CT G (SK (TN (BL (SQ (RG (ST (q05 G G) G (ST (q05 G G) G (AS G G (AS G G (NL (TN (SQ (RG (MV G G (ST (q0u G G) G (NL (TN ?_)))))))))))))))))))));refine CB (p:=((Utf.dr (p0.drop Y)).1:Int)=(65533:Int)) G (fun a3=>?_) fun a3=>?_
    .
     rw[if_pos a3] at K;refine SQ (RG (MV G G (AS G G (NL (TN (RT ?_))))));obtain rfl:=oI K;try dsimp only at h
     obtain rfl:=oI h;exact q07 G G H.ext G
    rw[if_neg a3] at K;refine SK (IB ?_);exact AG ad ⟨_,_,G,H,K⟩ (l06 _)
   rw[if_neg a1] at K;refine RG (WR.nextF H (l2s a1) G Km (q00 G) G ?_);refine ST (q05 G G) G (NL (TN (SQ (CF G (q0j (q03 (q03 (q0b ?_))))))));exact MN ⟨_,G,(H.pick (L':=[]) Kp),K⟩
  rintro e w ⟨M,rfl,H,bd⟩;obtain rfl:=oI bd;try dsimp only at h
  refine TN (SQ (RG (AS G G (NL (TN (RT ?_))))));obtain rfl:=oI h;exact q07 G G H.ext G
 rw[if_neg ac] at h;refine SQ ?_;obtain⟨b5,ba,h⟩:=bnd h;refine RG (MV G G (q02 H (Y5M ba) G trivial (q00 G) G ?_));intro bp M w H b2 hR;obtain rfl:=hR;refine ST (q0y G) G (AS G G (NL (TN ?_)));refine q0a G (fun N=>?_) (fun N=>?_)
 .
  replace N:b5=false:=by simpa using N
  subst N;rw[if_neg l00] at h;refine SQ (RG (AS G G (NL (TN (RT ?_)))));obtain rfl:=oI h;exact q07 G G H.ext G
 replace N:b5=true:=by simpa using N
 subst N;rw[if_pos rfl] at h;refine WC.scope (SQ (RG (MV G G (ST (Ex.runeStr Tu21 Tu9 G) G (AS G G (NL (TN (SQ ?_))))))));obtain⟨Z,am,h⟩:=bnd h;refine RG (MV G G (ST (q0g Tu9 G) G (ST (q0K G G am) G (AS G G (NL (TN (SQ (RG (MV G G (AS G G (NL (TN (SQ (RG (AS G G (NL (TN (SQ ?_))))))))))))))))));obtain⟨b6,u,h⟩:=bnd h;refine q0c (fun e w =>∃  (M:Mem),e=[]/\St w0 M0 M [] w/\some (.inl ())=some b6) [] ?_ ?_ (trivial)
 .
  refine BL (q0l (fun m e w =>∃(a9:Int) (M:Mem),e=[(0,S p0),(7,S (Chs.utf8 V)),(8,I Z),(9,I a9)]/\St w0 M0 M [] w/\Y1K p0 V Z m a9=some b6) FU [(0,_),(7,_),(8,_),(9,_)] ⟨rfl,rfl,rfl,rfl,trivial⟩ ⟨_,_,rfl,H,u⟩ ?_);rintro b7 e w ⟨a9,M,rfl,H,u⟩;rcases b7 with _|b7
  . rw[Y1K] at u;cases u
  rw[Y1K] at u;refine SQ (SQ (RG (MV G G (MV G G (ST (q0g Tu9 G) G (ST (q0m G G) G (NL (TN ?_))))))));refine CB (p:=a9<(p0.length:Int)) G (fun a4=>?_) fun a4=>?_
  .
   rw[if_pos a4] at u;refine SK (TN (BL (WC.scope (SQ (SQ ?_)))));obtain⟨ae,an,u⟩:=bnd u;obtain⟨ah,ao,u⟩:=bnd u;refine q0x (m:=7) G G H ?_;intro w H;refine TK 0 G (fun _=>q06 G) G (TK 1 G (fun _=>q06 G) G (TK 2 G (fun _=>q0p Tu9 G G an) G (TK 3 G (fun _=>q06 G) G (q0k (fuel:=0) [4,5,6] G Kr (MV G G (ST (q0p Tu9 G G ao) G (ST (Ex.neqB (c:=ae) (d:=ah) G G) G (NA (q0f Kr (TN ?_))))))))));obtain⟨be,J,u⟩:=bnd u;refine q0c (fun e w =>∃(a0:Int) (M:Mem),e=[(0,S p0),(7,S (Chs.utf8 V)),(8,I Z),(9,I a0)]/\St w0 M0 M [] w/\some (.inl a0)=some be) [] ?_ ?_ (trivial)
   .
    refine q0a G (fun O=>?_) (fun O=>?_)
    .
     replace O :¬(ae=ah):=of_not_decide O;rw[if_neg O] at J;refine SQ ?_;obtain⟨bq,ap,J⟩:=bnd J;obtain⟨br,aq,J⟩:=bnd J;obtain⟨bs,ar,J⟩:=bnd J;obtain⟨bg,bb,J⟩:=bnd J;refine q0x (m:=9) G G H ?_;intro w H;refine TK 0 G (fun _=>q06 G) G (TK 1 G (fun _=>q06 G) G (TK 2 G (fun _=>q0e G G ap) G (TK 3 G (fun _=>q1f Tu9 G G aq) G (TK 4 G (fun _=>q06 G) G (q0k (fuel:=0) [5,6,7,8] G Kr (MV G G (ST (q0p Tu9 G G ar) G (q02 H (Y36 bb) G trivial (q00 G) G ?_))))))));intro bt M w H b2 hR;obtain rfl:=hR;refine AS G G (NA (q0f Kr (TN (SQ (SQ (RG (MV G G (ST (q0m G G) G (NL (TN ?_))))))))));refine CB (p:=bg<(0:Int)) G (fun a5=>?_) fun a5=>?_
     .
      rw[if_pos a5] at J;refine SQ (RG (AS G G (NL (TN (RT ?_)))));obtain rfl:=oI J;try dsimp only at u
      obtain rfl:=oI u;try dsimp only at h
      obtain rfl:=oI h;exact q07 G G H.ext G
     rw[if_neg a5] at J;refine SK (TN ?_);obtain⟨bu,au,J⟩:=bnd J;obtain⟨bv,av,J⟩:=bnd J;refine RG (MV G G (MV G G (ST (q0e G G au) G (ST (q0e G G av) G (AS G G (NL ?_))))));exact MN ⟨_,_,G,H,J⟩
    replace O:ae=ah:=of_not_decide' O;rw[if_pos O] at J;refine SK ?_;exact MN ⟨_,_,G,H,J⟩
   rintro e w ⟨a0,M,rfl,H,bh⟩;obtain rfl:=oI bh;try dsimp only at u
   refine TN (SQ (SQ (RG (AS G G (NL (TN ?_))))));obtain⟨b8,E,u⟩:=bnd u;refine q0c (fun e w =>∃  (M:Mem),e=[(8,I Z),(9,I a0)]/\St w0 M0 M [] w/\some ()=some b8) [] ?_ ?_ (trivial)
   .
    refine BL (q0l (fun m e w =>∃(aa:Int) (M:Mem),e=[(0,S p0),(7,S (Chs.utf8 V)),(8,I Z),(9,I a0),(12,I aa)]/\St w0 M0 M [] w/\Y1J p0 V Z a0 m aa=some b8) FU [(0,_),(7,_),(8,_),(9,_),(12,_)] ⟨rfl,rfl,rfl,rfl,rfl,trivial⟩ ⟨_,_,rfl,H,E⟩ ?_);rintro ai e w ⟨aa,M,rfl,H,E⟩;rcases ai with _|ai
    . rw[Y1J] at E;cases E
    rw[Y1J] at E;refine SQ (SQ (RG (MV G G (MV G G (ST (q0g Tu9 G) G (ST (q0m G G) G (NL (TN ?_))))))));refine CB (p:=aa<((Chs.utf8 V).length:Int)) G (fun a6=>?_) fun a6=>?_
    .
     rw[if_pos a6] at E;refine SK (TN (SQ (BL (SQ ?_))));obtain⟨bw,aw,E⟩:=bnd E;obtain⟨aj,ax,E⟩:=bnd E;obtain⟨bx,ay,E⟩:=bnd E;obtain⟨ak,az,E⟩:=bnd E;refine q0x (m:=11) G G H ?_;intro w H;refine TK 0 G (fun _=>q06 G) G (TK 1 G (fun _=>q06 G) G (TK 2 G (fun _=>q06 G) G (TK 3 G (fun _=>q0K G G aw) G (TK 4 G (fun _=>q0p Tu9 G G ax) G (TK 5 G (fun _=>q06 G) G (TK 6 G (fun _=>q06 G) G ?_))))));refine q0k (fuel:=0) [7,8,9,10] G Kr (MV G G (ST (q0K G G ay) G (ST (q0p Tu9 G G az) G (ST (Ex.neqB (c:=aj) (d:=ak) G G) G (NA (q0f Kr (TN ?_)))))));refine q0a G (fun U=>?_) (fun U=>?_)
     .
      replace U :¬(aj=ak):=of_not_decide U;rw[if_neg U] at E;cases E
     replace U:aj=ak:=of_not_decide' U;rw[if_pos U] at E;refine SK (IB (TN ?_));obtain⟨bz,b0,E⟩:=bnd E;refine RG (MV G G (ST (q0e G G b0) G (AS G G (NL ?_))));exact AG ai ⟨_,_,G,H,E⟩ (l06 _)
    rw[if_neg a6] at E;refine q0j (q03 (q03 (q0b ?_)));exact MN ⟨_,G,H,E⟩
   rintro e w ⟨M,rfl,H,bi⟩;obtain rfl:=oI bi;try dsimp only at u
   refine TN (SQ (SQ ?_));obtain⟨c0,b1,u⟩:=bnd u;refine RG (MV G G (MV G G (ST (q0K G G b1) G (AS G G (NL (TN (RT ?_)))))));obtain rfl:=oI u;try dsimp only at h
   obtain rfl:=oI h;exact q07 G G H.ext G
  rw[if_neg a4] at u;refine q0j (q03 (q03 (q0b ?_)));exact MN ⟨_,G,H,u⟩
 rintro e w ⟨M,rfl,H,bj⟩;obtain rfl:=oI bj;try dsimp only at h
 refine TN (SQ (SQ (RG (AS G G (NL (TN (RT ?_)))))));obtain rfl:=oI h;exact q07 G G H.ext G
theorem Y3Z {p0:Int}{r:Bool}(h:Y0D p0=some r):Ct Tryz.prog 213 [I p0] (fun M=>True) (fun v M=>v=Value.bool r):=by
 refine Ct.of Tf213 (enters Tf213 Kr G) G G G ?_;intro u M0 H hp;unfold Y0D at h;refine SQ (RG (AS G G (NL (TN (SQ (RG (MV G G (ST (q0C G G) G (AS G G (NL (TN (RT ?_))))))))))));obtain rfl:=oI h;exact q07 G G H.ext G
theorem Y1R {p0:Ls}{r:(List Bool × Bool)}(h:Y0d p0=some r):Ct Tryz.prog 75 [S p0] (fun M=>True) (fun v M=>v=Value.tuple #[Value.agg (List.map encBo r.1).toArray,Value.bool r.2]):=by
 refine Ct.of Tf75 (enters Tf75 Kr G) G G G ?_;intro w0 M0 H hp;unfold Y0d at h;refine SQ (RG (q09 (List.map encBo (List.replicate 256 false:List Bool)) H Tz143 Kr (q00 G) G ?_));intro E w H;refine AS G G (NL (TN (SQ (SQ (RG (AS G G (NL (TN ?_))))))));obtain⟨o1,u,h⟩:=bnd h;refine q0c (fun e w =>∃(l3:List Bool) (M:Mem),e=[(2,ptr E 0)]/\St w0 M0 M [.blk E (.cells (List.map encBo l3).toArray 143)] w/\some (.inl l3)=some o1) [] ?_ ?_ (trivial)
 .
  refine BL (q0l (fun m e w =>∃(N:List Bool) (O:Int) (M:Mem),e=[(0,S p0),(2,ptr E 0),(4,I O)]/\St w0 M0 M [.blk E (.cells (List.map encBo N).toArray 143)] w/\Y1n p0 m N O=some o1) FU [(0,_),(2,_),(4,_)] ⟨rfl,rfl,rfl,trivial⟩ ⟨_,_,_,rfl,H,u⟩ ?_);rintro m6 e w ⟨N,O,M,rfl,H,u⟩;rcases m6 with _|m6
  . rw[Y1n] at u;cases u
  rw[Y1n] at u;refine SQ (SQ (RG (MV G G (MV G G (ST (q0g Tu9 G) G (ST (q0m G G) G (NL (TN ?_))))))));refine CB (p:=O<(p0.length:Int)) G (fun J=>?_) fun J=>?_
  .
   rw[if_pos J] at u;refine SK (TN (SQ (BL (SQ ?_))));obtain⟨c8,a8,u⟩:=bnd u;refine RG (MV G G (MV G G (ST (q0p Tu9 G G a8) G (AS G G (NL (TN (SQ (SQ (RG (MV G G (ST (q1g (i:=c8.toNat) (j:=128) G G) G (NL (TN ?_)))))))))))));refine CB (p:=128<=c8.toNat) G (fun K=>?_) fun K=>?_
   .
    rw[if_pos K] at u;refine SQ ?_;obtain⟨ac,U,u⟩:=bnd u;obtain⟨ah,V,u⟩:=bnd u;obtain⟨ai,Y,u⟩:=bnd u;refine RG (ST (Ex.loadAggA H G Km Ta143 Ts143 U) G ?_);refine q1z (l2:=ac) H G G (fun _=>G) (fun _=>by repeat first|exact .head|apply Upd.tail) V Y Ts143 (q00 G) ?_;intro w H;refine AS G G (NL (TN (RT ?_)));obtain⟨aj,Z,u⟩:=bnd u;obtain rfl:=oI u;try dsimp only at h
    obtain rfl:=oI h;exact q0t G ⟨_,G,H.loadAggA Km Ta143 Ts143 Z⟩ G H.ext G
   rw[if_neg K] at u;refine SK (TN ?_);obtain⟨ak,a0,u⟩:=bnd u;obtain⟨al,a1,u⟩:=bnd u;refine RG (MV G G (ST (Ex.idxArrC (l:=N) Tu143 Ts4 G G a0) G (WR.storeArr (a:=true) H G G ⟨G,G⟩ (fun _=>by repeat first|exact .head|apply Upd.tail) a1 Ts4 (q00 G) ?_)));intro w H;refine NL (IB (TN ?_));obtain⟨am,a2,u⟩:=bnd u;refine RG (MV G G (ST (q0e G G a2) G (AS G G (NL ?_))));exact AG m6 ⟨_,_,_,G,H,u⟩ (l06 _)
  rw[if_neg J] at u;refine q0j (q03 (q03 (q0b ?_)));exact MN ⟨_,_,G,H,u⟩
 rintro e w ⟨l3,M,rfl,H,ad⟩;obtain rfl:=oI ad;try dsimp only at h
 refine TN (SQ ?_);obtain⟨ae,a3,h⟩:=bnd h;obtain⟨an,a4,h⟩:=bnd h;obtain⟨ao,a5,h⟩:=bnd h;refine RG (ST (Ex.loadAggA H G Km Ta143 Ts143 a3) G ?_);refine q1z (l2:=ae) H G G (fun _=>G) (fun _=>by repeat first|exact .head|apply Upd.tail) a4 a5 Ts143 (q00 G) ?_;intro w H;refine AS G G (NL (TN (RT ?_)));obtain⟨ap,a6,h⟩:=bnd h;obtain rfl:=oI h;exact q0t G ⟨_,G,H.loadAggA Km Ta143 Ts143 a6⟩ G H.ext G
theorem Y1S {p0:List Bool}{J:UInt8}{E:Nat}{r:Bool}(h:Y0b p0 J=some r):Ct Tryz.prog 111 [ptr E 0,encB J] (fun M=>PtM M E (.cells (List.map encBo p0).toArray 143)) (fun v M=>v=Value.bool r):=by
 refine Ct.of Tf111 (enters Tf111 Kr G) G G G ?_;intro N M0 H hp;have K:=hp;unfold Y0b at h;refine SQ (RG (AS G G (NL (TN (SQ ?_)))));obtain⟨O,u,h⟩:=bnd h;refine RG (MV G G (MV G G (ST (q0S G) G (ST (Ex.idxArrC (l:=p0) Tu143 Ts4 G G u) G (ST (Ex.loadArrM H G K u Ta4) G (AS G G (NL (TN (RT ?_)))))))));obtain rfl:=oI h;exact q07 G G H.ext G
theorem Y5v {p0:Ls}{V:Ls}{r:Int}(h:Y29 p0 V=some r):Ct Tryz.prog 182 [S p0,S V] (fun M=>True) (fun v M=>v=I r):=by
 refine Ct.of Tryz.func182 (enters Tryz.func182 Kr G) G G G ?_;intro w0 M0 H hp;unfold Y29 at h;refine SQ (RG (AS G G (NL (TN (SQ (SQ (RG (MV G G (ST (q0B G G) G (NL (TN ?_)))))))))));refine CB (p:=V=[]) G (fun a5=>?_) fun a5=>?_
 .
  rw[if_pos a5] at h;refine SQ (RG (AS G G (NL (TN (RT ?_)))));obtain rfl:=oI h;exact q07 G G H.ext G
 rw[if_neg a5] at h;refine SK (TN (SQ (SQ (RG (MV G G (ST (q0g Tu9 G) G (ST (q0u G G) G (NL (TN ?_)))))))));refine CB (p:=(V.length:Int)=(1:Int)) G (fun a6=>?_) fun a6=>?_
 .
  rw[if_pos a6] at h;refine SQ ?_;obtain⟨c3,am,h⟩:=bnd h;refine RG (MV G G (ST (q0p Tu9 G G am) G (ST (Ex.conv Tu5 Tu21 G) G (AS G G (NL (TN (SQ (SQ (RG (MV G G (ST (q0R G G) G (NL (TN ?_)))))))))))));obtain⟨o4,e5,h⟩:=bnd h;refine q0c (fun e w =>∃(n6:Int) (M:Mem),e=[(0,S p0),(5,Value.int .i32 n6)]/\St w0 M0 M [] w/\some n6=some o4) [] ?_ ?_ (trivial)
  .
   refine CB (p:=(128:Int)<=(IntKind.i32.wrap (c3.toNat:Int))) G (fun a7=>?_) fun a7=>?_
   .
    rw[if_pos a7] at e5;refine RG (AS G G (NL ?_));exact MN ⟨_,_,G,H,e5⟩
   rw[if_neg a7] at e5;refine SK ?_;exact MN ⟨_,_,G,H,e5⟩
  rintro e w ⟨n6,M,rfl,H,q8⟩;obtain rfl:=oI q8;refine TN (SQ ?_);obtain⟨n9,ao,h⟩:=bnd h;refine RG (MV G G (MV G G (q02 H (Y3W ao) G trivial (q00 G) G ?_)));intro b3 M w H N hR;obtain rfl:=hR;refine AS G G (NL (TN (RT ?_)));obtain rfl:=oI h;exact q07 G G H.ext G
 rw[if_neg a6] at h;refine SK (TN (SQ (SQ ?_)));obtain⟨b4,ap,h⟩:=bnd h;refine RG (MV G G (ST (q0g Tu9 G) G (q02 H (Y3Z ap) G trivial (q00 G) G ?_)));intro b5 M w H N hR;obtain rfl:=hR;refine NL (TN ?_);obtain⟨av,u,h⟩:=bnd h;refine q0c (fun e w =>∃  (M:Mem),e=[(0,S p0),(1,S V)]/\St w0 M0 M [] w/\some (.inl ())=some av) [] ?_ ?_ (trivial)
 .
  refine q0a G (fun Y=>?_) (fun Y=>?_)
  .
   subst Y;rw[if_pos rfl] at u;refine SQ ?_;obtain⟨⟨a8,b6⟩,aq,u⟩:=bnd u;try dsimp only at u
   obtain⟨b7,ae,u⟩:=bnd u;obtain⟨b8,ah,u⟩:=bnd u;refine RG (MV G G (q02 H (Y1R aq) G trivial (q00 G) G ?_));intro b9 M w H N hR;try dsimp only at hR
   obtain rfl:=hR;refine MV G G (ST (q05 G G) G (ST (q05 G G) G (q09 (List.map encBo (List.replicate 256 false:List Bool)) H Tz143 Kr (q00 G) G ?_)));intro a9 w H;refine q1z (l2:=a8) H G G (fun _=>G) (fun _=>by repeat first|exact .head|apply Upd.tail) ae ah Ts143 (q00 G) ?_;intro w H;refine AS G G (NL (TN (SQ (RG (MV G G (NL (TN ?_)))))));refine q0a G (fun Z=>?_) (fun Z=>?_)
   .
    subst Z;rw[if_pos rfl] at u;refine SQ (SQ (RG (AS G G (NL (TN ?_)))));obtain⟨ak,E,u⟩:=bnd u;refine q0c (fun e w =>∃  (M:Mem),e=[]/\St w0 M0 M [] w/\some (.inl ())=some ak) [] ?_ ?_ (trivial)
    .
     refine BL ?_;obtain⟨M,N,K,H⟩:=H.freezeVar (b:=a9) Kv;refine q0l (fun m e w =>∃(a3:Int) (M:Mem),e=[(0,S p0),(6,ptr a9 0),(8,I a3)]/\St w0 M0 M [] w/\PtM M a9 (.cells (List.map encBo a8).toArray 143)/\Y0H p0 a8 m a3=some ak) FU [(0,_),(6,_),(8,_)] ⟨rfl,rfl,rfl,trivial⟩ ⟨_,_,rfl,H,K,E⟩ ?_;rintro aa e w ⟨a3,M,rfl,H,K,E⟩;rcases aa with _|aa
     . rw[Y0H] at E;cases E
     rw[Y0H] at E;refine SQ (SQ (RG (MV G G (MV G G (ST (q0g Tu9 G) G (ST (q0m G G) G (NL (TN ?_))))))));refine CB (p:=a3<(p0.length:Int)) G (fun a0=>?_) fun a0=>?_
     .
      rw[if_pos a0] at E;refine SK (TN (SQ (BL (SQ ?_))));obtain⟨ba,ai,E⟩:=bnd E;obtain⟨bb,ar,E⟩:=bnd E;refine RG (MV G G (MV G G (ST (q0p Tu9 G G ai) G (q02 H (Y1S ar) G (K) (q00 G) G ?_))));intro bc M w H N hR;replace K:=K.mono N;obtain rfl:=hR;refine NL (TN ?_);refine q0a G (fun a1=>?_) (fun a1=>?_)
      .
       subst a1;rw[if_pos rfl] at E;refine SQ (RG (MV G G (AS G G (NL (TN (RT ?_))))));obtain rfl:=oI E;try dsimp only at u
       obtain rfl:=oI u;try dsimp only at h
       obtain rfl:=oI h;exact q07 G G H.ext G
      subst a1;rw[if_neg l00] at E;refine SK (IB (TN ?_));obtain⟨bd,aj,E⟩:=bnd E;refine RG (MV G G (ST (q0e G G aj) G (AS G G (NL ?_))));exact AG aa ⟨_,_,G,H,K,E⟩ (l06 _)
     rw[if_neg a0] at E;refine q0j (q03 (q03 (q0b ?_)));exact MN ⟨_,G,H,E⟩
    rintro e w ⟨M,rfl,H,aw⟩;obtain rfl:=oI aw;try dsimp only at u
    refine TN (SQ (RG (AS G G (NL (TN (RT ?_))))));obtain rfl:=oI u;try dsimp only at h
    obtain rfl:=oI h;exact q07 G G H.ext G
   subst Z;rw[if_neg l00] at u;refine SK ?_;exact MN ⟨_,G,(H.pick (L':=[]) Kp),u⟩
  subst Y;rw[if_neg l00] at u;refine SK ?_;exact MN ⟨_,G,H,u⟩
 rintro e w ⟨M,rfl,H,ax⟩;obtain rfl:=oI ax;try dsimp only at h
 refine TN (SQ (SQ (RG (MV G G (WR.rangeStr H Tu9 G (q00 G) G ?_)))));intro ab w H;refine NL (TN ?_);obtain⟨al,J,h⟩:=bnd h;refine q0c (fun e w =>∃  (M:Mem),e=[]/\St w0 M0 M [] w/\some (.inl ())=some al) [] ?_ ?_ (trivial)
 .
  refine BL (q0l (fun m e w =>∃(O:Nat) (M:Mem),e=[(1,S V),(45,ptr ab 0)]/\St w0 M0 M [.blk ab (.stringIter ⟨((p0):Ls).toArray⟩ O)] w/\Y0I p0 V m O=some al) FU [(1,_),(45,_)] ⟨rfl,rfl,trivial⟩ ⟨_,_,rfl,H,J⟩ ?_);rintro ac e w ⟨O,M,rfl,H,J⟩;rcases ac with _|ac
  . rw[Y0I] at J;cases J
  rw[Y0I] at J;refine SQ ?_;by_cases U:O<p0.length
  .
   rw[if_pos U] at J;refine RG (WR.nextT H U G Ku (q00 G) G ?_);intro w H;refine ST (q05 G G) G (NL (TN (SQ (CT G (SK (TN (BL (SQ (RG (ST (q05 G G) G (ST (q05 G G) G (AS G G (AS G G (NL (TN (SQ ?_))))))))))))))));obtain⟨ay,au,J⟩:=bnd J;refine RG (MV G G (MV G G (q02 H (Y3W au) G trivial (q00 G) G ?_)));intro be M w H N hR;obtain rfl:=hR;refine ST (q0R G G) G (NL (TN ?_));refine CB (p:=(0:Int)<=ay) G (fun a2=>?_) fun a2=>?_
   .
    rw[if_pos a2] at J;refine SQ (RG (MV G G (AS G G (NL (TN (RT ?_))))));obtain rfl:=oI J;try dsimp only at h
    obtain rfl:=oI h;exact q07 G G H.ext G
   rw[if_neg a2] at J;refine SK (IB ?_);exact AG ac ⟨_,_,G,H,J⟩ (l06 _)
  rw[if_neg U] at J;refine RG (WR.nextF H (l2s U) G Km (q00 G) G ?_);refine ST (q05 G G) G (NL (TN (SQ (CF G (q0j (q03 (q03 (q0b ?_))))))));exact MN ⟨_,G,(H.pick (L':=[]) Kp),J⟩
 rintro e w ⟨M,rfl,H,az⟩;obtain rfl:=oI az;try dsimp only at h
 refine TN (SQ (RG (AS G G (NL (TN (RT ?_))))));obtain rfl:=oI h;exact q07 G G H.ext G
theorem Y4W {p0:Ls}{u:Ls}{r:Bool}(h:Y1u p0 u=some r):Ct Tryz.prog 146 [S p0,S u] (fun M=>True) (fun v M=>v=Value.bool r):=by
 refine Ct.of Tryz.func146 (enters Tryz.func146 Kr G) G G G ?_;intro K M0 H hp;unfold Y1u at h;refine SQ (RG (AS G G (NL (TN (SQ ?_)))));obtain⟨N,E,h⟩:=bnd h;refine RG (MV G G (MV G G (q02 H (Y5v E) G trivial (q00 G) G ?_)));intro O M w H J hR;obtain rfl:=hR;refine ST (q0R G G) G (AS G G (NL (TN (RT ?_))));obtain rfl:=oI h;exact q07 G G H.ext G
theorem Y6B {p0:Ls}{r:Bool}(h:Y51 p0=some r):Ct Tryz.prog 107 [S p0] (fun M=>True) (fun v M=>v=Value.bool r):=by
 refine Ct.of Tryz.func107 (enters Tryz.func107 Kr G) G G G ?_;intro J M0 H hp;unfold Y51 at h;refine SQ (RG (AS G G (NL (TN (SQ ?_)))));obtain⟨K,u,h⟩:=bnd h;refine RG (MV G G (q02 H (Y4W u) G trivial (q00 G) G ?_));intro N M w H E hR;obtain rfl:=hR;refine AS G G (NL (TN (RT ?_)));obtain rfl:=oI h;exact q07 G G H.ext G
theorem Y2H {p0:UInt8}{r:Bool}(h:Y1H p0=some r):Ct Tryz.prog 40 [encB p0] (fun M=>True) (fun v M=>v=Value.bool r):=by
 refine Ct.of Tryz.func40 (enters Tryz.func40 Kr G) G G G ?_;intro K M0 H hp;unfold Y1H at h;refine SQ (RG (AS G G (NL (TN (SQ ?_)))));obtain⟨N,E,h⟩:=bnd h;refine q0c (fun e w =>∃(J:Bool) (M:Mem),e=[(2,Value.bool J)]/\St K M0 M [] w/\some J=some N) [] ?_ ?_ (trivial)
 .
  by_cases u:p0=32
  .
   rw[if_pos u] at E;refine RG (MV G G (DT u (q0L (c:=p0) (d:=32) G G) G (MV G G (GT G G G (GT G G G (PT G G G (AS G G (NL ?_))))))));exact MN ⟨_,_,G,H,E⟩
  rw[if_neg u] at E;refine RG (MV G G (DF u (q0L (c:=p0) (d:=32) G G) G (MV G G (SG (q06 G) G G G (SG (q0L (c:=p0) (d:=9) G G) G G G (PF G G G (AS G G (NL ?_))))))));exact MN ⟨_,_,G,H,E⟩
 rintro e w ⟨J,M,rfl,H,O⟩;obtain rfl:=oI O;refine TN (RT ?_);obtain rfl:=oI h;exact q07 G G H.ext G
theorem Y6q {p0:Ls}{r:Bool}(h:Y4B p0=some r):Ct Tryz.prog 66 [S p0] (fun M=>True) (fun v M=>v=Value.bool r):=by
 refine Ct.of Tryz.func66 (enters Tryz.func66 Kr G) G G G ?_;intro w0 M0 H hp;unfold Y4B at h;refine SQ (RG (AS G G (NL (TN (SQ ?_)))));obtain⟨o1,u,h⟩:=bnd h;refine q0c (fun e w =>∃(O:Bool) (M:Mem),e=[(2,Value.bool O)]/\St w0 M0 M [] w/\some O=some o1) [] ?_ ?_ (trivial)
 .
  obtain⟨b4,Y,u⟩:=bnd u;refine RG (MV G G (q02 H (Y6B Y) G trivial (q00 G) G ?_));intro v4 M w H N hR;obtain rfl:=hR;refine ST (q0y G) G (MV G G ?_);rcases b4 with _|_
  .
   rw[if_neg l00] at u;by_cases E:p0=[]
   .
    rw[if_pos E] at u;refine SG (q06 G) G G G (DU E (q0B G G) G G G (SG (q06 G) G G G (q0i 13 G G (SG (Ex.pickT G G) G G G (PT G G G (AS G G (NL ?_)))))));exact MN ⟨_,_,G,H,u⟩
   rw[if_neg E] at u;obtain⟨c7,U,u⟩:=bnd u;obtain⟨b8,Z,u⟩:=bnd u;refine SG (q06 G) G G G (DG E (q0B G G) G G G (SG (q06 G) G G G (SG (q06 G) G G G (SG (q0p Tu9 G G U) G G G (q02 H (Y2H Z) G trivial (q0h G G G) G ?_)))));intro a5 M w H N hR;obtain rfl:=hR;refine SG (q0y G) G G G (SG (q06 G) G G G ?_);rcases b8 with _|_
   .
    rw[if_neg l00] at u;obtain⟨a6,J,u⟩:=bnd u;obtain⟨a7,K,u⟩:=bnd u;obtain⟨a8,V,u⟩:=bnd u;refine SG (q06 G) G G G (SG (q06 G) G G G (SG (q0g Tu9 G) G G G (SG (q0K G G J) G G G (SG (q0p Tu9 G G K) G G G (q02 H (Y2H V) G trivial (q0h G G G) G ?_)))));intro a9 M w H N hR;obtain rfl:=hR;refine SG (q0y G) G G G (SG (Ex.pickT G G) G G G (SG (Ex.pickF G G) G G G (PT G G G (AS G G (NL ?_)))));exact MN ⟨_,_,G,H,u⟩
   rw[if_pos rfl] at u;refine q0i 7 G G (SG (Ex.pickF G G) G G G (SG (Ex.pickF G G) G G G (PT G G G (AS G G (NL ?_)))));exact MN ⟨_,_,G,H,u⟩
  rw[if_pos rfl] at u;refine q0i 17 G G (PF G G G (AS G G (NL ?_)));exact MN ⟨_,_,G,H,u⟩
 rintro e w ⟨O,M,rfl,H,a0⟩;obtain rfl:=oI a0;refine TN (RT ?_);obtain rfl:=oI h;exact q07 G G H.ext G
theorem Y6r {p0:Ls}{p1:Int}{r:Int}(h:Y4C p0 p1=some r):Ct Tryz.prog 67 [S p0,I p1] (fun M=>True) (fun v M=>v=I r):=by
 refine Ct.of Tryz.func67 (enters Tryz.func67 Kr G) G G G ?_;intro w0 M0 H hp;unfold Y4C at h;refine SQ (RG (AS G G (NL (TN (SQ (RG (AS G G (NL (TN (SQ (SQ (RG (MV G G (ST (Ex.max2 G G) G (AS G G (NL (TN ?_)))))))))))))))));obtain⟨o1,u,h⟩:=bnd h;refine q0c (fun e w =>∃(n3:Int) (M:Mem),e=[(5,I n3)]/\St w0 M0 M [] w/\some n3=some o1) [] ?_ ?_ (trivial)
 .
  refine BL (q0l (fun m e w =>∃(U:Int) (V:Int) (M:Mem),e=[(0,S p0),(5,I U),(6,I V)]/\St w0 M0 M [] w/\Y1O p0 m U V=some o1) FU [(0,_),(5,_),(6,_)] ⟨rfl,rfl,rfl,trivial⟩ ⟨_,_,_,rfl,H,u⟩ ?_);rintro m6 e w ⟨U,V,M,rfl,H,u⟩;rcases m6 with _|m6
  . rw[Y1O] at u;cases u
  rw[Y1O] at u;refine SQ (SQ (RG (MV G G (MV G G (ST (q0g Tu9 G) G (ST (q0m G G) G (NL (TN ?_))))))));refine CB (p:=V<(p0.length:Int)) G (fun Y=>?_) fun Y=>?_
  .
   rw[if_pos Y] at u;refine SK (TN (SQ (BL (SQ (SQ ?_)))));obtain⟨o8,E,u⟩:=bnd u;refine q0c (fun e w =>∃(Z:Bool) (M:Mem),e=[(0,S p0),(5,I U),(6,I V),(26,Value.bool Z)]/\St w0 M0 M [] w/\some Z=some o8) [] ?_ ?_ (trivial)
   .
    obtain⟨am,a3,E⟩:=bnd E;obtain⟨ad,a9,E⟩:=bnd E;refine RG (MV G G (MV G G (ST (q0p Tu9 G G a3) G (q02 H (Y2H a9) G trivial (q00 G) G ?_))));intro an M w H ae hR;obtain rfl:=hR;refine ST (q0y G) G (MV G G ?_);rcases ad with _|_
    .
     rw[if_neg l00] at E;refine q0i 5 G G (PT G G G (NL ?_));exact MN ⟨_,_,G,H,E⟩
    rw[if_pos rfl] at E;obtain⟨ao,a4,E⟩:=bnd E;obtain⟨ap,a5,E⟩:=bnd E;obtain⟨aq,aa,E⟩:=bnd E;refine SG (q06 G) G G G (SG (q06 G) G G G (SG (q0K G G a4) G G G (SG (q0p Tu9 G G a5) G G G (q02 H (Y2H aa) G trivial (q0h G G G) G ?_))));intro ar M w H ae hR;obtain rfl:=hR;refine PF G G G (NL ?_);exact MN ⟨_,_,G,H,E⟩
   rintro e w ⟨Z,M,rfl,H,ah⟩;obtain rfl:=oI ah;refine TN ?_;refine q0a G (fun K=>?_) (fun K=>?_)
   .
    subst K;rw[if_pos rfl] at u;refine q0j (q03 (q0b (TN ?_)));obtain⟨au,a6,u⟩:=bnd u;refine RG (MV G G (ST (q0e G G a6) G (AS G G (NL ?_))));exact AG m6 ⟨_,_,_,G,H,u⟩ (l06 _)
   subst K;rw[if_neg l00] at u;refine SK (TN (SQ (SQ ?_)));obtain⟨ai,O,u⟩:=bnd u;refine q0c (fun e w =>∃(a0:Bool) (M:Mem),e=[(0,S p0),(5,I U),(6,I V),(32,Value.bool a0)]/\St w0 M0 M [] w/\some a0=some ai) [] ?_ ?_ (trivial)
   .
    by_cases J:(0:Int)<U
    .
     rw[if_pos J] at O;refine RG (MV G G (DT J (q0C G G) G (MV G G (SG (q06 G) G G G (SG (q0C G G) G G G (PT G G G (NL ?_)))))));exact MN ⟨_,_,G,H,O⟩
    rw[if_neg J] at O;refine RG (MV G G (DF J (q0C G G) G (MV G G (GF G G G (GF G G G (PF G G G (NL ?_)))))));exact MN ⟨_,_,G,H,O⟩
   rintro e w ⟨a0,M,rfl,H,aj⟩;obtain rfl:=oI aj;refine TN ?_;refine q0a G (fun N=>?_) (fun N=>?_)
   .
    subst N;rw[if_pos rfl] at u;refine q0j (q03 (q1r G (q03 (q03 (q0b ?_)))));exact MN ⟨_,_,G,H,u⟩
   subst N;rw[if_neg l00] at u;refine SK (TN (RG (MV G G (AS G G (NL (IB (TN ?_)))))));obtain⟨av,a7,u⟩:=bnd u;refine RG (MV G G (ST (q0e G G a7) G (AS G G (NL ?_))));exact AG m6 ⟨_,_,_,G,H,u⟩ (l06 _)
  rw[if_neg Y] at u;refine q0j (q03 (q03 (q0b ?_)));exact MN ⟨_,_,G,H,u⟩
 rintro e w ⟨n3,M,rfl,H,ak⟩;obtain rfl:=oI ak;refine TN (SQ (RG (MV G G (AS G G (NL (TN (RT ?_)))))));obtain rfl:=oI h;exact q07 G G H.ext G
theorem Y4n {p0:Ls}{p1:Ls}{r:(List Ls × (Int × Int))}(h:Y3O p0 p1=some r):Ct Tryz.prog 38 [S p0,S p1] (fun M=>True) (fun v M =>∃x0,v=Value.tuple #[x0,Value.agg #[I r.2.1,I r.2.2]]/\Sl M encS x0 r.1):=by
 refine Ct.of Tryz.func38 (enters Tryz.func38 Kr G) G G G ?_;intro w0 M0 H hp;unfold Y3O at h;refine SQ (RG (AS G G (q09 [_,_] H Tz28 G (q00 G) G ?_)));intro N w H;refine NL (TN (SQ (BL (SQ ?_))));obtain⟨b1,bc,h⟩:=bnd h;refine RG (MV G G (q02 H (Y6A bc) G trivial (q00 G) G ?_));intro bm M w H J hR;obtain rfl:=hR;refine ST (q0y G) G (AS G G (NL (TN ?_)));refine q0a G (fun O=>?_) (fun O=>?_)
 .
  replace O:b1=false:=by simpa using O
  subst O;rw[if_neg l00] at h;refine SQ ?_;obtain⟨⟨n4,n5⟩,bd,h⟩:=bnd h;try dsimp only at h
  refine RG (q02 H (Y02 bd) G trivial (q00 G) G ?_);intro bn M w H J hR;try dsimp only at hR
  obtain rfl:=hR;refine AS G G (q04 [_,_] H G G G Ku Ts28 G Kf Kf (q00 G) ?_);intro w H;refine NL (TN (RT ?_));obtain rfl:=oI h;exact q0t G G ⟨_,G,H.loadAgg Km Ta28 Ts28 Kf⟩ H.ext (⟨_,G,q0U _ _⟩)
 replace O:b1=true:=by simpa using O
 subst O;rw[if_pos rfl] at h;refine SQ (RG (MV G G (ST (q0g Tu9 G) G (ST (q0C G G) G (AS G G (NL (TN ?_)))))));refine CB (p:=(4000:Int)<(p1.length:Int)) G (fun a8=>?_) fun a8=>?_
 .
  rw[if_pos a8] at h;refine SQ ?_;obtain⟨⟨n8,n9⟩,az,h⟩:=bnd h;try dsimp only at h
  refine RG (q02 H (Y02 az) G trivial (q00 G) G ?_);intro bo M w H J hR;try dsimp only at hR
  obtain rfl:=hR;refine AS G G (q04 [_,_] H G G G Ku Ts28 G Kf Kf (q00 G) ?_);intro w H;refine NL (TN (RT ?_));obtain rfl:=oI h;exact q0t G G ⟨_,G,H.loadAgg Km Ta28 Ts28 Kf⟩ H.ext (⟨_,G,q0U _ _⟩)
 rw[if_neg a8] at h;refine SQ ?_;obtain⟨av,b0,h⟩:=bnd h;refine RG (MV G G (q02 H (Y6q b0) G trivial (q00 G) G ?_));intro bp M w H J hR;obtain rfl:=hR;refine ST (q0y G) G (AS G G (NL (TN ?_)));refine q0a G (fun K=>?_) (fun K=>?_)
 .
  replace K:av=false:=by simpa using K
  subst K;rw[if_neg l00] at h;refine SQ ?_;obtain⟨⟨bq,br⟩,b2,h⟩:=bnd h;try dsimp only at h
  refine RG (q02 H (Y02 b2) G trivial (q00 G) G ?_);intro bs M w H J hR;try dsimp only at hR
  obtain rfl:=hR;refine AS G G (q04 [_,_] H G G G Ku Ts28 G Kf Kf (q00 G) ?_);intro w H;refine NL (TN (RT ?_));obtain rfl:=oI h;exact q0t G G ⟨_,G,H.loadAgg Km Ta28 Ts28 Kf⟩ H.ext (⟨_,G,q0U _ _⟩)
 replace K:av=true:=by simpa using K
 subst K;rw[if_pos rfl] at h;refine SK (IB (TN (SQ ?_)));obtain⟨bt,al,h⟩:=bnd h;obtain⟨bu,am,h⟩:=bnd h;obtain⟨bv,an,h⟩:=bnd h;refine RG (MV G G (ST (q0d G G al) G (MV G G (ST (q0d G G am) G (MV G G (ST (q0g Tu9 G) G (ST (q0e G G an) G (AS G G (AS G G (NL (TN (SQ (RG (AS G G (NL (TN (SQ ?_)))))))))))))))));obtain⟨aw,u,h⟩:=bnd h;refine q0c (fun e w =>∃(a2:Ls) (a3:List Ls) (a9:Value) (M:Mem),e=[(5,ptr N 0),(6,S a2),(8,a9)]/\St w0 M0 M [.blk N (.cells #[I 0,I 0] 28),RowI 9 encS a9 a3] w/\some (a2,a3)=some aw) [] ?_ ?_ (trivial)
 .
  refine BL ?_;replace H:=H.newRow 9 encS;refine q0l (fun m e w =>∃(a4:Ls) (aa:Int) (a5:List Ls) (ab:Value) (M:Mem),e=[(5,ptr N 0),(6,S a4),(7,I aa),(8,ab)]/\St w0 M0 M [.blk N (.cells #[I 0,I 0] 28),RowI 9 encS ab a5] w/\Y2y  m a4 aa a5=some aw) FU [(5,_),(6,_),(7,_),(8,_)] ⟨rfl,rfl,rfl,rfl,trivial⟩ ⟨_,_,_,_,_,rfl,(H.pick (L':=[.blk N (.cells #[I 0,I 0] 28),RowI 9 encS (Value.slice none 0 0) []]) Kp),u⟩ ?_;rintro ac e w ⟨a4,aa,a5,ab,M,rfl,H,u⟩;rcases ac with _|ac
  . rw[Y2y] at u;cases u
  rw[Y2y] at u;refine SQ (SQ (RG (MV G G (ST (q0g Tu9 G) G (ST (q0C G G) G (NL (TN ?_)))))));refine CB (p:=(78:Int)<(a4.length:Int)) G (fun Y=>?_) fun Y=>?_
  .
   rw[if_pos Y] at u;refine SK (TN (BL (SQ ?_)));obtain⟨be,b3,u⟩:=bnd u;refine RG (MV G G (MV G G (q02 H (Y6r b3) G trivial (q00 G) G ?_)));intro bw M w H J hR;obtain rfl:=hR;refine AS G G (NL (TN (SQ (SQ (RG (MV G G (ST (q0u G G) G (NL (TN ?_)))))))));refine CB (p:=be=(0:Int)) G (fun Z=>?_) fun Z=>?_
   .
    rw[if_pos Z] at u;refine q0j (q03 (q1r G (q03 (q0b ?_))));exact MN ⟨_,_,_,_,G,H,u⟩
   rw[if_neg Z] at u;refine SK (TN (SQ ?_));obtain⟨bg,ao,u⟩:=bnd u;obtain⟨bx,ap,u⟩:=bnd u;refine RG (MV G G (MV G G (MV G G (ST (q1y Tu9 G G ao) G (q0O (enc:=encS) xty77 ([bg]:List Ls) H G Kf (fun _=>G) G G (q00 G) G ?_)))));intro bz M w H J b4;refine q0H (l:=a5) xty77 G (fun _=>G) H G (fun _=>by repeat first|exact .head|apply Upd.tail) G (b4) ap (q00 G) G ?_;intro c0 w H;refine AS G G (NL (TN ?_));obtain⟨c1,aq,u⟩:=bnd u;refine RG (MV G G (MV G G (ST (q1f Tu9 G G aq) G (AS G G (AS G G (NL (IB ?_)))))));exact AG ac ⟨_,_,_,_,_,G,H,u⟩ (l06 _)
  rw[if_neg Y] at u;refine q0j (q03 (q03 (q0b ?_)));exact MN ⟨_,_,_,_,G,H,u⟩
 rintro e w ⟨a2,a3,a9,M,rfl,H,bh⟩;obtain rfl:=oI bh;try dsimp only at h
 refine TN (SQ ?_);obtain⟨U,ar,h⟩:=bnd h;refine RG (MV G G (MV G G (q0O (enc:=encS) xty77 ([a2]:List Ls) H G Kf (fun _=>G) G G (q00 G) G ?_)));intro c2 M w H J b5;refine q0H (l:=a3) xty77 G (fun _=>G) H G (fun _=>by repeat first|exact .head|apply Upd.tail) G (b5) ar (q00 G) G ?_;intro V w H;refine AS G G (NL (TN (SQ (SQ (RG (MV G G (ST (q1w (l:=U) Tu77 H Km G) G ?_)))))));refine MV G G (NL (TN ?_));obtain⟨ax,E,h⟩:=bnd h;refine q0c (fun e w =>∃(ad:Int) (ae:Int) (M:Mem),e=[(5,ptr N 0),(8,V)]/\St w0 M0 M [.blk N (.cells #[I ad,I ae] 28),RowI 9 encS V U] w/\some (.inl (ad,ae))=some ax) [] ?_ ?_ (trivial)
 .
  refine BL (q0l (fun m e w =>∃(ah:Int) (ai:Int) (a6:Int) (M:Mem),e=[(5,ptr N 0),(8,V),(55,V),(56,I (U.length:Int)),(57,I a6)]/\St w0 M0 M [.blk N (.cells #[I ah,I ai] 28),RowI 9 encS V U] w/\Y2z U m ah ai a6=some ax) FU [(5,_),(8,_),(55,_),(56,_),(57,_)] ⟨rfl,rfl,rfl,rfl,rfl,trivial⟩ ⟨_,_,_,_,rfl,H,E⟩ ?_);rintro aj e w ⟨ah,ai,a6,M,rfl,H,E⟩;rcases aj with _|aj
  . rw[Y2z] at E;cases E
  rw[Y2z] at E;refine SQ (RG (ST (q0m G G) G (NL (TN (SQ ?_)))));refine CB (p:=a6<(U.length:Int)) G (fun a0=>?_) fun a0=>?_
  .
   rw[if_pos a0] at E;refine SK (TN (SQ (BL (SQ ?_))));obtain⟨bi,a7,E⟩:=bnd E;refine RG (MV G G (WR.idxRowC (l:=U) H Tu77 Ts9 Km G G a7 (q00 G) G ?_));intro c3 b6;refine ST (Ex.loadRowC H G b6 Km a7 Ta9) G ?_;refine AS G G (AS G G (NL (TN (SQ (RG (MV G G (ST (q0g Tu9 G) G (ST (q0C G G) G (NL (TN ?_))))))))));refine CB (p:=(998:Int)<(bi.length:Int)) G (fun a1=>?_) fun a1=>?_
   .
    rw[if_pos a1] at E;refine SQ ?_;obtain⟨⟨c4,c5⟩,b7,E⟩:=bnd E;try dsimp only at E
    refine RG (MV G G (q02 H (Y02 b7) G trivial (q00 G) G ?_));intro c6 M w H J hR;try dsimp only at hR
    obtain rfl:=hR;refine AS G G (q04 [_,_] H G G G Ku Ts28 G Kf Kf (q00 G) ?_);intro w H;refine NL (TN (RT ?_));obtain rfl:=oI E;try dsimp only at h
    obtain rfl:=oI h;exact q0t G G ⟨_,G,H.loadAgg Km Ta28 Ts28 Kf⟩ H.ext (⟨_,G,q0U _ _⟩)
   rw[if_neg a1] at E;refine SK (IB (TN ?_));obtain⟨c7,au,E⟩:=bnd E;refine RG (ST (q0e G G au) G (MV G G (NL ?_)));exact AG aj ⟨_,_,_,_,G,H,E⟩ (l06 _)
  rw[if_neg a0] at E;refine q0j (q03 (q03 (q0b ?_)));exact MN ⟨_,_,_,G,H,E⟩
 rintro e w ⟨ad,ae,M,rfl,H,bj⟩;obtain rfl:=oI bj;try dsimp only at h
 refine TN (SQ ?_);obtain⟨⟨c8,c9⟩,b8,h⟩:=bnd h;try dsimp only at h
 refine RG (MV G G (q02 H (Y07 b8) G trivial (q00 G) G ?_));intro ca M w H J hR;try dsimp only at hR
 obtain rfl:=hR;refine AS G G (q04 [_,_] H G G G Ku Ts28 G Kf Kf (q00 G) ?_);intro w H;refine NL (TN (RT ?_));obtain⟨M,J,b9,H⟩:=H.freezeRow (v:=V) (enc:=encS) (t:=9) Kv;obtain rfl:=oI h;exact q0t G G ⟨_,G,H.loadAgg Km Ta28 Ts28 Kf⟩ H.ext (⟨_,G,b9⟩)
theorem Y4o {p0:List (Ls × Ls)}{U:Value}{r:(Int × Int)}(h:Y2r p0=some r):Ct Tryz.prog 36 [U] (fun M=>SlS M 2 xenc46 U p0) (fun v M=>v=Value.agg #[I r.1,I r.2]):=by
 refine Ct.of Tryz.func36 (enters Tryz.func36 Kr G) G G G ?_;intro w0 M0 H hp;have E:=hp;unfold Y2r at h;refine SQ (RG (q09 [_,_] H Tz28 G (q00 G) G ?_));intro K w H;refine NL (TN (SQ (SQ (RG (MV G G (ST (q0N Tu22 E G) G (ST (q0C G G) G (NL (TN ?_)))))))));refine CB (p:=(60:Int)<(p0.length:Int)) G (fun Z=>?_) fun Z=>?_
 .
  rw[if_pos Z] at h;refine SQ ?_;obtain⟨⟨n2,n3⟩,ad,h⟩:=bnd h;try dsimp only at h
  refine RG (q02 H (Y02 ad) G trivial (q00 G) G ?_);intro al M w H J hR;try dsimp only at hR
  obtain rfl:=hR;refine q04 [_,_] H G G G Ku Ts28 G Kf Kf (q00 G) ?_;intro w H;refine NL (TN (RT ?_));obtain rfl:=oI h;exact q07 G ⟨_,G,H.loadAgg Km Ta28 Ts28 Kf⟩ H.ext G
 rw[if_neg Z] at h;refine SK (TN (SQ (SQ (RG (MV G G (ST (q0N Tu22 E G) G (MV G G (NL (TN ?_)))))))));obtain⟨o5,u,h⟩:=bnd h;refine q0c (fun e w =>∃(n7:Int) (n8:Int) (M:Mem),e=[(2,ptr K 0)]/\St w0 M0 M [.blk K (.cells #[I n7,I n8] 28)] w/\some (.inl (n7,n8))=some o5) [] ?_ ?_ (trivial)
 .
  refine BL (q0l (fun m e w =>∃(n9:Int) (V:Int) (Y:Int) (M:Mem),e=[(2,ptr K 0),(11,U),(12,I (p0.length:Int)),(13,I Y)]/\St w0 M0 M [.blk K (.cells #[I n9,I V] 28)] w/\SlS M 2 xenc46 U p0/\Y0F p0 m n9 V Y=some o5) FU [(2,_),(11,_),(12,_),(13,_)] ⟨rfl,rfl,rfl,rfl,trivial⟩ ⟨_,_,_,_,rfl,H,E,u⟩ ?_);rintro a0 e w ⟨n9,V,Y,M,rfl,H,E,u⟩;rcases a0 with _|a0
  . rw[Y0F] at u;cases u
  rw[Y0F] at u;refine SQ (RG (ST (q0m G G) G (NL (TN (SQ ?_)))));refine CB (p:=Y<(p0.length:Int)) G (fun N=>?_) fun N=>?_
  .
   rw[if_pos N] at u;refine SK (TN (SQ (BL (SQ ?_))));obtain⟨am,a2,u⟩:=bnd u;obtain⟨ak,an,a6,a7⟩:=E.atC a2;refine RG (MV G G (ST (q0s a6 Tu22 Ts46 G G) G (ST (q0G H G a7 Ta46 Ts46 Kf) G ?_)));refine q09 [_,_] H Tz46 G (q00 G) G ?_;intro ao w H;refine AS G G (q04 [_,_] H G G G Ku Ts46 G Kf Kf (q00 G) ?_);intro w H;refine NL (TN (SQ ?_));obtain⟨⟨ap,⟨aq,ar⟩⟩,a8,u⟩:=bnd u;try dsimp only at u
   refine RG (ST (q01 Tu46 G Ts9 Dc G) G (ST (XL H Ta9) G ?_));refine ST (q01 Tu46 G Ts9 Dc G) G (ST (XL H Ta9) G ?_);refine q02 H (Y4n a8) G trivial (q00 G) G ?_;intro au M w H J hR;replace E:=E.mono J;try dsimp only at hR
   obtain⟨ai,rfl,aj⟩:=hR;refine MV G G (ST (q05 G G) G (ST (q05 G G) G (q09 [_,_] H Tz28 G (q00 G) G ?_)));intro av w H;refine AS G G (q04 [_,_] H G G G Ku Ts28 G Kf Kf (q00 G) ?_);intro w H;refine NL (TN (SQ ?_));obtain⟨aw,a9,u⟩:=bnd u;refine RG (ST (q08 H G Km Ta28 Ts28 Kf) G ?_);refine q02 H (Y06 a9) G trivial (q00 G) G ?_;intro ax M w H J hR;replace E:=E.mono J;obtain rfl:=hR;refine NL (TN ?_);refine q0a G (fun O=>?_) (fun O=>?_)
   .
    subst O;rw[if_pos rfl] at u;refine SQ ?_;obtain⟨⟨ay,az⟩,aa,u⟩:=bnd u;try dsimp only at u
    refine RG (ST (q01 Tu28 G Ts3 Dc G) G (ST (XL H Ta3) G ?_));refine MV G G (q02 H (Y02 aa) G trivial (q00 G) G ?_);intro b0 M w H J hR;try dsimp only at hR
    obtain rfl:=hR;refine q04 [_,_] H G G G Ku Ts28 G Kf Kf (q00 G) ?_;intro w H;refine NL (TN (RT ?_));obtain rfl:=oI u;try dsimp only at h
    obtain rfl:=oI h;exact q07 G ⟨_,G,H.loadAgg Km Ta28 Ts28 Kf⟩ H.ext G
   subst O;rw[if_neg l00] at u;refine SK (IB (TN ?_));obtain⟨b1,a3,u⟩:=bnd u;refine RG (ST (q0e G G a3) G (MV G G (NL ?_)));exact AG a0 ⟨_,_,_,_,G,(H.pick (L':=[.blk K (.cells #[I n9,I V] 28)]) Kp),E,u⟩ (l06 _)
  rw[if_neg N] at u;refine q0j (q03 (q03 (q0b ?_)));exact MN ⟨_,_,_,G,H,u⟩
 rintro e w ⟨n7,n8,M,rfl,H,ah⟩;obtain rfl:=oI ah;try dsimp only at h
 refine TN (SQ ?_);obtain⟨⟨b2,b3⟩,ab,h⟩:=bnd h;try dsimp only at h
 refine RG (q02 H (Y07 ab) G trivial (q00 G) G ?_);intro b4 M w H J hR;try dsimp only at hR
 obtain rfl:=hR;refine q04 [_,_] H G G G Ku Ts28 G Kf Kf (q00 G) ?_;intro w H;refine NL (TN (RT ?_));obtain rfl:=oI h;exact q07 G ⟨_,G,H.loadAgg Km Ta28 Ts28 Kf⟩ H.ext G
theorem Y4O {p0:(List (Ls × Ls) × Ls)}{J:Value}{K:Value}{r:Ls}(h:Y1P p0=some r):Ct Tryz.prog 17 [Value.agg #[J,K]] (fun M=>SlS M 2 xenc46 J p0.1/\Sl M encB K p0.2) (fun v M=>Sl M encB v r):=by
 refine Ct.of Tryz.func17 (enters Tryz.func17 Kr G) G G G ?_;intro w0 M0 H hp;obtain⟨E,u⟩:=hp;unfold Y1P at h;refine SQ (RG (q0F [_,_] H G G (q00 G) G ?_));intro Y w H;refine AS G G (NL (TN (SQ (RG (AS G G (NL (TN (SQ (SQ (RG (ST (q01 Tu25 G Ts22 Dc G) G (ST (XL H Ta22) G ?_))))))))))));refine ST (q0N Tu22 E G) G (MV G G (NL (TN ?_)));obtain⟨o1,U,h⟩:=bnd h;refine q0c (fun e w =>∃(l4:Ls) (v5:Value) (M:Mem),e=[(1,ptr Y 0),(3,v5)]/\St w0 M0 M [.blk Y (.cells #[J,K] 25),RowI 5 encB v5 l4] w/\SlS M 2 xenc46 J p0.1/\Sl M encB K p0.2/\some l4=some o1) [] ?_ ?_ (trivial)
 .
  refine BL ?_;replace H:=H.newRow 5 encB;refine q0l (fun m e w =>∃(l7:Ls) (v8:Value) (n9:Int) (M:Mem),e=[(1,ptr Y 0),(3,v8),(11,J),(12,I (p0.1.length:Int)),(13,I n9)]/\St w0 M0 M [.blk Y (.cells #[J,K] 25),RowI 5 encB v8 l7] w/\SlS M 2 xenc46 J p0.1/\Sl M encB K p0.2/\Y16 p0 m l7 n9=some o1) FU [(1,_),(3,_),(11,_),(12,_),(13,_)] ⟨rfl,rfl,rfl,rfl,rfl,trivial⟩ ⟨_,_,_,_,rfl,(H.pick (L':=[.blk Y (.cells #[J,K] 25),RowI 5 encB (Value.slice none 0 0) []]) Kp),E,u,U⟩ ?_;rintro ae e w ⟨l7,v8,n9,M,rfl,H,E,u,U⟩;rcases ae with _|ae
  . rw[Y16] at U;cases U
  rw[Y16] at U;refine SQ (RG (ST (q0m G G) G (NL (TN (SQ ?_)))));refine CB (p:=n9<(p0.1.length:Int)) G (fun a3=>?_) fun a3=>?_
  .
   rw[if_pos a3] at U;refine SK (TN (SQ (BL (SQ ?_))));obtain⟨bd,ao,U⟩:=bnd U;obtain⟨bb,be,az,b0⟩:=E.atC ao;refine RG (ST (q0s az Tu22 Ts46 G G) G (ST (q0G H G b0 Ta46 Ts46 Kf) G ?_));refine q09 [_,_] H Tz46 G (q00 G) G ?_;intro bg w H;refine q04 [_,_] H G G G Ku Ts46 G Kf Kf (q00 G) ?_;intro w H;refine NL (TN (SQ ?_));obtain⟨⟨a5,⟨bh,bi⟩⟩,b1,U⟩:=bnd U;try dsimp only at U
   refine RG (ST (q01 Tu46 G Ts9 Dc G) G (ST (XL H Ta9) G ?_));refine ST (q01 Tu46 G Ts9 Dc G) G (ST (XL H Ta9) G ?_);refine q02 H (Y4n b1) G trivial (q00 G) G ?_;intro bj M w H V hR;replace E:=E.mono V;replace u:=u.mono V;try dsimp only at hR
   obtain⟨a6,rfl,O⟩:=hR;refine MV G G (ST (q05 G G) G (ST (q05 G G) G (q09 [_,_] H Tz28 G (q00 G) G ?_)));intro bm w H;refine AS G G (q04 [_,_] H G G G Ku Ts28 G Kf Kf (q00 G) ?_);intro w H;refine NL (TN (SQ (RG (MV G G (ST (q0o Tu77 O G) G (MV G G (NL (TN ?_))))))));obtain⟨aw,N,U⟩:=bnd U;refine q0c (fun e w =>∃(ah:Ls) (ai:Value) (M:Mem),e=[(1,ptr Y 0),(3,ai),(11,J),(12,I (p0.1.length:Int)),(13,I n9)]/\St w0 M0 M [.blk Y (.cells #[J,K] 25),RowI 5 encB ai ah] w/\SlS M 2 xenc46 J p0.1/\Sl M encB K p0.2/\some ah=some aw) [] ?_ ?_ (trivial)
   .
    refine BL ?_;refine q0l (fun m e w =>∃(a7:Ls) (aj:Value) (a8:Int) (M:Mem),e=[(1,ptr Y 0),(3,aj),(11,J),(12,I (p0.1.length:Int)),(13,I n9),(25,a6),(26,I (a5.length:Int)),(27,I a8)]/\St w0 M0 M [.blk Y (.cells #[J,K] 25),RowI 5 encB aj a7] w/\SlS M 2 xenc46 J p0.1/\Sl M encB K p0.2/\Sl M encS a6 a5/\Y15 a5 m a7 a8=some aw) FU [(1,_),(3,_),(11,_),(12,_),(13,_),(25,_),(26,_),(27,_)] ⟨rfl,rfl,rfl,rfl,rfl,rfl,rfl,rfl,trivial⟩ ⟨_,_,_,_,rfl,(H.pick (L':=[.blk Y (.cells #[J,K] 25),RowI 5 encB v8 l7]) Kp),E,u,O,N⟩ ?_;rintro ak e w ⟨a7,aj,a8,M,rfl,H,E,u,O,N⟩;rcases ak with _|ak
    . rw[Y15] at N;cases N
    rw[Y15] at N;refine SQ (RG (ST (q0m G G) G (NL (TN (SQ ?_)))));refine CB (p:=a8<(a5.length:Int)) G (fun a4=>?_) fun a4=>?_
    .
     rw[if_pos a4] at N;refine SK (TN (SQ (BL (SQ ?_))));obtain⟨bn,ap,N⟩:=bnd N;obtain⟨bc,bo,b2,b3⟩:=O.atC ap;refine RG (ST (q0s b2 Tu77 Ts9 G G) G (ST (q0n H G b3 Ta9) G (AS G G (NL (TN ?_)))));obtain⟨b7,aq,N⟩:=bnd N;obtain⟨bp,ar,N⟩:=bnd N;refine RG (MV G G (MV G G (q1D (l:=a7) xty23 Tu9 H G (fun _=>by repeat first|exact .head|apply Upd.tail) G aq (q00 G) G ?_)));intro bq w H;refine q0O (enc:=encB) xty23 ([13,10]:Ls) H G Kf (fun _=>G) G G (q00 G) G ?_;intro br M w H V b4;replace E:=E.mono V;replace O:=O.mono V;replace u:=u.mono V;refine q0H (l:=b7) xty23 G (fun _=>G) H G (fun _=>by repeat first|exact .head|apply Upd.tail) G (b4) ar (q00 G) G ?_;intro bs w H;refine AS G G (NL (IB (TN ?_)));obtain⟨bt,au,N⟩:=bnd N;refine RG (ST (q0e G G au) G (MV G G (NL ?_)));exact AG ak ⟨_,_,_,_,G,H,E,u,O,N⟩ (l06 _)
    rw[if_neg a4] at N;refine q0j (q03 (q03 (q0b ?_)));exact MN ⟨_,_,_,G,H,E,u,N⟩
   rintro e w ⟨ah,ai,M,rfl,H,E,u,b8⟩;obtain rfl:=oI b8;refine IB (TN ?_);obtain⟨bu,av,U⟩:=bnd U;refine RG (ST (q0e G G av) G (MV G G (NL ?_)));exact AG ae ⟨_,_,_,_,G,H,E,u,U⟩ (l06 _)
  rw[if_neg a3] at U;refine q0j (q03 (q03 (q0b ?_)));exact MN ⟨_,_,_,G,H,E,u,U⟩
 rintro e w ⟨l4,v5,M,rfl,H,E,u,b9⟩;obtain rfl:=oI b9;refine TN (SQ ?_);obtain⟨al,Z,h⟩:=bnd h;obtain⟨a9,a0,h⟩:=bnd h;refine q0V (fun e w =>∃(aa:Value) (M:Mem),e=[(2,aa)]/\St w0 M0 M [RowI 5 encB aa a9] w) ?_ ?_
 .
  refine q0x (m:=7) G G H ?_;intro w H;refine TK 0 G (fun _=>q06 G) G (TK 3 G (fun _=>q01 Tu25 G Ts23 Dc G) G ?_);refine q0E (i:=1) (j:=4) Kr G G ?_ ?_
  .
   refine q0O (enc:=encB) xty23 ([13,10]:Ls) H G Kf (fun _=>G) G G (q00 G) G ?_;intro ba M w H V a1;replace u:=u.mono V;refine NA ?_;refine q0E (i:=2) (j:=4) Kr G G ?_ ?_
   .
    refine q0H (l:=l4) xty23 G (fun _=>G) H G (fun _=>by repeat first|exact .head|apply Upd.tail) G (a1) Z (q00 G) G ?_;intro ax w H;refine NA (q0k (fuel:=0) [4,5,6] G Kr (ST (XL H Ta23) G ?_));refine q0H (l:=al) xty23 G (fun _=>G) H G (fun _=>by repeat first|exact .head|apply Upd.tail) G (u) a0 (q00 G) G ?_;intro a2 w H;refine AS G G (NA (q0f Kr ?_));exact MP ⟨_,_,G,(H.pick (L':=[RowI 5 encB a2 a9]) Kp)⟩
   refine ST (XL H Ta23) G ?_;refine NA (q0k (fuel:=0) [2,5,6] G Kr (q0H (l:=l4) xty23 G (fun _=>G) H G (fun _=>by repeat first|exact .head|apply Upd.tail) G (a1) Z (q00 G) G ?_));intro ax w H;refine q0H (l:=al) xty23 G (fun _=>G) H G (fun _=>by repeat first|exact .head|apply Upd.tail) G (u) a0 (q00 G) G ?_;intro a2 w H;refine AS G G (NA (q0f Kr ?_));exact MP ⟨_,_,G,(H.pick (L':=[RowI 5 encB a2 a9]) Kp)⟩
  refine ST (XL H Ta23) G ?_;refine NA (q0k (fuel:=0) [1,2,5,6] G Kr (q0O (enc:=encB) xty23 ([13,10]:Ls) H G Kf (fun _=>G) G G (q00 G) G ?_));intro ba M w H V a1;replace u:=u.mono V;refine q0H (l:=l4) xty23 G (fun _=>G) H G (fun _=>by repeat first|exact .head|apply Upd.tail) G (a1) Z (q00 G) G ?_;intro ax w H;refine q0H (l:=al) xty23 G (fun _=>G) H G (fun _=>by repeat first|exact .head|apply Upd.tail) G (u) a0 (q00 G) G ?_;intro a2 w H;refine AS G G (NA (q0f Kr ?_));exact MP ⟨_,_,G,(H.pick (L':=[RowI 5 encB a2 a9]) Kp)⟩
 rintro e w ⟨aa,M,rfl,H⟩;refine TN (RT ?_);obtain⟨M,V,b5,H⟩:=H.freezeRow (v:=aa) (enc:=encB) (t:=5) Kv;obtain rfl:=oI h;exact q07 G G H.ext b5
theorem Y5C {p0:Ls}{K:Value}{r:Int}(h:Y2s p0=some r):Ct Tryz.prog 64 [K] (fun M=>Sl M encB K p0) (fun v M=>v=I r):=by
 refine Ct.of Tryz.func64 (enters Tryz.func64 Kr G) G G G ?_;intro w0 M0 H hp;have E:=hp;unfold Y2s at h;refine SQ (RG (AS G G (NL (TN (SQ (RG (AS G G (NL (TN (SQ (SQ (RG (AS G G (NL (TN ?_)))))))))))))));obtain⟨o1,u,h⟩:=bnd h;refine q0c (fun e w =>∃  (M:Mem),e=[]/\St w0 M0 M [] w/\some (.inl ())=some o1) [] ?_ ?_ (trivial)
 .
  refine BL (q0l (fun m e w =>∃(n3:Int) (n4:Int) (M:Mem),e=[(0,K),(3,I n3),(4,I n4)]/\St w0 M0 M [] w/\Sl M encB K p0/\Y0c p0 m n3 n4=some o1) FU [(0,_),(3,_),(4,_)] ⟨rfl,rfl,rfl,trivial⟩ ⟨_,_,_,rfl,H,E,u⟩ ?_);rintro m5 e w ⟨n3,n4,M,rfl,H,E,u⟩;rcases m5 with _|m5
  . rw[Y0c] at u;cases u
  rw[Y0c] at u;refine SQ (SQ (RG (MV G G (MV G G (ST (q0o Tu23 E G) G (ST (q0m G G) G (NL (TN ?_))))))));refine CB (p:=n4<(p0.length:Int)) G (fun a4=>?_) fun a4=>?_
  .
   rw[if_pos a4] at u;refine SK (TN (SQ (BL (SQ ?_))));obtain⟨V,ai,u⟩:=bnd u;obtain⟨ax,b0,aj,ak⟩:=E.atC ai;refine RG (MV G G (MV G G (ST (q0s aj Tu23 Ts5 G G) G (ST (q0n H G ak Ta5) G (AS G G (NL (TN (SQ (SQ ?_)))))))));obtain⟨o8,J,u⟩:=bnd u;refine q0c (fun e w =>∃(a5:Bool) (M:Mem),e=[(0,K),(3,I n3),(4,I n4),(5,encB V),(32,Value.bool a5)]/\St w0 M0 M [] w/\Sl M encB K p0/\some a5=some o8) [] ?_ ?_ (trivial)
   .
    by_cases N:V=13
    .
     rw[if_pos N] at J;obtain⟨ao,a9,J⟩:=bnd J;refine RG (MV G G (DT N (q0L (c:=V) (d:=13) G G) G (MV G G (SG (q06 G) G G G (SG (q0e G G a9) G G G (SG (q06 G) G G G (SG (q0o Tu23 E G) G G G ?_)))))));by_cases O:ao<(p0.length:Int)
     .
      rw[if_pos O] at J;obtain⟨b1,aa,J⟩:=bnd J;obtain⟨ap,ab,J⟩:=bnd J;obtain⟨az,b2,al,am⟩:=E.atC ab;refine DU O (q0m G G) G G G (PT G G G (MV G G (SG (q06 G) G G G (SG (q06 G) G G G (SG (q0e G G aa) G G G (SG (q0s al Tu23 Ts5 G G) G G G (SG (q0n H G am Ta5) G G G (SG (q0L (c:=ap) (d:=10) G G) G G G (PT G G G (NL ?_))))))))));exact MN ⟨_,_,G,H,E,J⟩
     rw[if_neg O] at J;refine DG O (q0m G G) G G G (PT G G G (MV G G (q0i 6 G G (PF G G G (NL ?_)))));exact MN ⟨_,_,G,H,E,J⟩
    rw[if_neg N] at J;refine RG (MV G G (DF N (q0L (c:=V) (d:=13) G G) G (MV G G (q0i 5 G G (PF G G G (MV G G (q0i 6 G G (PF G G G (NL ?_)))))))));exact MN ⟨_,_,G,H,E,J⟩
   rintro e w ⟨a5,M,rfl,H,E,aq⟩;obtain rfl:=oI aq;refine TN ?_;refine q0a G (fun Y=>?_) (fun Y=>?_)
   .
    subst Y;rw[if_pos rfl] at u;refine SQ (RG (AS G G (NL (TN (SQ ?_)))));obtain⟨b3,ac,u⟩:=bnd u;refine RG (MV G G (ST (q0e G G ac) G (AS G G (NL (TN (q0j (q03 (q0b (TN ?_)))))))));obtain⟨b4,ad,u⟩:=bnd u;refine RG (MV G G (ST (q0e G G ad) G (AS G G (NL ?_))));exact AG m5 ⟨_,_,_,G,H,E,u⟩ (l06 _)
   subst Y;rw[if_neg l00] at u;refine SK (TN (SQ (SQ ?_)));obtain⟨ar,a1,u⟩:=bnd u;refine q0c (fun e w =>∃(a6:Bool) (M:Mem),e=[(0,K),(3,I n3),(4,I n4),(40,Value.bool a6)]/\St w0 M0 M [] w/\Sl M encB K p0/\some a6=some ar) [] ?_ ?_ (trivial)
   .
    by_cases U:V=13
    .
     rw[if_pos U] at a1;refine RG (MV G G (DT U (q0L (c:=V) (d:=13) G G) G (MV G G (GT G G G (GT G G G (PT G G G (NL ?_)))))));exact MN ⟨_,_,G,H,E,a1⟩
    rw[if_neg U] at a1;refine RG (MV G G (DF U (q0L (c:=V) (d:=13) G G) G (MV G G (SG (q06 G) G G G (SG (q0L (c:=V) (d:=10) G G) G G G (PF G G G (NL ?_)))))));exact MN ⟨_,_,G,H,E,a1⟩
   rintro e w ⟨a6,M,rfl,H,E,au⟩;obtain rfl:=oI au;refine TN ?_;refine q0a G (fun Z=>?_) (fun Z=>?_)
   .
    subst Z;rw[if_pos rfl] at u;refine SQ (RG (AS G G (NL (TN (RT ?_)))));obtain rfl:=oI u;try dsimp only at h
    obtain rfl:=oI h;exact q07 G G H.ext G
   subst Z;rw[if_neg l00] at u;refine SK (TN (SQ ?_));obtain⟨av,ae,u⟩:=bnd u;refine RG (MV G G (ST (q0e G G ae) G (AS G G (NL (TN (SQ (RG (MV G G (ST (q0C G G) G (NL (TN ?_)))))))))));refine CB (p:=(998:Int)<av) G (fun a0=>?_) fun a0=>?_
   .
    rw[if_pos a0] at u;refine SQ (RG (AS G G (NL (TN (RT ?_)))));obtain rfl:=oI u;try dsimp only at h
    obtain rfl:=oI h;exact q07 G G H.ext G
   rw[if_neg a0] at u;refine SK (IB (TN ?_));obtain⟨b5,ah,u⟩:=bnd u;refine RG (MV G G (ST (q0e G G ah) G (AS G G (NL ?_))));exact AG m5 ⟨_,_,_,G,H,E,u⟩ (l06 _)
  rw[if_neg a4] at u;refine q0j (q03 (q03 (q0b ?_)));exact MN ⟨_,G,H,u⟩
 rintro e w ⟨M,rfl,H,aw⟩;obtain rfl:=oI aw;try dsimp only at h
 refine TN (SQ (RG (AS G G (NL (TN (RT ?_))))));obtain rfl:=oI h;exact q07 G G H.ext G
theorem Y61 {p0:Ls}{K:Value}{r:(Int × Int)}(h:Y2T p0=some r):Ct Tryz.prog 37 [K] (fun M=>Sl M encB K p0) (fun v M=>v=Value.agg #[I r.1,I r.2]):=by
 refine Ct.of Tryz.func37 (enters Tryz.func37 Kr G) G G G ?_;intro w0 M0 H hp;have U:=hp;unfold Y2T at h;refine SQ (RG (q09 [_,_] H Tz28 G (q00 G) G ?_));intro a0 w H;refine NL (TN (SQ (SQ ?_)));obtain⟨V,Y,h⟩:=bnd h;refine RG (MV G G (q02 H (Y5C Y) G (U) (q00 G) G ?_));intro v4 M w H u hR;obtain rfl:=hR;refine NL (TN (BL (SQ (RG (ST (q0u G G) G (AS G G (NL (TN ?_))))))));refine CB (p:=V=(11:Int)) G (fun E=>?_) fun E=>?_
 .
  rw[if_pos E] at h;refine SQ ?_;obtain⟨⟨n4,n5⟩,Z,h⟩:=bnd h;try dsimp only at h
  refine RG (q02 H (Y02 Z) G trivial (q00 G) G ?_);intro v7 M w H u hR;try dsimp only at hR
  obtain rfl:=hR;refine q04 [_,_] H G G G Ku Ts28 G Kf Kf (q00 G) ?_;intro w H;refine NL (TN (RT ?_));obtain rfl:=oI h;exact q07 G ⟨_,G,H.loadAgg Km Ta28 Ts28 Kf⟩ H.ext G
 rw[if_neg E] at h;refine SQ (RG (ST (q0u G G) G (AS G G (NL (TN ?_)))));refine CB (p:=V=(1:Int)) G (fun J=>?_) fun J=>?_
 .
  rw[if_pos J] at h;refine SQ ?_;obtain⟨⟨n8,n9⟩,N,h⟩:=bnd h;try dsimp only at h
  refine RG (q02 H (Y02 N) G trivial (q00 G) G ?_);intro a1 M w H u hR;try dsimp only at hR
  obtain rfl:=hR;refine q04 [_,_] H G G G Ku Ts28 G Kf Kf (q00 G) ?_;intro w H;refine NL (TN (RT ?_));obtain rfl:=oI h;exact q07 G ⟨_,G,H.loadAgg Km Ta28 Ts28 Kf⟩ H.ext G
 rw[if_neg J] at h;refine SK (IB (TN (SQ ?_)));obtain⟨⟨a2,a3⟩,O,h⟩:=bnd h;try dsimp only at h
 refine RG (q02 H (Y07 O) G trivial (q00 G) G ?_);intro a4 M w H u hR;try dsimp only at hR
 obtain rfl:=hR;refine q04 [_,_] H G G G Ku Ts28 G Kf Kf (q00 G) ?_;intro w H;refine NL (TN (RT ?_));obtain rfl:=oI h;exact q07 G ⟨_,G,H.loadAgg Km Ta28 Ts28 Kf⟩ H.ext G
theorem Y2D {p0:(List (Ls × Ls) × Ls)}{K:Value}{N:Value}{r:(Int × Int)}(h:Y0A p0=some r):Ct Tryz.prog 15 [Value.agg #[K,N]] (fun M=>SlS M 2 xenc46 K p0.1/\Sl M encB N p0.2) (fun v M=>v=Value.agg #[I r.1,I r.2]):=by
 refine Ct.of Tryz.func15 (enters Tryz.func15 Kr G) G G G ?_;intro w0 M0 H hp;obtain⟨E,u⟩:=hp;unfold Y0A at h;refine SQ (RG (q0F [_,_] H G G (q00 G) G ?_));intro a4 w H;refine q09 [_,_] H Tz28 G (q00 G) G ?_;intro a5 w H;refine NL (TN (SQ (SQ ?_)));obtain⟨⟨n1,n2⟩,a0,h⟩:=bnd h;try dsimp only at h
 refine RG (ST (q01 Tu25 G Ts22 Dc G) G (ST (XL H Ta22) G ?_));refine q02 H (Y4o a0) G (E) (q00 G) G ?_;intro v6 M w H J hR;replace E:=E.mono J;replace u:=u.mono J;try dsimp only at hR
 obtain rfl:=hR;refine q09 [_,_] H Tz28 G (q00 G) G ?_;intro a6 w H;refine q04 [_,_] H G G G Ku Ts28 G Kf Kf (q00 G) ?_;intro w H;refine NL (TN (SQ ?_));obtain⟨b4,a1,h⟩:=bnd h;refine RG (ST (q08 H G Km Ta28 Ts28 Kf) G ?_);refine q02 H (Y06 a1) G trivial (q00 G) G ?_;intro v8 M w H J hR;replace E:=E.mono J;replace u:=u.mono J;obtain rfl:=hR;refine NL (TN ?_);refine q0a G (fun O=>?_) (fun O=>?_)
 .
  subst O;rw[if_pos rfl] at h;refine SQ (RG (ST (q08 H G Km Ta28 Ts28 Kf) G ?_));refine q04 [_,_] H G G G Ku Ts28 G Kf Kf (q00 G) ?_;intro w H;refine NL (TN (RT ?_));obtain rfl:=oI h;exact q07 G ⟨_,G,H.loadAgg Km Ta28 Ts28 Kf⟩ H.ext G
 subst O;rw[if_neg l00] at h;refine SK (TN (SQ (SQ ?_)));obtain⟨l7,a2,h⟩:=bnd h;refine RG (ST (q08 H G Km Ta25 Ts25 Kf) G ?_);refine q02 H (Y4O a2) G ⟨E,u⟩ (q00 G) G ?_;intro a7 M w H J hR;replace u:=u.mono J;have V:=hR;refine ST (q0o Tu23 V G) G (ST (q0C G G) G (NL (TN ?_)));refine CB (p:=(12000:Int)<(l7.length:Int)) G (fun U=>?_) fun U=>?_
 .
  rw[if_pos U] at h;refine SQ ?_;obtain⟨⟨a8,a9⟩,Y,h⟩:=bnd h;try dsimp only at h
  refine RG (q02 H (Y02 Y) G trivial (q00 G) G ?_);intro aa M w H J hR;try dsimp only at hR
  obtain rfl:=hR;refine q04 [_,_] H G G G Ku Ts28 G Kf Kf (q00 G) ?_;intro w H;refine NL (TN (RT ?_));obtain rfl:=oI h;exact q07 G ⟨_,G,H.loadAgg Km Ta28 Ts28 Kf⟩ H.ext G
 rw[if_neg U] at h;refine SK (TN (SQ ?_));obtain⟨⟨ab,ac⟩,Z,h⟩:=bnd h;try dsimp only at h
 refine RG (ST (q01 Tu25 G Ts23 Dc G) G (ST (XL H Ta23) G ?_));refine q02 H (Y61 Z) G (u) (q00 G) G ?_;intro ad M w H J hR;try dsimp only at hR
 obtain rfl:=hR;refine q04 [_,_] H G G G Ku Ts28 G Kf Kf (q00 G) ?_;intro w H;refine NL (TN (RT ?_));obtain rfl:=oI h;exact q07 G ⟨_,G,H.loadAgg Km Ta28 Ts28 Kf⟩ H.ext G
theorem Y4P {p0:(List (Ls × Ls) × Ls)}{N:Value}{O:Value}{r:(Ls × (Int × Int))}(h:Y32 p0=some r):Ct Tryz.prog 6 [Value.agg #[N,O]] (fun M=>SlS M 2 xenc46 N p0.1/\Sl M encB O p0.2) (fun v M =>∃Y,v=Value.tuple #[Y,Value.agg #[I r.2.1,I r.2.2]]/\Sl M encB Y r.1):=by
 refine Ct.of Tryz.func6 (enters Tryz.func6 Kr G) G G G ?_;intro w0 M0 H hp;obtain⟨u,E⟩:=hp;unfold Y32 at h;refine SQ (RG (q0F [_,_] H G G (q00 G) G ?_));intro a2 w H;refine AS G G (q09 [_,_] H Tz28 G (q00 G) G ?_);intro a3 w H;refine NL (TN (SQ (SQ ?_)));obtain⟨⟨n1,n2⟩,Z,h⟩:=bnd h;try dsimp only at h
 refine RG (ST (q08 H G Km Ta25 Ts25 Kf) G ?_);refine q02 H (Y2D Z) G ⟨u,E⟩ (q00 G) G ?_;intro v6 M w H J hR;replace u:=u.mono J;replace E:=E.mono J;try dsimp only at hR
 obtain rfl:=hR;refine q09 [_,_] H Tz28 G (q00 G) G ?_;intro a4 w H;refine q04 [_,_] H G G G Ku Ts28 G Kf Kf (q00 G) ?_;intro w H;refine NL (TN (SQ ?_));obtain⟨b4,a0,h⟩:=bnd h;refine RG (ST (q08 H G Km Ta28 Ts28 Kf) G ?_);refine q02 H (Y06 a0) G trivial (q00 G) G ?_;intro v8 M w H J hR;replace u:=u.mono J;replace E:=E.mono J;obtain rfl:=hR;refine NL (TN ?_);refine q0a G (fun U=>?_) (fun U=>?_)
 .
  subst U;rw[if_pos rfl] at h;refine SQ (q0x (m:=3) G G H ?_);intro w H;refine TK 1 G (fun _=>q1u G) G (q0k (fuel:=0) [0,2] G Kr (ST (q08 H G Km Ta28 Ts28 Kf) G ?_));refine q04 [_,_] H G G G Ku Ts28 G Kf Kf (q00 G) ?_;intro w H;refine NA (q0f Kr (TN (RT ?_)));obtain rfl:=oI h;exact q0t G G ⟨_,G,H.loadAgg Km Ta28 Ts28 Kf⟩ H.ext (⟨_,G,q0U _ _⟩)
 subst U;rw[if_neg l00] at h;refine SK (TN (SQ ?_));obtain⟨l7,a1,h⟩:=bnd h;obtain⟨⟨n9,a5⟩,V,h⟩:=bnd h;try dsimp only at h
 refine RG (ST (q08 H G Km Ta25 Ts25 Kf) G ?_);refine q02 H (Y4O a1) G ⟨u,E⟩ (q00 G) G ?_;intro a6 M w H J hR;have K:=hR;refine q02 H (Y07 V) G trivial (q00 G) G ?_;intro a7 M w H J hR;replace K:=K.mono J;try dsimp only at hR
 obtain rfl:=hR;refine AS G G (q04 [_,_] H G G G Ku Ts28 G Kf Kf (q00 G) ?_);intro w H;refine NL (TN (RT ?_));obtain rfl:=oI h;exact q0t G G ⟨_,G,H.loadAgg Km Ta28 Ts28 Kf⟩ H.ext (⟨_,G,K⟩)
theorem Y6d {p0:Ls}{O:Value}{r:(Ls × Int)}(h:Y45 p0=some r):Ct Tryz.prog 39 [O] (fun M=>Sl M encB O p0) (fun v M=>v=Value.tuple #[S r.1,I r.2]):=by
 refine Ct.of Tryz.func39 (enters Tryz.func39 Kr G) G G G ?_;intro w0 M0 H hp;have u:=hp;unfold Y45 at h;refine SQ (RG (AS G G (AS G G (NL (TN (SQ ?_))))));obtain⟨n1,Y,h⟩:=bnd h;refine RG (MV G G (q02 H (Y3B Y) G (u) (q00 G) G ?_));intro v6 M w H E hR;replace u:=u.mono E;obtain rfl:=hR;refine AS G G (NL (TN (SQ (SQ (RG (MV G G (ST (q0m G G) G (NL (TN ?_)))))))));refine CB (p:=n1<(0:Int)) G (fun J=>?_) fun J=>?_
 .
  rw[if_pos J] at h;refine SQ (RG (MV G G (ST (q0Y Tu23 Tu5 Tu9 H (u) G) G (MV G G (ST (q0o Tu23 u G) G (AS G G (AS G G (NL (TN (RT ?_))))))))));obtain rfl:=oI h;exact q0t G G G H.ext G
 rw[if_neg J] at h;refine SK (TN (SQ ?_));obtain⟨l4,K,h⟩:=bnd h;obtain⟨l5,Z,h⟩:=bnd h;obtain⟨n7,U,h⟩:=bnd h;refine RG (MV G G (MV G G (ST (q1K Tu23 Ts5 (u) G G K) G (WR.litC xty23 Tu5 ([13]:Ls) H G Kf G G (q00 G) G (fun _=>q00 G) G ?_))));intro a1 M w H E V;replace u:=u.mono E;refine q02 H (Y3o Z) G ⟨(u.subV K),V⟩ (q00 G) G ?_;intro a2 M w H E hR;have N:=hR;refine ST (q0Y Tu23 Tu5 Tu9 H (N) G) G (MV G G (ST (q0e G G U) G (AS G G (AS G G (NL (TN (RT ?_)))))));obtain rfl:=oI h;exact q0t G G G H.ext G
theorem Y5D {p0:Ls}{N:Ls}{r:(Ls × Ls × Bool)}(h:Y22 p0 N=some r):Ct Tryz.prog 110 [S p0,S N] (fun M=>GlF (fun w =>∃m,w.cell? ⟨0,0,none⟩=some (.int .i64 m)) M) (fun v M=>v=Value.tuple #[S r.1,S r.2.1,Value.bool r.2.2]):=by
 refine Ct.of Tf110 (enters Tf110 Kr G) G G G ?_;intro w0 M0 H hp;have U:=hp;unfold Y22 at h;refine SQ (RG (AS G G (AS G G (AS G G (NL (TN (SQ (SQ ?_))))))));obtain⟨V,O,h⟩:=bnd h;refine RG (MV G G (MV G G (q02 H (Y5c O) G (U) (q00 G) G ?_)));intro Y M w H Z hR;obtain rfl:=hR;refine AS G G (NL (TN (SQ (RG (MV G G (ST (q0R G G) G (NL (TN ?_))))))));refine CB (p:=(0:Int)<=V) G (fun u=>?_) fun u=>?_
 .
  rw[if_pos u] at h;refine SQ ?_;obtain⟨s4,E,h⟩:=bnd h;obtain⟨n5,J,h⟩:=bnd h;obtain⟨s6,K,h⟩:=bnd h;refine q0x (m:=12) G G H ?_;intro w H;refine TK 0 G (fun _=>q06 G) G (TK 1 G (fun _=>q06 G) G (TK 2 G (fun _=>q1y Tu9 G G E) G (TK 3 G (fun _=>q06 G) G (TK 4 G (fun _=>q06 G) G (TK 5 G (fun _=>q06 G) G (TK 6 G (fun _=>q0g Tu9 G) G ?_))))));refine TK 7 G (fun _=>q0e G G J) G (TK 8 G (fun _=>q1f Tu9 G G K) G (q0k (fuel:=0) [9,10,11] G Kr (AS G G (AS G G (AS G G (NA (q0f Kr (TN (RT ?_)))))))));obtain rfl:=oI h;exact WQ.ret3 G G G G H.ext G
 rw[if_neg u] at h;refine SK (TN (SQ (RG (MV G G (AS G G (AS G G (AS G G (NL (TN (RT ?_))))))))));obtain rfl:=oI h;exact WQ.ret3 G G G G H.ext G
theorem Y5n {p0:Ls}{u:Ls}{r:(Ls × Ls × Bool)}(h:Y2h p0 u=some r):Ct Tryz.prog 70 [S p0,S u] (fun M=>GlF (fun w =>∃m,w.cell? ⟨0,0,none⟩=some (.int .i64 m)) M) (fun v M=>v=Value.tuple #[S r.1,S r.2.1,Value.bool r.2.2]):=by
 refine Ct.of Tryz.func70 (enters Tryz.func70 Kr G) G G G ?_;intro N M0 H hp;have J:=hp;unfold Y2h at h;refine SQ (RG (AS G G (AS G G (AS G G (NL (TN (SQ ?_)))))));obtain⟨⟨O,U,V⟩,E,h⟩:=bnd h;try dsimp only at h
 refine RG (MV G G (MV G G (q02 H (Y5D E) G (J) (q00 G) G ?_)));intro Y M w H K hR;try dsimp only at hR
 obtain rfl:=hR;refine ST (q05 G G) G (ST (q05 G G) G (ST (q05 G G) G (AS G G (AS G G (AS G G (NL (TN (RT ?_))))))));obtain rfl:=oI h;exact WQ.ret3 G G G G H.ext G
theorem Y3r {p0:Ls}{N:UInt8}{r:Ls}(h:Y1c p0 N=some r):Ct Tryz.prog 74 [S p0,encB N] (fun M=>True) (fun v M=>v=S r):=by
 refine Ct.of Tf74 (enters Tf74 Kr G) G G G ?_;intro w0 M0 H hp;unfold Y1c at h;refine SQ (RG (AS G G (NL (TN (SQ ?_)))));obtain⟨o1,u,h⟩:=bnd h;refine q0c (fun e w =>∃(s3:Ls) (M:Mem),e=[(0,S s3)]/\St w0 M0 M [] w/\some s3=some o1) [] ?_ ?_ (trivial)
 .
  refine BL (q0l (fun m e w =>∃(O:Ls) (M:Mem),e=[(0,S O),(1,encB N)]/\St w0 M0 M [] w/\Y1b N m O=some o1) FU [(0,_),(1,_)] ⟨rfl,rfl,trivial⟩ ⟨_,_,rfl,H,u⟩ ?_);rintro m5 e w ⟨O,M,rfl,H,u⟩;rcases m5 with _|m5
  . rw[Y1b] at u;cases u
  rw[Y1b] at u;refine SQ (SQ ?_);obtain⟨o6,E,u⟩:=bnd u;refine q0c (fun e w =>∃(b8:Bool) (M:Mem),e=[(0,S O),(1,encB N),(16,Value.bool b8)]/\St w0 M0 M [] w/\some b8=some o6) [] ?_ ?_ (trivial)
  .
   refine RG (MV G G (ST (q0g Tu9 G) G ?_));by_cases K:(0:Int)<(O.length:Int)
   .
    rw[if_pos K] at E;obtain⟨a9,U,E⟩:=bnd E;obtain⟨a5,V,E⟩:=bnd E;refine DT K (q0C G G) G (MV G G (SG (q06 G) G G G (SG (q06 G) G G G (SG (q0g Tu9 G) G G G (SG (q0K G G U) G G G (SG (q0p Tu9 G G V) G G G (SG (q06 G) G G G (SG (q0L (c:=a5) (d:=N) G G) G G G (PT G G G (NL ?_))))))))));exact MN ⟨_,_,G,H,E⟩
   rw[if_neg K] at E;refine DF K (q0C G G) G (MV G G (q0i 7 G G (PF G G G (NL ?_))));exact MN ⟨_,_,G,H,E⟩
  rintro e w ⟨b8,M,rfl,H,a6⟩;obtain rfl:=oI a6;refine TN ?_;refine q0a G (fun J=>?_) (fun J=>?_)
  .
   subst J;rw[if_pos rfl] at u;refine SK (TN (BL ?_));obtain⟨aa,Y,u⟩:=bnd u;obtain⟨ab,Z,u⟩:=bnd u;refine RG (MV G G (MV G G (ST (q0g Tu9 G) G (ST (q0K G G Y) G (ST (q1y Tu9 G G Z) G (AS G G (NL (IB ?_))))))));exact AG m5 ⟨_,_,G,H,u⟩ (l06 _)
  subst J;rw[if_neg l00] at u;refine q0j (q03 (q03 (q0b ?_)));exact MN ⟨_,_,G,H,u⟩
 rintro e w ⟨s3,M,rfl,H,a7⟩;obtain rfl:=oI a7;refine TN (SQ (RG (MV G G (AS G G (NL (TN (RT ?_)))))));obtain rfl:=oI h;exact q07 G G H.ext G
theorem Y3d {p0:Ls}{O:List Bool}{K:Nat}{r:Ls}(h:Y0S p0 O=some r):Ct Tryz.prog 77 [S p0,ptr K 0] (fun M=>PtM M K (.cells (List.map encBo O).toArray 143)) (fun v M=>v=S r):=by
 refine Ct.of Tryz.func77 (enters Tryz.func77 Kr G) G G G ?_;intro w0 M0 H hp;have J:=hp;unfold Y0S at h;refine SQ (RG (AS G G (NL (TN (SQ ?_)))));obtain⟨o1,u,h⟩:=bnd h;refine q0c (fun e w =>∃(Z:Ls) (M:Mem),e=[(0,S Z)]/\St w0 M0 M [] w/\some Z=some o1) [] ?_ ?_ (trivial)
 .
  refine BL (q0l (fun m e w =>∃(U:Ls) (M:Mem),e=[(0,S U),(1,ptr K 0)]/\St w0 M0 M [] w/\PtM M K (.cells (List.map encBo O).toArray 143)/\Y0g O m U=some o1) FU [(0,_),(1,_)] ⟨rfl,rfl,trivial⟩ ⟨_,_,rfl,H,J,u⟩ ?_);rintro m5 e w ⟨U,M,rfl,H,J,u⟩;rcases m5 with _|m5
  . rw[Y0g] at u;cases u
  rw[Y0g] at u;refine SQ (SQ (RG (MV G G (ST (q0g Tu9 G) G (ST (q0C G G) G (NL (TN ?_)))))));refine CB (p:=(0:Int)<(U.length:Int)) G (fun N=>?_) fun N=>?_
  .
   rw[if_pos N] at u;refine SK (TN (BL (SQ (SQ ?_))));obtain⟨n7,a1,u⟩:=bnd u;obtain⟨c8,a2,u⟩:=bnd u;obtain⟨b9,a3,u⟩:=bnd u;refine RG (MV G G (MV G G (MV G G (ST (q0g Tu9 G) G (ST (q0K G G a1) G (ST (q0p Tu9 G G a2) G (q02 H (Y1S a3) G (J) (q00 G) G ?_)))))));intro a9 M w H a7 hR;replace J:=J.mono a7;obtain rfl:=hR;refine ST (q0y G) G (NL (TN ?_));refine q0a G (fun E=>?_) (fun E=>?_)
   .
    replace E:b9=false:=by simpa using E
    subst E;rw[if_neg l00] at u;refine q0j (q03 (q1r G (q03 (q0b ?_))));exact MN ⟨_,_,G,H,u⟩
   replace E:b9=true:=by simpa using E
   subst E;rw[if_pos rfl] at u;refine SK (TN ?_);obtain⟨aa,V,u⟩:=bnd u;obtain⟨ab,Y,u⟩:=bnd u;refine RG (MV G G (MV G G (ST (q0g Tu9 G) G (ST (q0K G G V) G (ST (q1y Tu9 G G Y) G (AS G G (NL (IB ?_))))))));exact AG m5 ⟨_,_,G,H,J,u⟩ (l06 _)
  rw[if_neg N] at u;refine q0j (q03 (q03 (q0b ?_)));exact MN ⟨_,_,G,H,u⟩
 rintro e w ⟨Z,M,rfl,H,a8⟩;obtain rfl:=oI a8;refine TN (SQ (RG (MV G G (AS G G (NL (TN (RT ?_)))))));obtain rfl:=oI h;exact q07 G G H.ext G
theorem Y3X {p0:Ls}{O:Ls}{r:Ls}(h:Y1Z p0 O=some r):Ct Tryz.prog 71 [S p0,S O] (fun M=>True) (fun v M=>v=S r):=by
 refine Ct.of Tryz.func71 (enters Tryz.func71 Kr G) G G G ?_;intro w0 M0 H hp;unfold Y1Z at h;refine SQ (RG (AS G G (NL (TN (SQ (SQ ?_))))));obtain⟨o1,Y,h⟩:=bnd h;refine q0c (fun e w =>∃(b3:Bool) (M:Mem),e=[(0,S p0),(1,S O),(12,Value.bool b3)]/\St w0 M0 M [] w/\some b3=some o1) [] ?_ ?_ (trivial)
 .
  by_cases K:p0=[]
  .
   rw[if_pos K] at Y;refine RG (MV G G (DT K (q0B G G) G (MV G G (GT G G G (GT G G G (PT G G G (NL ?_)))))));exact MN ⟨_,_,G,H,Y⟩
  rw[if_neg K] at Y;refine RG (MV G G (DF K (q0B G G) G (MV G G (SG (q06 G) G G G (SG (q0B G G) G G G (PF G G G (NL ?_)))))));exact MN ⟨_,_,G,H,Y⟩
 rintro e w ⟨b3,M,rfl,H,q5⟩;obtain rfl:=oI q5;refine TN ?_;refine q0a G (fun U=>?_) (fun U=>?_)
 .
  subst U;rw[if_pos rfl] at h;refine SQ (RG (MV G G (AS G G (NL (TN (RT ?_))))));obtain rfl:=oI h;exact q07 G G H.ext G
 subst U;rw[if_neg l00] at h;refine SK (TN (SQ (SQ ?_)));obtain⟨o7,N,h⟩:=bnd h;refine q0c (fun e w =>∃(b9:Bool) (M:Mem),e=[(0,S p0),(1,S O),(21,Value.bool b9)]/\St w0 M0 M [] w/\some b9=some o7) [] ?_ ?_ (trivial)
 .
  refine RG (MV G G (ST (q0g Tu9 G) G ?_));by_cases u:(O.length:Int)=(1:Int)
  .
   rw[if_pos u] at N;obtain⟨aa,Z,N⟩:=bnd N;refine DT u (q0u G G) G (MV G G (SG (q06 G) G G G (SG (q0p Tu9 G G Z) G G G (SG (Ex.lssB (i:=aa.toNat) (j:=128) G G) G G G (PT G G G (NL ?_))))));exact MN ⟨_,_,G,H,N⟩
  rw[if_neg u] at N;refine DF u (q0u G G) G (MV G G (q0i 3 G G (PF G G G (NL ?_))));exact MN ⟨_,_,G,H,N⟩
 rintro e w ⟨b9,M,rfl,H,ab⟩;obtain rfl:=oI ab;refine TN ?_;refine q0a G (fun E=>?_) (fun E=>?_)
 .
  subst E;rw[if_pos rfl] at h;refine SQ ?_;obtain⟨aj,a0,h⟩:=bnd h;obtain⟨ak,a5,h⟩:=bnd h;refine RG (MV G G (MV G G (ST (q0p Tu9 G G a0) G (q02 H (Y3r a5) G trivial (q00 G) G ?_))));intro al M w H V hR;obtain rfl:=hR;refine AS G G (NL (TN (RT ?_)));obtain rfl:=oI h;exact q07 G G H.ext G
 subst E;rw[if_neg l00] at h;refine SK (TN (SQ (SQ ?_)));obtain⟨⟨ac,am⟩,a6,h⟩:=bnd h;try dsimp only at h
 obtain⟨an,a1,h⟩:=bnd h;obtain⟨ao,a2,h⟩:=bnd h;refine RG (MV G G (q02 H (Y1R a6) G trivial (q00 G) G ?_));intro ap M w H V hR;try dsimp only at hR
 obtain rfl:=hR;refine MV G G (ST (q05 G G) G (ST (q05 G G) G (q09 (List.map encBo (List.replicate 256 false:List Bool)) H Tz143 Kr (q00 G) G ?_)));intro ad w H;refine q1z (l2:=ac) H G G (fun _=>G) (fun _=>by repeat first|exact .head|apply Upd.tail) a1 a2 Ts143 (q00 G) ?_;intro w H;refine AS G G (NL (TN (SQ (RG (MV G G (NL (TN ?_)))))));refine q0a G (fun J=>?_) (fun J=>?_)
 .
  subst J;rw[if_pos rfl] at h;refine SQ ?_;obtain⟨aq,a7,h⟩:=bnd h;refine RG (MV G G ?_);obtain⟨M,V,a8,H⟩:=H.freezeVar (b:=ad) Kv;refine q02 H (Y3d a7) G (a8) (q00 G) G ?_;intro ar M w H V hR;obtain rfl:=hR;refine AS G G (NL (TN (RT ?_)));obtain rfl:=oI h;exact q07 G G H.ext G
 subst J;rw[if_neg l00] at h;cases h
theorem Y6e {p0:Ls}{r:Bool}(h:Y46 p0=some r):Ct Tryz.prog 72 [S p0] (fun M=>True) (fun v M=>v=Value.bool r):=by
 refine Ct.of Tryz.func72 (enters Tryz.func72 Kr G) G G G ?_;intro V M0 H hp;unfold Y46 at h;refine SQ (RG (AS G G (NL (TN (SQ ?_)))));obtain⟨⟨Y,⟨Z,n3⟩⟩,u,h⟩:=bnd h;try dsimp only at h
 refine RG (MV G G (q02 H (Y4n u) G trivial (q00 G) G ?_));intro v7 M w H E hR;try dsimp only at hR
 obtain⟨K,rfl,N⟩:=hR;refine MV G G (ST (q05 G G) G (ST (q05 G G) G (q09 [_,_] H Tz28 G (q00 G) G ?_)));intro O w H;refine AS G G (q04 [_,_] H G G G Ku Ts28 G Kf Kf (q00 G) ?_);intro w H;refine NL (TN (SQ ?_));obtain⟨b5,J,h⟩:=bnd h;refine RG (ST (q08 H G Km Ta28 Ts28 Kf) G ?_);refine q02 H (Y06 J) G trivial (q00 G) G ?_;intro U M w H E hR;obtain rfl:=hR;refine ST (q0y G) G (AS G G (NL (TN (RT ?_))));obtain rfl:=oI h;exact q07 G G H.ext G
theorem Y5W {p0:Ls}{r:((Ls × Ls) × Bool)}(h:Y3v p0=some r):Ct Tryz.prog 41 [S p0] (fun M=>GlF (fun w =>∃m,w.cell? ⟨0,0,none⟩=some (.int .i64 m)) M) (fun v M=>v=Value.tuple #[Value.agg #[S r.1.1,S r.1.2],Value.bool r.2]):=by
 refine Ct.of Tryz.func41 (enters Tryz.func41 Kr G) G G G ?_;intro w0 M0 H hp;have u:=hp;unfold Y3v at h;refine SQ (RG (q09 [_,_] H Tz46 G (q00 G) G ?_));intro O w H;refine AS G G (NL (TN (SQ ?_)));obtain⟨⟨s1,s2,b3⟩,Y,h⟩:=bnd h;try dsimp only at h
 refine RG (MV G G (q02 H (Y5n Y) G (u) (q00 G) G ?_));intro v9 M w H E hR;replace u:=u.mono E;try dsimp only at hR
 obtain rfl:=hR;refine MV G G (ST (q05 G G) G (ST (q05 G G) G (ST (q05 G G) G (AS G G (AS G G (AS G G (NL (TN (SQ ?_)))))))));obtain⟨s5,Z,h⟩:=bnd h;refine RG (MV G G (q02 H (Y3X Z) G trivial (q00 G) G ?_));intro a6 M w H E hR;replace u:=u.mono E;obtain rfl:=hR;refine AS G G (NL (TN (SQ ?_)));obtain⟨o7,J,h⟩:=bnd h;refine q0c (fun e w =>∃(U:Ls) (K:Ls) (N:Bool) (M:Mem),e=[(2,ptr O 0),(3,Value.bool N)]/\St w0 M0 M [.blk O (.cells #[S U,S K] 46)] w/\GlF (fun w =>∃m,w.cell? ⟨0,0,none⟩=some (.int .i64 m)) M/\some (U,K,N)=some o7) [] ?_ ?_ (trivial)
 .
  refine RG (MV G G (MV G G (ST (q0v [S s5,S s2] Tu46 Tz46 (xplaces46 Tu46) G G) G (MV G G (MV G G ?_)))));rcases b3 with _|_
  .
   rw[if_neg l00] at J;refine GF G G G (GF G G G (PF G G G (q04 [_,_] H G G G Ku Ts46 G Kf Kf (q00 G) ?_)));intro w H;refine AS G G (NL ?_);exact MN ⟨_,_,_,_,G,H,u,J⟩
  rw[if_pos rfl] at J;obtain⟨a7,V,J⟩:=bnd J;refine SG (q06 G) G G G (q02 H (Y6e V) G trivial (q0h G G G) G ?_);intro a8 M w H E hR;replace u:=u.mono E;obtain rfl:=hR;refine PT G G G (q04 [_,_] H G G G Ku Ts46 G Kf Kf (q00 G) ?_);intro w H;refine AS G G (NL ?_);exact MN ⟨_,_,_,_,G,H,u,J⟩
 rintro e w ⟨U,K,N,M,rfl,H,u,a0⟩;obtain rfl:=oI a0;try dsimp only at h
 refine TN (RT ?_);obtain rfl:=oI h;exact q0t G ⟨_,G,H.loadAgg Km Ta46 Ts46 Kf⟩ G H.ext G
theorem Y3C {p0:Ls}{K:UInt8}{r:Ls}(h:Y1s p0 K=some r):Ct Tryz.prog 73 [S p0,encB K] (fun M=>True) (fun v M=>v=S r):=by
 refine Ct.of Tf73 (enters Tf73 Kr G) G G G ?_;intro Y M0 H hp;unfold Y1s at h;refine SQ (RG (AS G G (NL (TN (SQ ?_)))));obtain⟨o1,u,h⟩:=bnd h;refine q0c (fun e w =>∃(Z:Ls) (M:Mem),e=[(0,S Z)]/\St Y M0 M [] w/\some Z=some o1) [] ?_ ?_ (trivial)
 .
  refine BL (q0l (fun m e w =>∃(O:Ls) (M:Mem),e=[(0,S O),(1,encB K)]/\St Y M0 M [] w/\Y1o K m O=some o1) FU [(0,_),(1,_)] ⟨rfl,rfl,trivial⟩ ⟨_,_,rfl,H,u⟩ ?_);rintro m5 e w ⟨O,M,rfl,H,u⟩;rcases m5 with _|m5
  . rw[Y1o] at u;cases u
  rw[Y1o] at u;refine SQ (SQ ?_);obtain⟨o6,N,u⟩:=bnd u;refine q0c (fun e w =>∃(b8:Bool) (M:Mem),e=[(0,S O),(1,encB K),(13,Value.bool b8)]/\St Y M0 M [] w/\some b8=some o6) [] ?_ ?_ (trivial)
  .
   refine RG (MV G G (ST (q0g Tu9 G) G ?_));by_cases J:(0:Int)<(O.length:Int)
   .
    rw[if_pos J] at N;obtain⟨a3,U,N⟩:=bnd N;refine DT J (q0C G G) G (MV G G (SG (q06 G) G G G (SG (q0p Tu9 G G U) G G G (SG (q06 G) G G G (SG (q0L (c:=a3) (d:=K) G G) G G G (PT G G G (NL ?_)))))));exact MN ⟨_,_,G,H,N⟩
   rw[if_neg J] at N;refine DF J (q0C G G) G (MV G G (q0i 4 G G (PF G G G (NL ?_))));exact MN ⟨_,_,G,H,N⟩
  rintro e w ⟨b8,M,rfl,H,a4⟩;obtain rfl:=oI a4;refine TN ?_;refine q0a G (fun E=>?_) (fun E=>?_)
  .
   subst E;rw[if_pos rfl] at u;refine SK (TN (BL ?_));obtain⟨a7,V,u⟩:=bnd u;refine RG (MV G G (ST (q1f Tu9 G G V) G (AS G G (NL (IB ?_)))));exact AG m5 ⟨_,_,G,H,u⟩ (l06 _)
  subst E;rw[if_neg l00] at u;refine q0j (q03 (q03 (q0b ?_)));exact MN ⟨_,_,G,H,u⟩
 rintro e w ⟨Z,M,rfl,H,a5⟩;obtain rfl:=oI a5;refine TN (SQ (RG (MV G G (AS G G (NL (TN (RT ?_)))))));obtain rfl:=oI h;exact q07 G G H.ext G
theorem Y3s {p0:Ls}{O:List Bool}{K:Nat}{r:Ls}(h:Y1d p0 O=some r):Ct Tryz.prog 76 [S p0,ptr K 0] (fun M=>PtM M K (.cells (List.map encBo O).toArray 143)) (fun v M=>v=S r):=by
 refine Ct.of Tryz.func76 (enters Tryz.func76 Kr G) G G G ?_;intro w0 M0 H hp;have J:=hp;unfold Y1d at h;refine SQ (RG (AS G G (NL (TN (SQ ?_)))));obtain⟨o1,u,h⟩:=bnd h;refine q0c (fun e w =>∃(Y:Ls) (M:Mem),e=[(0,S Y)]/\St w0 M0 M [] w/\some Y=some o1) [] ?_ ?_ (trivial)
 .
  refine BL (q0l (fun m e w =>∃(U:Ls) (M:Mem),e=[(0,S U),(1,ptr K 0)]/\St w0 M0 M [] w/\PtM M K (.cells (List.map encBo O).toArray 143)/\Y09 O m U=some o1) FU [(0,_),(1,_)] ⟨rfl,rfl,trivial⟩ ⟨_,_,rfl,H,J,u⟩ ?_);rintro Z e w ⟨U,M,rfl,H,J,u⟩;rcases Z with _|Z
  . rw[Y09] at u;cases u
  rw[Y09] at u;refine SQ (SQ (RG (MV G G (ST (q0g Tu9 G) G (ST (q0C G G) G (NL (TN ?_)))))));refine CB (p:=(0:Int)<(U.length:Int)) G (fun N=>?_) fun N=>?_
  .
   rw[if_pos N] at u;refine SK (TN (BL (SQ (SQ ?_))));obtain⟨c7,a0,u⟩:=bnd u;obtain⟨b8,a4,u⟩:=bnd u;refine RG (MV G G (MV G G (ST (q0p Tu9 G G a0) G (q02 H (Y1S a4) G (J) (q00 G) G ?_))));intro a7 M w H a5 hR;replace J:=J.mono a5;obtain rfl:=hR;refine ST (q0y G) G (NL (TN ?_));refine q0a G (fun E=>?_) (fun E=>?_)
   .
    replace E:b8=false:=by simpa using E
    subst E;rw[if_neg l00] at u;refine q0j (q03 (q1r G (q03 (q0b ?_))));exact MN ⟨_,_,G,H,u⟩
   replace E:b8=true:=by simpa using E
   subst E;rw[if_pos rfl] at u;refine SK (TN ?_);obtain⟨a8,V,u⟩:=bnd u;refine RG (MV G G (ST (q1f Tu9 G G V) G (AS G G (NL (IB ?_)))));exact AG Z ⟨_,_,G,H,J,u⟩ (l06 _)
  rw[if_neg N] at u;refine q0j (q03 (q03 (q0b ?_)));exact MN ⟨_,_,G,H,u⟩
 rintro e w ⟨Y,M,rfl,H,a6⟩;obtain rfl:=oI a6;refine TN (SQ (RG (MV G G (AS G G (NL (TN (RT ?_)))))));obtain rfl:=oI h;exact q07 G G H.ext G
theorem Y62 {p0:Ls}{V:Ls}{r:Ls}(h:Y3P p0 V=some r):Ct Tryz.prog 43 [S p0,S V] (fun M=>True) (fun v M=>v=S r):=by
 refine Ct.of Tryz.func43 (enters Tryz.func43 Kr G) G G G ?_;intro w0 M0 H hp;unfold Y3P at h;refine SQ (RG (AS G G (NL (TN (SQ (SQ ?_))))));obtain⟨o1,Z,h⟩:=bnd h;refine q0c (fun e w =>∃(b3:Bool) (M:Mem),e=[(0,S p0),(1,S V),(12,Value.bool b3)]/\St w0 M0 M [] w/\some b3=some o1) [] ?_ ?_ (trivial)
 .
  by_cases O:p0=[]
  .
   rw[if_pos O] at Z;refine RG (MV G G (DT O (q0B G G) G (MV G G (GT G G G (GT G G G (PT G G G (NL ?_)))))));exact MN ⟨_,_,G,H,Z⟩
  rw[if_neg O] at Z;refine RG (MV G G (DF O (q0B G G) G (MV G G (SG (q06 G) G G G (SG (q0B G G) G G G (PF G G G (NL ?_)))))));exact MN ⟨_,_,G,H,Z⟩
 rintro e w ⟨b3,M,rfl,H,q5⟩;obtain rfl:=oI q5;refine TN ?_;refine q0a G (fun Y=>?_) (fun Y=>?_)
 .
  subst Y;rw[if_pos rfl] at h;refine SQ (RG (MV G G (AS G G (NL (TN (RT ?_))))));obtain rfl:=oI h;exact q07 G G H.ext G
 subst Y;rw[if_neg l00] at h;refine SK (TN (SQ (SQ ?_)));obtain⟨o7,U,h⟩:=bnd h;refine q0c (fun e w =>∃(b9:Bool) (M:Mem),e=[(0,S p0),(1,S V),(21,Value.bool b9)]/\St w0 M0 M [] w/\some b9=some o7) [] ?_ ?_ (trivial)
 .
  refine RG (MV G G (ST (q0g Tu9 G) G ?_));by_cases E:(V.length:Int)=(1:Int)
  .
   rw[if_pos E] at U;obtain⟨ad,a0,U⟩:=bnd U;refine DT E (q0u G G) G (MV G G (SG (q06 G) G G G (SG (q0p Tu9 G G a0) G G G (SG (Ex.lssB (i:=ad.toNat) (j:=128) G G) G G G (PT G G G (NL ?_))))));exact MN ⟨_,_,G,H,U⟩
  rw[if_neg E] at U;refine DF E (q0u G G) G (MV G G (q0i 3 G G (PF G G G (NL ?_))));exact MN ⟨_,_,G,H,U⟩
 rintro e w ⟨b9,M,rfl,H,ae⟩;obtain rfl:=oI ae;refine TN ?_;refine q0a G (fun K=>?_) (fun K=>?_)
 .
  subst K;rw[if_pos rfl] at h;refine SQ ?_;obtain⟨am,a1,h⟩:=bnd h;obtain⟨an,a7,h⟩:=bnd h;obtain⟨ao,a2,h⟩:=bnd h;obtain⟨ap,a8,h⟩:=bnd h;refine q0x (m:=8) G G H ?_;intro w H;refine TK 0 G (fun _=>q06 G) G (TK 1 G (fun _=>q06 G) G (TK 2 G (fun _=>q0p Tu9 G G a1) G (TK 4 G (fun _=>q06 G) G (TK 5 G (fun _=>q0p Tu9 G G a2) G (q0k (fuel:=0) [3,6,7] G Kr (q02 H (Y3r a7) G trivial (q00 G) G ?_))))));intro aq M w H u hR;obtain rfl:=hR;refine q02 H (Y3C a8) G trivial (q00 G) G ?_;intro ar M w H u hR;obtain rfl:=hR;refine AS G G (NA (q0f Kr (TN (RT ?_))));obtain rfl:=oI h;exact q07 G G H.ext G
 subst K;rw[if_neg l00] at h;refine SK (TN (SQ (SQ ?_)));obtain⟨⟨ah,au⟩,a9,h⟩:=bnd h;try dsimp only at h
 obtain⟨av,a3,h⟩:=bnd h;obtain⟨aw,a4,h⟩:=bnd h;refine RG (MV G G (q02 H (Y1R a9) G trivial (q00 G) G ?_));intro ax M w H u hR;try dsimp only at hR
 obtain rfl:=hR;refine MV G G (ST (q05 G G) G (ST (q05 G G) G (q09 (List.map encBo (List.replicate 256 false:List Bool)) H Tz143 Kr (q00 G) G ?_)));intro ai w H;refine q1z (l2:=ah) H G G (fun _=>G) (fun _=>by repeat first|exact .head|apply Upd.tail) a3 a4 Ts143 (q00 G) ?_;intro w H;refine AS G G (NL (TN (SQ (RG (MV G G (NL (TN ?_)))))));refine q0a G (fun N=>?_) (fun N=>?_)
 .
  subst N;rw[if_pos rfl] at h;refine SQ ?_;obtain⟨ay,aa,h⟩:=bnd h;obtain⟨az,ab,h⟩:=bnd h;refine RG (MV G G ?_);obtain⟨M,u,J,H⟩:=H.freezeVar (b:=ai) Kv;refine q02 H (Y3d aa) G (J) (q00 G) G ?_;intro b0 M w H u hR;replace J:=J.mono u;obtain rfl:=hR;refine q02 H (Y3s ab) G (J) (q00 G) G ?_;intro b1 M w H u hR;obtain rfl:=hR;refine AS G G (NL (TN (RT ?_)));obtain rfl:=oI h;exact q07 G G H.ext G
 subst N;rw[if_neg l00] at h;cases h
end Go.Proofs.YtkgohbecojnfaaaGreatDoor
end
section
namespace Go.Proofs.YtkgohbecojnfaaaGreatDoor
open Go Go.RowKit Go.Ph Go.Ph.Pl Go.Ph.Pf
theorem Y5o {p0:Ls}{a5:Value}{r:(List (Ls × Ls) × Int × (Int × Int))}(h:Y3E p0=some r):Ct Tryz.prog 19 [a5] (fun M=>GlF (fun w =>∃m,w.cell? ⟨0,0,none⟩=some (.int .i64 m)) M/\Sl M encB a5 p0) (fun v M =>∃x0,v=Value.tuple #[x0,I r.2.1,Value.agg #[I r.2.2.1,I r.2.2.2]]/\SlS M 2 xenc46 x0 r.1):=by
 refine Ct.of Tryz.func19 (enters Tryz.func19 Kr G) G G G ?_;intro w0 M0 H hp;obtain⟨K,N⟩:=hp;unfold Y3E at h;refine SQ (RG (AS G G (AS G G (q09 [_,_] H Tz28 G (q00 G) G ?_))));intro O w H;refine NL (TN (SQ (SQ (RG (MV G G (ST (q0o Tu23 N G) G (ST (q0C G G) G (NL (TN ?_)))))))));refine CB (p:=(12000:Int)<(p0.length:Int)) G (fun ar=>?_) fun ar=>?_
 .
  rw[if_pos ar] at h;refine SQ ?_;obtain⟨⟨n2,n3⟩,c2,h⟩:=bnd h;try dsimp only at h
  refine RG (q02 H (Y02 c2) G trivial (q00 G) G ?_);intro cj M w H J hR;try dsimp only at hR
  obtain rfl:=hR;refine AS G G (AS G G (q04 [_,_] H G G G Ku Ts28 G Kf Kf (q00 G) ?_));intro w H;refine NL (TN (RT ?_));obtain rfl:=oI h;exact WQ.ret3 G G G ⟨_,G,H.loadAgg Km Ta28 Ts28 Kf⟩ H.ext (⟨_,G,(q1a _ _ (fun _=>G))⟩)
 rw[if_neg ar] at h;refine SK (TN (SQ (RG (AS G G (NL (TN (SQ (RG (AS G G (NL (TN (SQ ?_))))))))))));obtain⟨o5,u,h⟩:=bnd h;refine q0c (fun e w =>∃(l8:List (Ls × Ls)) (Y:Value) (a7:Int) (M:Mem),e=[(4,ptr O 0),(5,Y),(6,I a7)]/\St w0 M0 M [.blk O (.cells #[I 0,I 0] 28),RowS 46 2 xenc46 Y l8] w/\GlF (fun w =>∃m,w.cell? ⟨0,0,none⟩=some (.int .i64 m)) M/\some (l8,a7)=some o5) [] ?_ ?_ (trivial)
 .
  refine BL ?_;replace H:=H.newRowS 46 2 xenc46;refine q0l (fun m e w =>∃(U:List (Ls × Ls)) (a6:Value) (a8:Int) (M:Mem),e=[(0,a5),(4,ptr O 0),(5,a6),(6,I a8)]/\St w0 M0 M [.blk O (.cells #[I 0,I 0] 28),RowS 46 2 xenc46 a6 U] w/\GlF (fun w =>∃m,w.cell? ⟨0,0,none⟩=some (.int .i64 m)) M/\Sl M encB a5 p0/\Y1y p0 m U a8=some o5) FU [(0,_),(4,_),(5,_),(6,_)] ⟨rfl,rfl,rfl,rfl,trivial⟩ ⟨_,_,_,_,rfl,(H.pick (L':=[.blk O (.cells #[I 0,I 0] 28),RowS 46 2 xenc46 (Value.slice none 0 0) []]) Kp),K,N,u⟩ ?_;rintro aj e w ⟨U,a6,a8,M,rfl,H,K,N,u⟩;rcases aj with _|aj
  . rw[Y1y] at u;cases u
  rw[Y1y] at u;refine SQ (SQ (RG (MV G G (MV G G (ST (q0o Tu23 N G) G (ST (q0m G G) G (NL (TN ?_))))))));refine CB (p:=a8<(p0.length:Int)) G (fun aa=>?_) fun aa=>?_
  .
   rw[if_pos aa] at u;refine SK (TN (BL (SQ ?_)));obtain⟨ck,ak,u⟩:=bnd u;obtain⟨⟨ba,c4⟩,bh,u⟩:=bnd u;try dsimp only at u
   refine RG (MV G G (MV G G (ST (q1E Tu23 Ts5 (N) G G ak) G (q02 H (Y6d bh) G ((N.subV ak)) (q00 G) G ?_))));intro cm M w H J hR;replace K:=K.mono J;replace N:=N.mono J;try dsimp only at hR
   obtain rfl:=hR;refine MV G G (ST (q05 G G) G (ST (q05 G G) G (AS G G (AS G G (NL (TN (SQ (SQ (RG (MV G G (ST (q0B G G) G (NL (TN ?_)))))))))))));refine CB (p:=ba=[]) G (fun ab=>?_) fun ab=>?_
   .
    rw[if_pos ab] at u;refine SQ ?_;obtain⟨cn,az,u⟩:=bnd u;refine RG (MV G G (MV G G (ST (q0e G G az) G (AS G G (NL (TN (q0j (q03 (q1r G (q03 (q0b ?_)))))))))));exact MN ⟨_,_,_,_,G,H,K,u⟩
   rw[if_neg ab] at u;refine SK (TN (SQ (SQ ?_)));obtain⟨c5,a0,u⟩:=bnd u;refine q0c (fun e w =>∃(au:Bool) (M:Mem),e=[(0,a5),(4,ptr O 0),(5,a6),(6,I a8),(7,S ba),(8,I c4),(41,Value.bool au)]/\St w0 M0 M [.blk O (.cells #[I 0,I 0] 28),RowS 46 2 xenc46 a6 U] w/\GlF (fun w =>∃m,w.cell? ⟨0,0,none⟩=some (.int .i64 m)) M/\Sl M encB a5 p0/\some au=some c5) [] ?_ ?_ (trivial)
   .
    obtain⟨co,b0,a0⟩:=bnd a0;obtain⟨c6,bi,a0⟩:=bnd a0;refine RG (MV G G (ST (q0p Tu9 G G b0) G (q02 H (Y2H bi) G trivial (q00 G) G ?_)));intro cp M w H J hR;replace K:=K.mono J;replace N:=N.mono J;obtain rfl:=hR;refine MV G G ?_;rcases c6 with _|_
    .
     rw[if_neg l00] at a0;refine q0i 3 G G (PF G G G (NL ?_));exact MN ⟨_,_,G,H,K,N,a0⟩
    rw[if_pos rfl] at a0;refine SG (q06 G) G G G (SG (q1v (l:=U) Tu22 H Km G) G G G ?_);refine SG (q0C G G) G G G (PT G G G (NL ?_));exact MN ⟨_,_,G,H,K,N,a0⟩
   rintro e w ⟨au,M,rfl,H,K,N,c7⟩;obtain rfl:=oI c7;refine TN ?_;refine q0a G (fun ac=>?_) (fun ac=>?_)
   .
    subst ac;rw[if_pos rfl] at u;refine SQ ?_;obtain⟨cq,b1,u⟩:=bnd u;obtain⟨cr,al,u⟩:=bnd u;obtain⟨c8,b2,u⟩:=bnd u;obtain⟨bb,am,u⟩:=bnd u;obtain⟨ct,b3,u⟩:=bnd u;refine RG (MV G G (MV G G (ST (q1v (l:=U) Tu22 H Km G) G ?_)));refine ST (q0K G G b1) G (q0z (l:=U) H Tu22 Ts46 Km G G al (q00 G) G ?_);intro cu bj;refine ST (q01 Tu46 G Ts9 Dc G) G (ST (q0A (j:=1) H G bj Km (fun _=>G) al G Ta9) G ?_);refine MV G G (ST (q0d G G b2) G (q0z (l:=U) H Tu22 Ts46 Km G G am (q00 G) G ?_));intro cv bm;refine ST (q01 Tu46 G Ts9 Dc G) G (WR.storeRowFC (j:=1) (a:=bb) (a':=(bb.1,c8)) H G G ⟨G,G⟩ bm (fun _=>by repeat first|exact .head|apply Upd.tail) (fun _=>G) am b3 G G Ts9 (q00 G) ?_);intro w H;refine NL (TN (SQ ?_));obtain⟨cw,b4,u⟩:=bnd u;refine RG (MV G G (MV G G (ST (q0e G G b4) G (AS G G (NL (TN (q0j (q03 (q0b ?_)))))))));exact AG aj ⟨_,_,_,_,G,H,K,N,u⟩ (l06 _)
   subst ac;rw[if_neg l00] at u;refine SK (TN (SQ ?_));obtain⟨⟨⟨c9,ca⟩,bc⟩,bn,u⟩:=bnd u;try dsimp only at u
   refine RG (MV G G (q02 H (Y5W bn) G (K) (q00 G) G ?_));intro cx M w H J hR;replace K:=K.mono J;replace N:=N.mono J;try dsimp only at hR
   obtain rfl:=hR;refine MV G G (ST (q05 G G) G (ST (q05 G G) G (q09 [_,_] H Tz46 G (q00 G) G ?_)));intro cy w H;refine q04 [_,_] H G G G Ku Ts46 G Kf Kf (q00 G) ?_;intro w H;refine AS G G (NL (TN (SQ (SQ (RG (MV G G (ST (q0y G) G (NL (TN ?_)))))))));refine q0a G (fun V=>?_) (fun V=>?_)
   .
    replace V:bc=false:=by simpa using V
    subst V;rw[if_neg l00] at u;refine q0j (q03 (q1r G (q03 (q0b ?_))));exact MN ⟨_,_,_,_,G,(H.pick (L':=[.blk O (.cells #[I 0,I 0] 28),RowS 46 2 xenc46 a6 U]) Kp),K,u⟩
   replace V:bc=true:=by simpa using V
   subst V;rw[if_pos rfl] at u;refine SK (TN (SQ ?_));obtain⟨cb,b5,u⟩:=bnd u;refine RG (MV G G (ST (q08 H G Km Ta46 Ts46 Kf) G ?_));refine q1t (enc:=xenc46) xty22 ([(c9,ca)]:List (Ls × Ls)) H (fun _=>G) G Kr G G G (q00 G) G ?_;intro cz M w H J bo;replace K:=K.mono J;replace N:=N.mono J;refine WR.appSC (l:=U) xty22 G xone46 H G (fun _=>by repeat first|exact .head|apply Upd.tail) G (bo) b5 (q00 G) G ?_;intro cc w H;refine AS G G (NL (TN ?_));obtain⟨d0,b6,u⟩:=bnd u;refine RG (MV G G (MV G G (ST (q0e G G b6) G (AS G G (NL (IB ?_))))));exact AG aj ⟨_,_,_,_,G,(H.pick (L':=[.blk O (.cells #[I 0,I 0] 28),RowS 46 2 xenc46 cc cb]) Kp),K,N,u⟩ (l06 _)
  rw[if_neg aa] at u;refine q0j (q03 (q03 (q0b ?_)));exact MN ⟨_,_,_,_,G,H,K,u⟩
 rintro e w ⟨l8,Y,a7,M,rfl,H,K,cd⟩;obtain rfl:=oI cd;try dsimp only at h
 refine TN (SQ (SQ (RG (MV G G (ST (q1v (l:=l8) Tu22 H Km G) G ?_)))));refine ST (q0C G G) G (NL (TN ?_));refine CB (p:=(60:Int)<(l8.length:Int)) G (fun ad=>?_) fun ad=>?_
 .
  rw[if_pos ad] at h;refine SQ ?_;obtain⟨⟨d1,d2⟩,bp,h⟩:=bnd h;try dsimp only at h
  refine RG (q02 H (Y02 bp) G trivial (q00 G) G ?_);intro d3 M w H J hR;try dsimp only at hR
  obtain rfl:=hR;refine AS G G (AS G G (q04 [_,_] H G G G Ku Ts28 G Kf Kf (q00 G) ?_));intro w H;refine NL (TN (RT ?_));obtain rfl:=oI h;exact WQ.ret3 G G G ⟨_,G,H.loadAgg Km Ta28 Ts28 Kf⟩ H.ext (⟨_,G,(q1a _ _ (fun _=>G))⟩)
 rw[if_neg ad] at h;refine SK (TN (SQ ?_));obtain⟨_,bq,h⟩:=bnd h;refine RG (q0O (enc:=encS) xty77 ([[0],[32],[13],[32]]:List Ls) H G Kf (fun _=>G) G G (q00 G) G ?_);intro d4 M w H J br;replace K:=K.mono J;refine q0q (A:=[]) (B:=[.blk O (.cells #[I 0,I 0] 28),RowS 46 2 xenc46 Y l8]) H (Y4U bq) (q0r _) G (br) (q00 G) G ?_;intro d5 M w its H J hR;replace K:=K.mono J;obtain⟨Z,ce,rfl,bs,rfl⟩:=hR;simp only[l02,l03] at H;refine AS G G (NL (TN (SQ (SQ (RG (MV G G (ST (q1v (l:=l8) Tu22 H Km G) G ?_)))))));refine MV G G (NL (TN ?_));obtain⟨bd,E,h⟩:=bnd h;refine q0c (fun e w =>∃(av:Int) (aw:Int) (ax:List (Ls × Ls)) (M:Mem),e=[(4,ptr O 0),(5,Y),(6,I a7)]/\St w0 M0 M [.blk O (.cells #[I av,I aw] 28),RowS 46 2 xenc46 Y ax] w/\GlF (fun w =>∃m,w.cell? ⟨0,0,none⟩=some (.int .i64 m)) M/\some (.inl (av,aw,ax))=some bd) [] ?_ ?_ (trivial)
 .
  refine BL ?_;refine q0l (fun m e w =>∃(a3:Int) (a4:Int) (a1:List (Ls × Ls)) (a9:Array Value) (an:Int) (M:Mem),e=[(4,ptr O 0),(5,Y),(6,I a7),(11,ptr Z 0),(77,I (l8.length:Int)),(78,I an)]/\St w0 M0 M [.blk O (.cells #[I a3,I a4] 28),RowS 46 2 xenc46 Y a1, .blk Z (.cells a9 140)] w/\GlF (fun w =>∃m,w.cell? ⟨0,0,none⟩=some (.int .i64 m)) M/\RplM M a9/\Y1z l8 m a3 a4 a1 an=some bd) FU [(4,_),(5,_),(6,_),(11,_),(77,_),(78,_)] ⟨rfl,rfl,rfl,rfl,rfl,rfl,trivial⟩ ⟨_,_,_,_,_,_,rfl,(H.pick (L':=[.blk O (.cells #[I 0,I 0] 28),RowS 46 2 xenc46 Y l8, .blk Z (.cells ce 140)]) Kp),K,bs,E⟩ ?_;rintro ay e w ⟨a3,a4,a1,a9,an,M,rfl,H,K,bt,E⟩;rcases ay with _|ay
  . rw[Y1z] at E;cases E
  rw[Y1z] at E;refine SQ (RG (ST (q0m G G) G (NL (TN (SQ ?_)))));refine CB (p:=an<(l8.length:Int)) G (fun ae=>?_) fun ae=>?_
  .
   rw[if_pos ae] at E;refine SK (TN (SQ (BL (SQ (RG (MV G G (AS G G (NL (TN (SQ ?_))))))))));obtain⟨d6,ao,E⟩:=bnd E;obtain⟨d7,b7,E⟩:=bnd E;obtain⟨be,bu,E⟩:=bnd E;refine RG (MV G G (MV G G (MV G G (q0z (l:=a1) H Tu22 Ts46 Km G G ao (q00 G) G ?_))));intro d8 bv;refine ST (q01 Tu46 G Ts9 Dc G) G (ST (q0A (j:=1) H G bv Km (fun _=>G) ao G Ta9) G ?_);refine q0q (A:=[.blk Z (.cells a9 140)]) (B:=[.blk O (.cells #[I a3,I a4] 28),RowS 46 2 xenc46 Y a1]) (H.pick (L':=[.blk Z (.cells a9 140), .blk O (.cells #[I a3,I a4] 28),RowS 46 2 xenc46 Y a1]) Kp) (Y4c b7) (.left (q0r _)) G bt (q00 G) G ?_;intro d9 M w its H J hR;replace K:=K.mono J;obtain⟨cf,rfl,ah,rfl⟩:=hR;simp only[l02,l03] at H;refine q02 H (Y62 bu) G trivial (q00 G) G ?_;intro da M w H J hR;replace K:=K.mono J;replace ah:=ah.mono J;obtain rfl:=hR;refine AS G G (NL (TN (SQ (SQ (RG (MV G G (ST (q0g Tu9 G) G (ST (q0C G G) G (NL (TN ?_))))))))));refine CB (p:=(4000:Int)<(be.length:Int)) G (fun ai=>?_) fun ai=>?_
   .
    rw[if_pos ai] at E;refine SQ ?_;obtain⟨⟨db,dc⟩,bw,E⟩:=bnd E;try dsimp only at E
    refine RG (MV G G (q02 H (Y02 bw) G trivial (q00 G) G ?_));intro dd M w H J hR;try dsimp only at hR
    obtain rfl:=hR;refine AS G G (AS G G (q04 [_,_] H G G G Ku Ts28 G Kf Kf (q00 G) ?_));intro w H;refine NL (TN (RT ?_));obtain rfl:=oI E;try dsimp only at h
    obtain rfl:=oI h;exact WQ.ret3 G G G ⟨_,G,H.loadAgg Km Ta28 Ts28 Kf⟩ H.ext (⟨_,G,(q1a _ _ (fun _=>G))⟩)
   rw[if_neg ai] at E;refine SK (TN ?_);obtain⟨bg,ap,E⟩:=bnd E;obtain⟨cg,b8,E⟩:=bnd E;refine RG (MV G G (MV G G (MV G G (q0z (l:=a1) H Tu22 Ts46 Km G G ap (q00 G) G ?_))));intro de bx;refine ST (q01 Tu46 G Ts9 Dc G) G (WR.storeRowFC (j:=1) (a:=bg) (a':=(bg.1,be)) H G G ⟨G,G⟩ bx (fun _=>by repeat first|exact .head|apply Upd.tail) (fun _=>G) ap b8 G G Ts9 (q00 G) ?_);intro w H;refine NL (IB (TN ?_));obtain⟨df,b9,E⟩:=bnd E;refine RG (ST (q0e G G b9) G (MV G G (NL ?_)));exact AG ay ⟨_,_,_,_,_,_,G,(H.pick (L':=[.blk O (.cells #[I a3,I a4] 28),RowS 46 2 xenc46 Y cg, .blk Z (.cells cf 140)]) Kp),K,ah,E⟩ (l06 _)
  rw[if_neg ae] at E;refine q0j (q03 (q03 (q0b ?_)));exact MN ⟨_,_,_,_,G,(H.pick (L':=[.blk O (.cells #[I a3,I a4] 28),RowS 46 2 xenc46 Y a1]) Kp),K,E⟩
 rintro e w ⟨av,aw,ax,M,rfl,H,K,ch⟩;obtain rfl:=oI ch;try dsimp only at h
 refine TN (SQ ?_);obtain⟨⟨dh,di⟩,bz,h⟩:=bnd h;try dsimp only at h
 refine RG (MV G G (MV G G (q02 H (Y07 bz) G trivial (q00 G) G ?_)));intro ci M w H J hR;try dsimp only at hR
 obtain rfl:=hR;refine AS G G (AS G G (q04 [_,_] H G G G Ku Ts28 G Kf Kf (q00 G) ?_));intro w H;refine NL (TN (RT ?_));obtain⟨M,J,c0,H⟩:=H.freezeRowS (v:=Y) (enc:=xenc46) (t:=46) Kv (fun _=>rfl);obtain rfl:=oI h;exact WQ.ret3 G G G ⟨_,G,H.loadAgg Km Ta28 Ts28 Kf⟩ H.ext (⟨_,G,c0⟩)
theorem Y5X {p0:Ls}{K:Value}{r:Ls}(h:Y3w p0=some r):Ct Tryz.prog 20 [K] (fun M=>Sl M encB K p0) (fun v M=>Sl M encB v r):=by
 refine Ct.of Tryz.func20 (enters Tryz.func20 Kr G) G G G ?_;intro w0 M0 H hp;have u:=hp;unfold Y3w at h;refine SQ (RG (AS G G (NL (TN (SQ (RG (AS G G (NL (TN (SQ (SQ (RG (AS G G (NL (TN ?_)))))))))))))));obtain⟨o1,E,h⟩:=bnd h;refine q0c (fun e w =>∃(l4:Ls) (v5:Value) (M:Mem),e=[(3,v5)]/\St w0 M0 M [RowI 5 encB v5 l4] w/\some l4=some o1) [] ?_ ?_ (trivial)
 .
  refine BL ?_;replace H:=H.newRow 5 encB;refine q0l (fun m e w =>∃(Z:Ls) (v8:Value) (n9:Int) (M:Mem),e=[(0,K),(3,v8),(4,I n9)]/\St w0 M0 M [RowI 5 encB v8 Z] w/\Sl M encB K p0/\Y0K p0 m Z n9=some o1) FU [(0,_),(3,_),(4,_)] ⟨rfl,rfl,rfl,trivial⟩ ⟨_,_,_,_,rfl,H,u,E⟩ ?_;rintro a0 e w ⟨Z,v8,n9,M,rfl,H,u,E⟩;rcases a0 with _|a0
  . rw[Y0K] at E;cases E
  rw[Y0K] at E;refine SQ (SQ (RG (MV G G (MV G G (ST (q0o Tu23 u G) G (ST (q0m G G) G (NL (TN ?_))))))));refine CB (p:=n9<(p0.length:Int)) G (fun a2=>?_) fun a2=>?_
  .
   rw[if_pos a2] at E;refine SK (TN (SQ (BL (BL (SQ ?_)))));obtain⟨ba,J,E⟩:=bnd E;refine q0c (fun e w =>∃(a6:Bool) (M:Mem),e=[(0,K),(3,v8),(4,I n9),(18,Value.bool a6)]/\St w0 M0 M [RowI 5 encB v8 Z] w/\Sl M encB K p0/\some a6=some ba) [] ?_ ?_ (trivial)
   .
    obtain⟨a7,ac,J⟩:=bnd J;obtain⟨bm,br,av,aw⟩:=u.atC ac;refine RG (MV G G (MV G G (ST (q0s av Tu23 Ts5 G G) G (ST (q0n H G aw Ta5) G ?_))));by_cases U:a7=13
    .
     rw[if_pos U] at J;obtain⟨bb,ad,J⟩:=bnd J;refine DT U (q0L (c:=a7) (d:=13) G G) G (MV G G (SG (q06 G) G G G (SG (q0e G G ad) G G G (SG (q06 G) G G G (SG (q0o Tu23 u G) G G G ?_)))));by_cases V:bb<(p0.length:Int)
     .
      rw[if_pos V] at J;obtain⟨bs,ae,J⟩:=bnd J;obtain⟨bc,ah,J⟩:=bnd J;obtain⟨bn,bt,ax,ay⟩:=u.atC ah;refine DU V (q0m G G) G G G (PT G G G (MV G G (SG (q06 G) G G G (SG (q06 G) G G G (SG (q0e G G ae) G G G (SG (q0s ax Tu23 Ts5 G G) G G G (SG (q0n H G ay Ta5) G G G (SG (q0L (c:=bc) (d:=10) G G) G G G (PT G G G (AS G G (NL ?_)))))))))));exact MN ⟨_,_,G,H,u,J⟩
     rw[if_neg V] at J;refine DG V (q0m G G) G G G (PT G G G (MV G G (q0i 6 G G (PF G G G (AS G G (NL ?_))))));exact MN ⟨_,_,G,H,u,J⟩
    rw[if_neg U] at J;refine DF U (q0L (c:=a7) (d:=13) G G) G (MV G G (q0i 5 G G (PF G G G (MV G G (q0i 6 G G (PF G G G (AS G G (NL ?_))))))));exact MN ⟨_,_,G,H,u,J⟩
   rintro e w ⟨a6,M,rfl,H,u,bd⟩;obtain rfl:=oI bd;refine TN ?_;refine q0a G (fun a3=>?_) (fun a3=>?_)
   .
    subst a3;rw[if_pos rfl] at E;refine SQ ?_;obtain⟨bu,ai,E⟩:=bnd E;refine RG (MV G G (ST (q0e G G ai) G (AS G G (NL (TN ?_)))));obtain⟨bv,aj,E⟩:=bnd E;refine RG (MV G G (q0O (enc:=encB) xty23 ([13,10]:Ls) H G Kf (fun _=>G) G G (q00 G) G ?_));intro bw M w H O az;replace u:=u.mono O;refine q0H (l:=Z) xty23 G (fun _=>G) H G (fun _=>by repeat first|exact .head|apply Upd.tail) G (az) aj (q00 G) G ?_;intro bx w H;refine AS G G (NL (IB (IB (TN ?_))));obtain⟨bz,ak,E⟩:=bnd E;refine RG (MV G G (ST (q0e G G ak) G (AS G G (NL ?_))));exact AG a0 ⟨_,_,_,_,G,H,u,E⟩ (l06 _)
   subst a3;rw[if_neg l00] at E;refine SQ ?_;obtain⟨be,N,E⟩:=bnd E;refine q0c (fun e w =>∃(a8:Bool) (M:Mem),e=[(0,K),(3,v8),(4,I n9),(44,Value.bool a8)]/\St w0 M0 M [RowI 5 encB v8 Z] w/\Sl M encB K p0/\some a8=some be) [] ?_ ?_ (trivial)
   .
    obtain⟨a9,al,N⟩:=bnd N;obtain⟨bo,c0,b0,b1⟩:=u.atC al;refine RG (MV G G (MV G G (ST (q0s b0 Tu23 Ts5 G G) G (ST (q0n H G b1 Ta5) G ?_))));by_cases Y:a9=13
    .
     rw[if_pos Y] at N;refine DT Y (q0L (c:=a9) (d:=13) G G) G (MV G G (q0i 5 G G (PT G G G (AS G G (NL ?_)))));exact MN ⟨_,_,G,H,u,N⟩
    rw[if_neg Y] at N;obtain⟨bg,am,N⟩:=bnd N;obtain⟨bp,c1,b2,b3⟩:=u.atC am;refine DF Y (q0L (c:=a9) (d:=13) G G) G (MV G G (SG (q06 G) G G G (SG (q06 G) G G G (SG (q0s b2 Tu23 Ts5 G G) G G G (SG (q0n H G b3 Ta5) G G G (SG (q0L (c:=bg) (d:=10) G G) G G G (PF G G G (AS G G (NL ?_)))))))));exact MN ⟨_,_,G,H,u,N⟩
   rintro e w ⟨a8,M,rfl,H,u,bh⟩;obtain rfl:=oI bh;refine TN ?_;refine q0a G (fun a4=>?_) (fun a4=>?_)
   .
    subst a4;rw[if_pos rfl] at E;obtain⟨c2,an,E⟩:=bnd E;refine RG (MV G G (q0O (enc:=encB) xty23 ([13,10]:Ls) H G Kf (fun _=>G) G G (q00 G) G ?_));intro c3 M w H O b4;replace u:=u.mono O;refine q0H (l:=Z) xty23 G (fun _=>G) H G (fun _=>by repeat first|exact .head|apply Upd.tail) G (b4) an (q00 G) G ?_;intro c4 w H;refine AS G G (NL (IB (IB (TN ?_))));obtain⟨c5,ao,E⟩:=bnd E;refine RG (MV G G (ST (q0e G G ao) G (AS G G (NL ?_))));exact AG a0 ⟨_,_,_,_,G,H,u,E⟩ (l06 _)
   subst a4;rw[if_neg l00] at E;obtain⟨bi,ap,E⟩:=bnd E;obtain⟨bq,c6,b5,b6⟩:=u.atC ap;obtain⟨c7,aq,E⟩:=bnd E;refine RG (MV G G (MV G G (MV G G (ST (q0s b5 Tu23 Ts5 G G) G (ST (q0n H G b6 Ta5) G (q0O (enc:=encB) xty23 ([bi]:Ls) H G Kf (fun _=>G) G G (q00 G) G ?_))))));intro c8 M w H O b7;replace u:=u.mono O;refine q0H (l:=Z) xty23 G (fun _=>G) H G (fun _=>by repeat first|exact .head|apply Upd.tail) G (b7) aq (q00 G) G ?_;intro c9 w H;refine AS G G (NL (IB (IB (TN ?_))));obtain⟨ca,ar,E⟩:=bnd E;refine RG (MV G G (ST (q0e G G ar) G (AS G G (NL ?_))));exact AG a0 ⟨_,_,_,_,G,H,u,E⟩ (l06 _)
  rw[if_neg a2] at E;refine q0j (q03 (q03 (q0b ?_)));exact MN ⟨_,_,_,G,H,E⟩
 rintro e w ⟨l4,v5,M,rfl,H,bj⟩;obtain rfl:=oI bj;refine TN (SQ (RG (MV G G (AS G G (NL (TN (RT ?_)))))));obtain⟨M,O,b8,H⟩:=H.freezeRow (v:=v5) (enc:=encB) (t:=5) Kv;obtain rfl:=oI h;exact q07 G G H.ext b8
theorem Y56 {p0:Ls}{a9:Value}{r:((List (Ls × Ls) × Ls) × (Int × Int))}(h:Y3p p0=some r):Ct Tryz.prog 7 [a9] (fun M=>GlF (fun w =>∃m,w.cell? ⟨0,0,none⟩=some (.int .i64 m)) M/\Sl M encB a9 p0) (fun v M =>∃a0 a1,v=Value.tuple #[Value.agg #[a0,a1],Value.agg #[I r.2.1,I r.2.2]]/\SlS M 2 xenc46 a0 r.1.1/\Sl M encB a1 r.1.2):=by
 refine Ct.of Tryz.func7 (enters Tryz.func7 Kr G) G G G ?_;intro w0 M0 H hp;obtain⟨K,V⟩:=hp;unfold Y3p at h;refine SQ (RG (q09 [_,_] H Tz25 G (q00 G) G ?_));intro N w H;refine q09 [_,_] H Tz28 G (q00 G) G ?_;intro O w H;refine NL (TN (SQ ?_));obtain⟨⟨l1,n2,⟨n3,n4⟩⟩,ai,h⟩:=bnd h;try dsimp only at h
 refine RG (MV G G (q02 H (Y5o ai) G ⟨K,V⟩ (q00 G) G ?_));intro an M w H J hR;replace K:=K.mono J;replace V:=V.mono J;try dsimp only at hR
 obtain⟨U,rfl,u⟩:=hR;refine MV G G (ST (q05 G G) G (ST (q05 G G) G (ST (q05 G G) G (q09 [_,_] H Tz28 G (q00 G) G ?_))));intro ao w H;refine AS G G (AS G G (q04 [_,_] H G G G Ku Ts28 G Kf Kf (q00 G) ?_));intro w H;refine NL (TN (SQ (SQ ?_)));obtain⟨b6,aj,h⟩:=bnd h;refine RG (ST (q08 H G Km Ta28 Ts28 Kf) G ?_);refine q02 H (Y06 aj) G trivial (q00 G) G ?_;intro ap M w H J hR;replace K:=K.mono J;replace V:=V.mono J;replace u:=u.mono J;obtain rfl:=hR;refine NL (TN ?_);refine q0a G (fun a2=>?_) (fun a2=>?_)
 .
  subst a2;rw[if_pos rfl] at h;refine SQ ?_;refine q0V (fun e w =>∃  (M:Mem),e=[(2,ptr N 0),(3,ptr O 0)]/\St w0 M0 M [.blk N (.cells #[Value.slice none 0 0,Value.slice none 0 0] 25), .blk O (.cells #[I n3,I n4] 28)] w/\GlF (fun w =>∃m,w.cell? ⟨0,0,none⟩=some (.int .i64 m)) M) ?_ ?_
  .
   refine q0x (m:=4) G G H ?_;intro w H;refine TK 0 G (fun _=>q0v [Value.slice none 0 0,Value.slice none 0 0] Tu25 Tz25 (xplaces25 Tu25) G G) G ?_;refine q0E (i:=1) (j:=2) Kr G G ?_ ?_
   .
    refine ST (q08 H G Km Ta28 Ts28 Kf) G ?_;refine NA (q0k (fuel:=0) [2,3] G Kr (q04 [_,_] H G G G Ku Ts25 G Kf Kf (q00 G) ?_));intro w H;refine q04 [_,_] H G G G Ku Ts28 G Kf Kf (q00 G) ?_;intro w H;refine NA (q0f Kr ?_);exact MP ⟨_,G,(H.pick (L':=[.blk N (.cells #[Value.slice none 0 0,Value.slice none 0 0] 25), .blk O (.cells #[I n3,I n4] 28)]) Kp),K⟩
   refine q04 [_,_] H G G G Ku Ts25 G Kf Kf (q00 G) ?_;intro w H;refine NA (q0k (fuel:=0) [1,3] G Kr (ST (q08 H G Km Ta28 Ts28 Kf) G ?_));refine q04 [_,_] H G G G Ku Ts28 G Kf Kf (q00 G) ?_;intro w H;refine NA (q0f Kr ?_);exact MP ⟨_,G,(H.pick (L':=[.blk N (.cells #[Value.slice none 0 0,Value.slice none 0 0] 25), .blk O (.cells #[I n3,I n4] 28)]) Kp),K⟩
  rintro e w ⟨M,rfl,H,K⟩;refine TN (RT ?_);obtain rfl:=oI h;exact q0t G ⟨_,G,H.loadAgg Km Ta25 Ts25 Kf⟩ ⟨_,G,H.loadAgg Km Ta28 Ts28 Kf⟩ H.ext (⟨_,_,G,(q1a _ _ (fun _=>G)),q0U _ _⟩)
 subst a2;rw[if_neg l00] at h;refine SK (TN (SQ ?_));obtain⟨l9,a3,h⟩:=bnd h;obtain⟨ak,ad,h⟩:=bnd h;refine RG (MV G G (MV G G (MV G G (ST (q1E Tu23 Ts5 (V) G G a3) G (q02 H (Y5X ad) G ((V.subV a3)) (q00 G) G ?_)))));intro Y M w H J hR;replace K:=K.mono J;replace u:=u.mono J;have E:=hR;refine ST (q0v [U,Y] Tu25 Tz25 (xplaces25 Tu25) G (by obtain⟨_,_,_,hv,-⟩:=u;rw [hv];clear hv;obtain ⟨_,_,hv,-⟩:=E;rw [hv];clear hv;rfl)) G ?_;refine q09 [_,_] H Tz25 G (q00 G) G ?_;intro aq w H;refine q04 [_,_] H G G G Ku Ts25 G Kf (by simp only[l0b,l0i,(u).one.2,(E).one.2];rfl) (q00 G) ?_;intro w H;refine NL (TN (SQ (SQ ?_)));obtain⟨⟨a4,a5⟩,ae,h⟩:=bnd h;try dsimp only at h
 refine RG (ST (q08 H G Km Ta25 Ts25 Kf) G ?_);refine q02 H (Y2D ae) G ⟨u,E⟩ (q00 G) G ?_;intro ar M w H J hR;replace K:=K.mono J;replace u:=u.mono J;replace E:=E.mono J;try dsimp only at hR
 obtain rfl:=hR;refine q09 [_,_] H Tz28 G (q00 G) G ?_;intro au w H;refine q04 [_,_] H G G G Ku Ts28 G Kf Kf (q00 G) ?_;intro w H;refine NL (TN (SQ ?_));obtain⟨av,ah,h⟩:=bnd h;refine RG (ST (q08 H G Km Ta28 Ts28 Kf) G ?_);refine q02 H (Y06 ah) G trivial (q00 G) G ?_;intro aw M w H J hR;replace K:=K.mono J;replace u:=u.mono J;replace E:=E.mono J;obtain rfl:=hR;refine NL (TN ?_);refine q0a G (fun Z=>?_) (fun Z=>?_)
 .
  subst Z;rw[if_pos rfl] at h;refine SQ ?_;refine q0V (fun e w =>∃  (M:Mem),e=[(2,ptr N 0),(3,ptr O 0)]/\St w0 M0 M [.blk N (.cells #[Value.slice none 0 0,Value.slice none 0 0] 25), .blk O (.cells #[I a4,I a5] 28)] w/\GlF (fun w =>∃m,w.cell? ⟨0,0,none⟩=some (.int .i64 m)) M) ?_ ?_
  .
   refine q0x (m:=4) G G H ?_;intro w H;refine TK 0 G (fun _=>q0v [Value.slice none 0 0,Value.slice none 0 0] Tu25 Tz25 (xplaces25 Tu25) G G) G ?_;refine q0E (i:=1) (j:=2) Kr G G ?_ ?_
   .
    refine ST (q08 H G Km Ta28 Ts28 Kf) G ?_;refine NA (q0k (fuel:=0) [2,3] G Kr (q04 [_,_] H G G G Ku Ts25 G Kf Kf (q00 G) ?_));intro w H;refine q04 [_,_] H G G G Ku Ts28 G Kf Kf (q00 G) ?_;intro w H;refine NA (q0f Kr ?_);exact MP ⟨_,G,(H.pick (L':=[.blk N (.cells #[Value.slice none 0 0,Value.slice none 0 0] 25), .blk O (.cells #[I a4,I a5] 28)]) Kp),K⟩
   refine q04 [_,_] H G G G Ku Ts25 G Kf Kf (q00 G) ?_;intro w H;refine NA (q0k (fuel:=0) [1,3] G Kr (ST (q08 H G Km Ta28 Ts28 Kf) G ?_));refine q04 [_,_] H G G G Ku Ts28 G Kf Kf (q00 G) ?_;intro w H;refine NA (q0f Kr ?_);exact MP ⟨_,G,(H.pick (L':=[.blk N (.cells #[Value.slice none 0 0,Value.slice none 0 0] 25), .blk O (.cells #[I a4,I a5] 28)]) Kp),K⟩
  rintro e w ⟨M,rfl,H,K⟩;refine TN (RT ?_);obtain rfl:=oI h;exact q0t G ⟨_,G,H.loadAgg Km Ta25 Ts25 Kf⟩ ⟨_,G,H.loadAgg Km Ta28 Ts28 Kf⟩ H.ext (⟨_,_,G,(q1a _ _ (fun _=>G)),q0U _ _⟩)
 subst Z;rw[if_neg l00] at h;refine SK (TN (SQ ?_));obtain⟨⟨a6,a7⟩,a8,h⟩:=bnd h;try dsimp only at h
 refine q0V (fun e w =>∃  (M:Mem),e=[(2,ptr N 0),(3,ptr O 0)]/\St w0 M0 M [.blk N (.cells #[U,Y] 25), .blk O (.cells #[I a6,I a7] 28)] w/\GlF (fun w =>∃m,w.cell? ⟨0,0,none⟩=some (.int .i64 m)) M/\SlS M 2 xenc46 U l1/\Sl M encB Y ak) ?_ ?_
 .
  refine q0x (m:=4) G G H ?_;intro w H;refine q0E (i:=0) (j:=1) Kr G G ?_ ?_
  .
   refine ST (q08 H G Km Ta25 Ts25 Kf) G ?_;refine NA (q0k (fuel:=0) [1,2,3] G Kr (q02 H (Y07 a8) G trivial (q00 G) G ?_));intro al M w H J hR;replace K:=K.mono J;replace u:=u.mono J;replace E:=E.mono J;try dsimp only at hR
   obtain rfl:=hR;refine q04 [_,_] H G G G Ku Ts25 G Kf (by simp only[l0b,l0i,(u).one.2,(E).one.2];rfl) (q00 G) ?_;intro w H;refine q04 [_,_] H G G G Ku Ts28 G Kf Kf (q00 G) ?_;intro w H;refine NA (q0f Kr ?_);exact MP ⟨_,G,(H.pick (L':=[.blk N (.cells #[U,Y] 25), .blk O (.cells #[I a6,I a7] 28)]) Kp),K,u,E⟩
  refine q02 H (Y07 a8) G trivial (q00 G) G ?_;intro al M w H J hR;replace K:=K.mono J;replace u:=u.mono J;replace E:=E.mono J;try dsimp only at hR
  obtain rfl:=hR;refine NA (q0k (fuel:=0) [0,2,3] G Kr (ST (q08 H G Km Ta25 Ts25 Kf) G ?_));refine q04 [_,_] H G G G Ku Ts25 G Kf (by simp only[l0b,l0i,(u).one.2,(E).one.2];rfl) (q00 G) ?_;intro w H;refine q04 [_,_] H G G G Ku Ts28 G Kf Kf (q00 G) ?_;intro w H;refine NA (q0f Kr ?_);exact MP ⟨_,G,(H.pick (L':=[.blk N (.cells #[U,Y] 25), .blk O (.cells #[I a6,I a7] 28)]) Kp),K,u,E⟩
 rintro e w ⟨M,rfl,H,K,u,E⟩;refine TN (RT ?_);obtain rfl:=oI h;exact q0t G ⟨_,G,H.loadAgg Km Ta25 Ts25 Kf⟩ ⟨_,G,H.loadAgg Km Ta28 Ts28 Kf⟩ H.ext (⟨_,_,G,u,E⟩)
theorem Y5w {p0:Ls}{O:Ls}{r:Ls}(h:Y3g p0 O=some r):Ct Tryz.prog 199 [S p0,S O] (fun M=>True) (fun v M=>v=S r):=by
 refine Ct.of Tryz.func199 (enters Tryz.func199 Kr G) G G G ?_;intro w0 M0 H hp;unfold Y3g at h;refine SQ (RG (AS G G (NL (TN (SQ (SQ ?_))))));obtain⟨o1,Y,h⟩:=bnd h;refine q0c (fun e w =>∃(b3:Bool) (M:Mem),e=[(0,S p0),(1,S O),(12,Value.bool b3)]/\St w0 M0 M [] w/\some b3=some o1) [] ?_ ?_ (trivial)
 .
  by_cases K:p0=[]
  .
   rw[if_pos K] at Y;refine RG (MV G G (DT K (q0B G G) G (MV G G (GT G G G (GT G G G (PT G G G (NL ?_)))))));exact MN ⟨_,_,G,H,Y⟩
  rw[if_neg K] at Y;refine RG (MV G G (DF K (q0B G G) G (MV G G (SG (q06 G) G G G (SG (q0B G G) G G G (PF G G G (NL ?_)))))));exact MN ⟨_,_,G,H,Y⟩
 rintro e w ⟨b3,M,rfl,H,q5⟩;obtain rfl:=oI q5;refine TN ?_;refine q0a G (fun U=>?_) (fun U=>?_)
 .
  subst U;rw[if_pos rfl] at h;refine SQ (RG (MV G G (AS G G (NL (TN (RT ?_))))));obtain rfl:=oI h;exact q07 G G H.ext G
 subst U;rw[if_neg l00] at h;refine SK (TN (SQ (SQ ?_)));obtain⟨o7,N,h⟩:=bnd h;refine q0c (fun e w =>∃(b9:Bool) (M:Mem),e=[(0,S p0),(1,S O),(21,Value.bool b9)]/\St w0 M0 M [] w/\some b9=some o7) [] ?_ ?_ (trivial)
 .
  refine RG (MV G G (ST (q0g Tu9 G) G ?_));by_cases u:(O.length:Int)=(1:Int)
  .
   rw[if_pos u] at N;obtain⟨aa,Z,N⟩:=bnd N;refine DT u (q0u G G) G (MV G G (SG (q06 G) G G G (SG (q0p Tu9 G G Z) G G G (SG (Ex.lssB (i:=aa.toNat) (j:=128) G G) G G G (PT G G G (NL ?_))))));exact MN ⟨_,_,G,H,N⟩
  rw[if_neg u] at N;refine DF u (q0u G G) G (MV G G (q0i 3 G G (PF G G G (NL ?_))));exact MN ⟨_,_,G,H,N⟩
 rintro e w ⟨b9,M,rfl,H,ab⟩;obtain rfl:=oI ab;refine TN ?_;refine q0a G (fun E=>?_) (fun E=>?_)
 .
  subst E;rw[if_pos rfl] at h;refine SQ ?_;obtain⟨aj,a0,h⟩:=bnd h;obtain⟨ak,a5,h⟩:=bnd h;refine RG (MV G G (MV G G (ST (q0p Tu9 G G a0) G (q02 H (Y3C a5) G trivial (q00 G) G ?_))));intro al M w H V hR;obtain rfl:=hR;refine AS G G (NL (TN (RT ?_)));obtain rfl:=oI h;exact q07 G G H.ext G
 subst E;rw[if_neg l00] at h;refine SK (TN (SQ (SQ ?_)));obtain⟨⟨ac,am⟩,a6,h⟩:=bnd h;try dsimp only at h
 obtain⟨an,a1,h⟩:=bnd h;obtain⟨ao,a2,h⟩:=bnd h;refine RG (MV G G (q02 H (Y1R a6) G trivial (q00 G) G ?_));intro ap M w H V hR;try dsimp only at hR
 obtain rfl:=hR;refine MV G G (ST (q05 G G) G (ST (q05 G G) G (q09 (List.map encBo (List.replicate 256 false:List Bool)) H Tz143 Kr (q00 G) G ?_)));intro ad w H;refine q1z (l2:=ac) H G G (fun _=>G) (fun _=>by repeat first|exact .head|apply Upd.tail) a1 a2 Ts143 (q00 G) ?_;intro w H;refine AS G G (NL (TN (SQ (RG (MV G G (NL (TN ?_)))))));refine q0a G (fun J=>?_) (fun J=>?_)
 .
  subst J;rw[if_pos rfl] at h;refine SQ ?_;obtain⟨aq,a7,h⟩:=bnd h;refine RG (MV G G ?_);obtain⟨M,V,a8,H⟩:=H.freezeVar (b:=ad) Kv;refine q02 H (Y3s a7) G (a8) (q00 G) G ?_;intro ar M w H V hR;obtain rfl:=hR;refine AS G G (NL (TN (RT ?_)));obtain rfl:=oI h;exact q07 G G H.ext G
 subst J;rw[if_neg l00] at h;cases h
theorem Y2M {p0:Ls}{u:Nat}{r:Ls}(h:Y19 p0=some r):CtX Tryz.prog 165 [ptr u 0] [.blk u (.cells #[S p0] 235)] (fun M=>True) (fun v M its=>v=Value.tuple #[]/\its=[.blk u (.cells #[S r] 235)]):=by
 refine q0W Tryz.func165 (enters Tryz.func165 Kr G) G G G ?_;intro N M0 H hp;unfold Y19 at h;obtain⟨J,E,h⟩:=bnd h;refine RG (MV G G (MV G G (FN G G Tu235 G Ts9 G G (ST (XL H Ta9) G ?_))));refine q02 H (Y5w E) G trivial (q00 G) G ?_;intro O M w H K hR;obtain rfl:=hR;refine FN G G Tu235 G Ts9 G G (q04 [_] H G G G Ku Ts9 G Kf Kf (q00 G) ?_);intro w H;refine NL ?_;obtain rfl:=oI h;exact WQ.endX0 (its:=[.blk u (.cells #[S J] 235)]) G H Kp ⟨G,G⟩
theorem Y2m {p0:Ls}{V:(UInt8->Option Bool)}{u:Nat}{K:Value}{r:(Ls × Ls)}(h:Y1e p0 V=some r):CtX Tryz.prog 161 [ptr u 0,K] [.blk u (.cells #[S p0] 235)] (fun M=>FnT82 M K V) (fun v M its=>v=S r.1/\its=[.blk u (.cells #[S r.2] 235)]):=by
 refine q0W Tryz.func161 (enters Tryz.func161 Kr G) G G G ?_;intro w0 M0 H hp;have E:=hp;unfold Y1e at h;refine SQ (RG (AS G G (NL (TN (SQ ?_)))));obtain⟨Y,aa,h⟩:=bnd h;refine RG (MV G G ?_);refine q0q (A:=[.blk u (.cells #[S p0] 235)]) (B:=[]) (H.pick (L':=[.blk u (.cells #[S p0] 235)]) Kp) (Y2M aa) (.left (q0r _)) G trivial (q00 G) G ?_;intro v8 M w its H Z hR;replace E:=E.mono Z;obtain⟨rfl,rfl⟩:=hR;simp only[l02,l03] at H;refine NL (TN (SQ (RG (AS G G (NL (TN (SQ ?_)))))));obtain⟨o3,J,h⟩:=bnd h;refine q0c (fun e w =>∃(n5:Int) (M:Mem),e=[(0,ptr u 0),(5,I n5)]/\StX (feet [.blk u (.cells #[S p0] 235)]) w0 M0 M [.blk u (.cells #[S Y] 235)] w/\some n5=some o3) [] ?_ ?_ (trivial)
 .
  refine BL (q0l (fun m e w =>∃(n6:Int) (M:Mem),e=[(0,ptr u 0),(1,K),(5,I n6)]/\StX (feet [.blk u (.cells #[S p0] 235)]) w0 M0 M [.blk u (.cells #[S Y] 235)] w/\FnT82 M K V/\Y0E V Y m n6=some o3) FU [(0,_),(1,_),(5,_)] ⟨rfl,rfl,rfl,trivial⟩ ⟨_,_,rfl,H,E,J⟩ ?_);rintro m7 e w ⟨n6,M,rfl,H,E,J⟩;rcases m7 with _|m7
  . rw[Y0E] at J;cases J
  rw[Y0E] at J;refine SQ (SQ ?_);obtain⟨o8,O,J⟩:=bnd J;refine q0c (fun e w =>∃(a1:Bool) (M:Mem),e=[(0,ptr u 0),(1,K),(5,I n6),(25,Value.bool a1)]/\StX (feet [.blk u (.cells #[S p0] 235)]) w0 M0 M [.blk u (.cells #[S Y] 235)] w/\FnT82 M K V/\some a1=some o8) [] ?_ ?_ (trivial)
  .
   refine RG (MV G G (MV G G (FN G G Tu235 G Ts9 G G (ST (XL H Ta9) G ?_))));refine ST (q0g Tu9 G) G ?_;by_cases N:n6<(Y.length:Int)
   .
    rw[if_pos N] at O;obtain⟨ai,a2,O⟩:=bnd O;obtain⟨aj,a9,O⟩:=bnd O;refine DT N (q0m G G) G (MV G G (SG (q06 G) G G G (SG (q06 G) G G G (SG (q0S G) G G G (SG (q01 Tu235 G Ts9 Dc G) G G G (SG (XL H Ta9) G G G ?_))))));refine SG (q06 G) G G G (SG (q0p Tu9 G G a2) G G G (WR.callF H (E _ _ a9) G G (q0h G G G) G ?_));intro ak M w H Z hR;replace E:=E.mono Z;obtain rfl:=hR;refine PT G G G (NL ?_);exact MN ⟨_,_,G,H,E,O⟩
   rw[if_neg N] at O;refine DF N (q0m G G) G (MV G G (q0i 8 G G (PF G G G (NL ?_))));exact MN ⟨_,_,G,H,E,O⟩
  rintro e w ⟨a1,M,rfl,H,E,ac⟩;obtain rfl:=oI ac;refine TN ?_;refine q0a G (fun U=>?_) (fun U=>?_)
  .
   subst U;rw[if_pos rfl] at J;refine SK (TN (BL ?_));obtain⟨al,a3,J⟩:=bnd J;refine RG (MV G G (ST (q0e G G a3) G (AS G G (NL (IB ?_)))));exact AG m7 ⟨_,_,G,H,E,J⟩ (l06 _)
  subst U;rw[if_neg l00] at J;refine q0j (q03 (q03 (q0b ?_)));exact MN ⟨_,_,G,H,J⟩
 rintro e w ⟨n5,M,rfl,H,ad⟩;obtain rfl:=oI ad;refine TN (SQ ?_);obtain⟨am,a4,h⟩:=bnd h;refine RG (MV G G (FN G G Tu235 G Ts9 G G (ST (XL H Ta9) G ?_)));refine MV G G (ST (q1y Tu9 G G a4) G (AS G G (NL (TN (SQ ?_)))));obtain⟨ae,a5,h⟩:=bnd h;refine RG (MV G G (MV G G (FN G G Tu235 G Ts9 G G (ST (XL H Ta9) G ?_))));refine MV G G (ST (q1f Tu9 G G a5) G (FN G G Tu235 G Ts9 G G (q04 [_] H G G G Ku Ts9 G Kf Kf (q00 G) ?_)));intro w H;refine NL (TN (SQ (RG (MV G G (AS G G (NL (TN (RT ?_))))))));obtain rfl:=oI h;exact q0T (its:=[.blk u (.cells #[S ae] 235)]) G G H Kp ⟨G,G⟩
theorem Y1G {p0:UInt8}{r:Bool}(h:Y0X p0=some r):Ct Tryz.prog 162 [encB p0] (fun M=>True) (fun v M=>v=Value.bool r):=by
 refine Ct.of Tryz.func162 (enters Tryz.func162 Kr G) G G G ?_;intro O M0 H hp;unfold Y0X at h;refine SQ (RG (AS G G (NL (TN (SQ ?_)))));obtain⟨U,u,h⟩:=bnd h;refine q0c (fun e w =>∃(K:Bool) (M:Mem),e=[(2,Value.bool K)]/\St O M0 M [] w/\some K=some U) [] ?_ ?_ (trivial)
 .
  by_cases E:33<=p0.toNat
  .
   rw[if_pos E] at u;refine RG (MV G G (DT E (q1g (i:=p0.toNat) (j:=33) G G) G (MV G G (SG (q06 G) G G G ?_))));by_cases J:p0.toNat<=126
   .
    rw[if_pos J] at u;obtain⟨n6,N,u⟩:=bnd u;refine DU J (Ex.leqB (i:=p0.toNat) (j:=126) G G) G G G (PT G G G (MV G G (SG (q06 G) G G G (q02 H (Y36 N) G trivial (q0h G G G) G ?_))));intro Y M w H Z hR;obtain rfl:=hR;refine SG (q0m G G) G G G (PT G G G (AS G G (NL ?_)));exact MN ⟨_,_,G,H,u⟩
   rw[if_neg J] at u;refine DG J (Ex.leqB (i:=p0.toNat) (j:=126) G G) G G G (PT G G G (MV G G (q0i 3 G G (PF G G G (AS G G (NL ?_))))));exact MN ⟨_,_,G,H,u⟩
  rw[if_neg E] at u;refine RG (MV G G (DF E (q1g (i:=p0.toNat) (j:=33) G G) G (MV G G (GF G G G (GF G G G (PF G G G (MV G G (q0i 3 G G (PF G G G (AS G G (NL ?_)))))))))));exact MN ⟨_,_,G,H,u⟩
 rintro e w ⟨K,M,rfl,H,V⟩;obtain rfl:=oI V;refine TN (RT ?_);obtain rfl:=oI h;exact q07 G G H.ext G
theorem Y2n {p0:Ls}{O:UInt8}{u:Nat}{r:(Bool × Ls)}(h:Y1f p0 O=some r):CtX Tryz.prog 163 [ptr u 0,encB O] [.blk u (.cells #[S p0] 235)] (fun M=>True) (fun v M its=>v=Value.bool r.1/\its=[.blk u (.cells #[S r.2] 235)]):=by
 refine q0W Tryz.func163 (enters Tryz.func163 Kr G) G G G ?_;intro w0 M0 H hp;unfold Y1f at h;refine SQ (RG (AS G G (NL (TN (SQ ?_)))));obtain⟨U,Z,h⟩:=bnd h;refine RG (MV G G ?_);refine q0q (A:=[.blk u (.cells #[S p0] 235)]) (B:=[]) (H.pick (L':=[.blk u (.cells #[S p0] 235)]) Kp) (Y2M Z) (.left (q0r _)) G trivial (q00 G) G ?_;intro v6 M w its H a5 hR;obtain⟨rfl,rfl⟩:=hR;simp only[l02,l03] at H;refine NL (TN (SQ (SQ ?_)));obtain⟨o3,J,h⟩:=bnd h;refine q0c (fun e w =>∃(V:Bool) (M:Mem),e=[(0,ptr u 0),(20,Value.bool V)]/\StX (feet [.blk u (.cells #[S p0] 235)]) w0 M0 M [.blk u (.cells #[S U] 235)] w/\some V=some o3) [] ?_ ?_ (trivial)
 .
  refine RG (MV G G (FN G G Tu235 G Ts9 G G (ST (XL H Ta9) G ?_)));by_cases E:U=[]
  .
   rw[if_pos E] at J;refine DT E (q0B G G) G (MV G G (q0i 7 G G (PT G G G (NL ?_))));exact MN ⟨_,_,G,H,J⟩
  rw[if_neg E] at J;obtain⟨c7,Y,J⟩:=bnd J;refine DF E (q0B G G) G (MV G G (SG (q06 G) G G G (SG (q0S G) G G G (SG (q01 Tu235 G Ts9 Dc G) G G G (SG (XL H Ta9) G G G ?_)))));refine SG (q0p Tu9 G G Y) G G G (SG (q06 G) G G G (SG (Ex.neqB (c:=c7) (d:=O) G G) G G G (PF G G G (NL ?_))));exact MN ⟨_,_,G,H,J⟩
 rintro e w ⟨V,M,rfl,H,q8⟩;obtain rfl:=oI q8;refine TN ?_;refine q0a G (fun K=>?_) (fun K=>?_)
 .
  subst K;rw[if_pos rfl] at h;refine SQ (RG (AS G G (NL (TN (RT ?_)))));obtain rfl:=oI h;exact q0T (its:=[.blk u (.cells #[S U] 235)]) G G H Kp ⟨G,G⟩
 subst K;rw[if_neg l00] at h;refine SK (TN (SQ ?_));obtain⟨a0,N,h⟩:=bnd h;refine RG (MV G G (MV G G (FN G G Tu235 G Ts9 G G (ST (XL H Ta9) G ?_))));refine ST (q1f Tu9 G G N) G (FN G G Tu235 G Ts9 G G (q04 [_] H G G G Ku Ts9 G Kf Kf (q00 G) ?_));intro w H;refine NL (TN (SQ (RG (AS G G (NL (TN (RT ?_)))))));obtain rfl:=oI h;exact q0T (its:=[.blk u (.cells #[S a0] 235)]) G G H Kp ⟨G,G⟩
theorem Y4X {p0:UInt8}{r:Bool}(h:Y23 p0=some r):Ct Tryz.prog 195 [encB p0] (fun M=>True) (fun v M=>v=Value.bool r):=by
 refine Ct.of Tryz.func195 (enters Tryz.func195 Kr G) G G G ?_;intro K M0 H hp;unfold Y23 at h;refine SQ (RG (AS G G (NL (TN (SQ ?_)))));obtain⟨N,u,h⟩:=bnd h;refine q0c (fun e w =>∃(E:Bool) (M:Mem),e=[(2,Value.bool E)]/\St K M0 M [] w/\some E=some N) [] ?_ ?_ (trivial)
 .
  obtain⟨O,J,u⟩:=bnd u;refine RG (MV G G (q02 H (Y1G J) G trivial (q00 G) G ?_));intro Y M w H V hR;obtain rfl:=hR;refine MV G G ?_;rcases O with _|_
  .
   rw[if_neg l00] at u;refine SG (q06 G) G G G (SG (q0L (c:=p0) (d:=42) G G) G G G (PF G G G (AS G G (NL ?_))));exact MN ⟨_,_,G,H,u⟩
  rw[if_pos rfl] at u;refine GT G G G (GT G G G (PT G G G (AS G G (NL ?_))));exact MN ⟨_,_,G,H,u⟩
 rintro e w ⟨E,M,rfl,H,U⟩;obtain rfl:=oI U;refine TN (RT ?_);obtain rfl:=oI h;exact q07 G G H.ext G
theorem Y4N {p0:UInt8}{r:Bool}(h:Y1L p0=some r):Ct Tryz.prog 225 [encB p0] (fun M=>True) (fun v M=>v=Value.bool r):=by
 refine Ct.of Tryz.func225 (enters Tryz.func225 Kr G) G G G ?_;intro O M0 H hp;unfold Y1L at h;refine SQ (RG (AS G G (NL (TN (SQ ?_)))));obtain⟨U,u,h⟩:=bnd h;refine q0c (fun e w =>∃(K:Bool) (M:Mem),e=[(2,Value.bool K)]/\St O M0 M [] w/\some K=some U) [] ?_ ?_ (trivial)
 .
  obtain⟨V,N,u⟩:=bnd u;refine RG (MV G G (q02 H (Y1G N) G trivial (q00 G) G ?_));intro v4 M w H Z hR;obtain rfl:=hR;refine MV G G ?_;rcases V with _|_
  .
   rw[if_neg l00] at u;by_cases E:p0=37
   .
    rw[if_pos E] at u;refine SG (q06 G) G G G (DU E (q0L (c:=p0) (d:=37) G G) G G G (PF G G G (MV G G (GT G G G (GT G G G (PT G G G (MV G G (GT G G G (GT G G G (PT G G G (AS G G (NL ?_))))))))))));exact MN ⟨_,_,G,H,u⟩
   rw[if_neg E] at u;refine SG (q06 G) G G G (DG E (q0L (c:=p0) (d:=37) G G) G G G (PF G G G (MV G G (SG (q06 G) G G G ?_))));by_cases J:p0=39
   .
    rw[if_pos J] at u;refine DU J (q0L (c:=p0) (d:=39) G G) G G G (PF G G G (MV G G (GT G G G (GT G G G (PT G G G (AS G G (NL ?_)))))));exact MN ⟨_,_,G,H,u⟩
   rw[if_neg J] at u;refine DG J (q0L (c:=p0) (d:=39) G G) G G G (PF G G G (MV G G (SG (q06 G) G G G (SG (q0L (c:=p0) (d:=42) G G) G G G (PF G G G (AS G G (NL ?_)))))));exact MN ⟨_,_,G,H,u⟩
  rw[if_pos rfl] at u;refine GT G G G (GT G G G (PT G G G (MV G G (GT G G G (GT G G G (PT G G G (MV G G (GT G G G (GT G G G (PT G G G (AS G G (NL ?_))))))))))));exact MN ⟨_,_,G,H,u⟩
 rintro e w ⟨K,M,rfl,H,Y⟩;obtain rfl:=oI Y;refine TN (RT ?_);obtain rfl:=oI h;exact q07 G G H.ext G
theorem Y57 {p0:Ls}{E:Nat}{r:(Ls × Bool × Ls)}(h:Y1E p0=some r):CtX Tryz.prog 196 [ptr E 0] [.blk E (.cells #[S p0] 235)] (fun M=>True) (fun v M its=>v=Value.tuple #[S r.1,Value.bool r.2.1]/\its=[.blk E (.cells #[S r.2.2] 235)]):=by
 refine q0W Tryz.func196 (enters Tryz.func196 Kr G) G G G ?_;intro w0 M0 H hp;unfold Y1E at h;refine SQ (RG (AS G G (AS G G (NL (TN (SQ (SQ ?_)))))));obtain⟨⟨b1,o2⟩,am,h⟩:=bnd h;try dsimp only at h
 refine RG (MV G G ?_);refine q0q (A:=[.blk E (.cells #[S p0] 235)]) (B:=[]) (H.pick (L':=[.blk E (.cells #[S p0] 235)]) Kp) (Y2n am) (.left (q0r _)) G trivial (q00 G) G ?_;intro v8 M w its H a0 hR;try dsimp only at hR
 obtain⟨rfl,rfl⟩:=hR;simp only[l02,l03] at H;refine ST (q0y G) G (NL (TN ?_));refine q0a G (fun J=>?_) (fun J=>?_)
 .
  replace J:b1=false:=by simpa using J
  subst J;rw[if_neg l00] at h;refine SQ ?_;obtain⟨⟨s5,o6⟩,an,h⟩:=bnd h;try dsimp only at h
  refine RG (MV G G ?_);refine q0q (A:=[.blk E (.cells #[S o2] 235)]) (B:=[]) (H.pick (L':=[.blk E (.cells #[S o2] 235)]) Kp) (Y2m an) (.left (q0r _)) G ((fun _ _ h=>FnV.of (Y4N h) (fun _ _=>trivial))) (q00 G) G ?_;intro aw M w its H a0 hR;try dsimp only at hR
  obtain⟨rfl,rfl⟩:=hR;simp only[l02,l03] at H;refine AS G G (AS G G (NL (TN (RT ?_))));obtain rfl:=oI h;exact q0Z (its:=[.blk E (.cells #[S o6] 235)]) G G G H Kp ⟨G,G⟩
 replace J:b1=true:=by simpa using J
 subst J;rw[if_pos rfl] at h;refine SK (TN (SQ (RG (AS G G (NL (TN (SQ (SQ (RG (AS G G (NL (TN ?_))))))))))));obtain⟨o8,u,h⟩:=bnd h;refine q0c (fun e w =>∃(a1:Ls) (M:Mem),e=[]/\StX (feet [.blk E (.cells #[S p0] 235)]) w0 M0 M [.blk E (.cells #[S a1] 235)] w/\some (.inl a1)=some o8) [] ?_ ?_ (trivial)
 .
  refine BL ?_;replace H:=H.newRow 5 encB;refine q0l (fun m e w =>∃(K:Ls) (N:Ls) (a2:Value) (a3:Int) (M:Mem),e=[(0,ptr E 0),(4,a2),(5,I a3)]/\StX (feet [.blk E (.cells #[S p0] 235)]) w0 M0 M [.blk E (.cells #[S K] 235),RowI 5 encB a2 N] w/\Y0x  m K N a3=some o8) FU [(0,_),(4,_),(5,_)] ⟨rfl,rfl,rfl,trivial⟩ ⟨_,_,_,_,_,rfl,(H.pick (L':=[.blk E (.cells #[S o2] 235),RowI 5 encB (Value.slice none 0 0) []]) Kp),u⟩ ?_;rintro a4 e w ⟨K,N,a2,a3,M,rfl,H,u⟩;rcases a4 with _|a4
  . rw[Y0x] at u;cases u
  rw[Y0x] at u;refine SQ (SQ (RG (MV G G (MV G G (FN G G Tu235 G Ts9 G G (ST (XL H Ta9) G ?_))))));refine ST (q0g Tu9 G) G (ST (q0m G G) G (NL (TN ?_)));refine CB (p:=a3<(K.length:Int)) G (fun U=>?_) fun U=>?_
  .
   rw[if_pos U] at u;refine SK (TN (SQ (BL (SQ ?_))));obtain⟨O,a5,u⟩:=bnd u;refine RG (MV G G (FN G G Tu235 G Ts9 G G (ST (XL H Ta9) G ?_)));refine MV G G (ST (q0p Tu9 G G a5) G (AS G G (NL (TN (SQ (RG (MV G G (NL (TN (BL (SQ (RG (ST (q0L (c:=O) (d:=34) G G) G (AS G G (NL (TN ?_))))))))))))))));refine CB (p:=O=34) G (fun V=>?_) fun V=>?_
   .
    rw[if_pos V] at u;refine SQ ?_;obtain⟨ax,a6,u⟩:=bnd u;obtain⟨ap,a7,u⟩:=bnd u;refine RG (MV G G (MV G G (FN G G Tu235 G Ts9 G G (ST (XL H Ta9) G ?_))));refine MV G G (ST (q0e G G a6) G (ST (q1f Tu9 G G a7) G (FN G G Tu235 G Ts9 G G (q04 [_] H G G G Ku Ts9 G Kf Kf (q00 G) ?_))));intro w H;refine NL (TN (SQ (RG (MV G G ?_))));obtain⟨M,a0,ah,H⟩:=H.freezeRowN (v:=a2) (enc:=encB) (t:=5) Kv ⟨⟨_,Km⟩,trivial⟩;refine ST (q0Y Tu23 Tu5 Tu9 H (ah) G) G (AS G G (AS G G (NL (TN (RT ?_)))));obtain rfl:=oI u;try dsimp only at h
    obtain rfl:=oI h;exact q0Z (its:=[.blk E (.cells #[S ap] 235)]) G G G H Kp ⟨G,G⟩
   rw[if_neg V] at u;refine SQ (RG (ST (q0L (c:=O) (d:=92) G G) G (AS G G (NL (TN ?_)))));refine CB (p:=O=92) G (fun Y=>?_) fun Y=>?_
   .
    rw[if_pos Y] at u;refine SQ (SQ ?_);obtain⟨aq,a8,u⟩:=bnd u;refine RG (MV G G (ST (q0e G G a8) G (AS G G (NL (TN (SQ (RG (MV G G (MV G G (FN G G Tu235 G Ts9 G G (ST (XL H Ta9) G ?_)))))))))));refine ST (q0g Tu9 G) G (ST (q0u G G) G (NL (TN ?_)));refine CB (p:=aq=(K.length:Int)) G (fun Z=>?_) fun Z=>?_
    .
     rw[if_pos Z] at u;refine SQ (RG (AS G G (AS G G (NL (TN (RT ?_))))));obtain rfl:=oI u;try dsimp only at h
     obtain rfl:=oI h;exact q0Z (its:=[.blk E (.cells #[S K] 235)]) G G G H Kp ⟨G,G⟩
    rw[if_neg Z] at u;refine SK (TN ?_);obtain⟨ar,a9,u⟩:=bnd u;obtain⟨ay,aa,u⟩:=bnd u;refine RG (MV G G (MV G G (FN G G Tu235 G Ts9 G G (ST (XL H Ta9) G ?_))));refine MV G G (ST (q0p Tu9 G G a9) G (q0O (enc:=encB) xty23 ([ar]:Ls) H G Kf (fun _=>G) G G (q00 G) G ?_));intro az M w H a0 ai;refine q0H (l:=N) xty23 G (fun _=>G) H G (fun _=>by repeat first|exact .head|apply Upd.tail) G (ai) aa (q00 G) G ?_;intro b0 w H;refine AS G G (NL (IB (IB (TN ?_))));obtain⟨b2,ab,u⟩:=bnd u;refine RG (MV G G (ST (q0e G G ab) G (AS G G (NL ?_))));exact AG a4 ⟨_,_,_,_,_,G,H,u⟩ (l06 _)
   rw[if_neg Y] at u;obtain⟨b3,ac,u⟩:=bnd u;refine RG (MV G G (MV G G (q0O (enc:=encB) xty23 ([O]:Ls) H G Kf (fun _=>G) G G (q00 G) G ?_)));intro b4 M w H a0 aj;refine q0H (l:=N) xty23 G (fun _=>G) H G (fun _=>by repeat first|exact .head|apply Upd.tail) G (aj) ac (q00 G) G ?_;intro b5 w H;refine AS G G (NL (IB (IB (TN ?_))));obtain⟨b6,ad,u⟩:=bnd u;refine RG (MV G G (ST (q0e G G ad) G (AS G G (NL ?_))));exact AG a4 ⟨_,_,_,_,_,G,H,u⟩ (l06 _)
  rw[if_neg U] at u;refine q0j (q03 (q03 (q0b ?_)));exact MN ⟨_,_,G,(H.pick (L':=[.blk E (.cells #[S K] 235)]) Kp),u⟩
 rintro e w ⟨a1,M,rfl,H,au⟩;obtain rfl:=oI au;try dsimp only at h
 refine TN (SQ (RG (AS G G (AS G G (NL (TN (RT ?_)))))));obtain rfl:=oI h;exact q0Z (its:=[.blk E (.cells #[S a1] 235)]) G G G H Kp ⟨G,G⟩
theorem Y2w {p0:Ls}{J:Ls}{r:Bool}(h:Y0h p0 J=some r):Ct Tryz.prog 157 [S p0,S J] (fun M=>True) (fun v M=>v=Value.bool r):=by
 refine Ct.of Tf157 (enters Tf157 Kr G) G G G ?_;intro U M0 H hp;unfold Y0h at h;refine SQ (RG (AS G G (NL (TN (SQ ?_)))));obtain⟨V,u,h⟩:=bnd h;refine q0c (fun e w =>∃(K:Bool) (M:Mem),e=[(4,Value.bool K)]/\St U M0 M [] w/\some K=some V) [] ?_ ?_ (trivial)
 .
  refine RG (MV G G (ST (q0g Tu9 G) G (MV G G (ST (q0g Tu9 G) G ?_))));by_cases E:(J.length:Int)<=(p0.length:Int)
  .
   rw[if_pos E] at u;obtain⟨Z,N,u⟩:=bnd u;obtain⟨s6,O,u⟩:=bnd u;refine DT E (q0R G G) G (MV G G (SG (q06 G) G G G (SG (q06 G) G G G (SG (q0g Tu9 G) G G G (SG (q06 G) G G G (SG (q0g Tu9 G) G G G (SG (q0K G G N) G G G (SG (q1f Tu9 G G O) G G G (SG (q06 G) G G G (SG (q0B G G) G G G (PT G G G (AS G G (NL ?_)))))))))))));exact MN ⟨_,_,G,H,u⟩
  rw[if_neg E] at u;refine DF E (q0R G G) G (MV G G (q0i 9 G G (PF G G G (AS G G (NL ?_)))));exact MN ⟨_,_,G,H,u⟩
 rintro e w ⟨K,M,rfl,H,Y⟩;obtain rfl:=oI Y;refine TN (RT ?_);obtain rfl:=oI h;exact q07 G G H.ext G
theorem Y4G {p0:Ls}{K:Ls}{r:(Ls × Bool)}(h:Y1g p0 K=some r):Ct Tryz.prog 226 [S p0,S K] (fun M=>True) (fun v M=>v=Value.tuple #[S r.1,Value.bool r.2]):=by
 refine Ct.of Tryz.func226 (enters Tryz.func226 Kr G) G G G ?_;intro V M0 H hp;unfold Y1g at h;refine SQ (RG (AS G G (AS G G (NL (TN (SQ (SQ ?_)))))));obtain⟨N,O,h⟩:=bnd h;refine RG (MV G G (MV G G (q02 H (Y2w O) G trivial (q00 G) G ?_)));intro Y M w H U hR;obtain rfl:=hR;refine ST (q0y G) G (NL (TN ?_));refine q0a G (fun u=>?_) (fun u=>?_)
 .
  replace u:N=false:=by simpa using u
  subst u;rw[if_neg l00] at h;refine SQ (RG (MV G G (AS G G (AS G G (NL (TN (RT ?_)))))));obtain rfl:=oI h;exact q0t G G G H.ext G
 replace u:N=true:=by simpa using u
 subst u;rw[if_pos rfl] at h;refine SK (TN (SQ ?_));obtain⟨Z,E,h⟩:=bnd h;obtain⟨s5,J,h⟩:=bnd h;refine RG (MV G G (MV G G (ST (q0g Tu9 G) G (MV G G (ST (q0g Tu9 G) G (ST (q0K G G E) G (ST (q1y Tu9 G G J) G (AS G G (AS G G (NL (TN (RT ?_))))))))))));obtain rfl:=oI h;exact q0t G G G H.ext G
theorem Y5d {p0:Ls}{u:Ls}{r:(Ls × Bool)}(h:Y1v p0 u=some r):Ct Tryz.prog 197 [S p0,S u] (fun M=>True) (fun v M=>v=Value.tuple #[S r.1,Value.bool r.2]):=by
 refine Ct.of Tryz.func197 (enters Tryz.func197 Kr G) G G G ?_;intro K M0 H hp;unfold Y1v at h;refine SQ (RG (AS G G (AS G G (NL (TN (SQ ?_))))));obtain⟨⟨N,O⟩,E,h⟩:=bnd h;try dsimp only at h
 refine RG (MV G G (MV G G (q02 H (Y4G E) G trivial (q00 G) G ?_)));intro U M w H J hR;try dsimp only at hR
 obtain rfl:=hR;refine ST (q05 G G) G (ST (q05 G G) G (AS G G (AS G G (NL (TN (RT ?_))))));obtain rfl:=oI h;exact q0t G G G H.ext G
theorem Y63 {p0 : Ls}{p1 : Int}{r : (Int × Bool)}(h : Y3Q p0 p1 = some r): Ct Tryz.prog 198 [S p0, I p1] (fun M => GlF (fun w => ∃ tp p, w.var? Tryz.prog "strconv.ErrRange" = some #[.iface tp p]) M /\ GlF (fun w => ∃ tp p, w.var? Tryz.prog "strconv.ErrSyntax" = some #[.iface tp p]) M /\ GlF (fun w => Lib.TabIs Tryz.prog w "internal/strconv.uint64pow10" .u64 Lib.pow10Tab) M) (fun v M => v = Value.tuple #[I r.1, Value.bool r.2]) := by
 refine Ct.of Tryz.func198 (enters Tryz.func198 Kr G) G G G ?_;intro w0 M0 H hp;obtain⟨E,J,u⟩:=hp;unfold Y3Q at h;refine SQ (RG (AS G G (AS G G (NL (TN (SQ ?_))))));obtain⟨⟨n1,b2⟩,a2,h⟩:=bnd h;try dsimp only at h
 refine RG (MV G G (q02 H (strconv_Atoi_ct a2) G ⟨E,J⟩ (q00 G) G ?_));intro aa M w H N hR;replace E:=E.mono N;replace J:=J.mono N;replace u:=u.mono N;try dsimp only at hR
 obtain⟨a5,rfl,Y⟩:=hR;refine MV G G (ST (q05 G G) G (ST (q05 G G) G (AS G G (AS G G (NL (TN (SQ (SQ ?_))))))));obtain⟨o4,K,h⟩:=bnd h
 refine q0c (fun e w => ∃ (Z : Bool) (M : Mem), e = [(6, I n1), (29, Value.bool Z)] /\ St w0 M0 M [] w /\ GlF (fun w => ∃ tp p, w.var? Tryz.prog "strconv.ErrRange" = some #[.iface tp p]) M /\ GlF (fun w => ∃ tp p, w.var? Tryz.prog "strconv.ErrSyntax" = some #[.iface tp p]) M /\ GlF (fun w => Lib.TabIs Tryz.prog w "internal/strconv.uint64pow10" .u64 Lib.pow10Tab) M /\ some Z = some o4) [] ?_ ?_ (trivial)
 .
  refine RG (MV G G (ST (Ex.neqNil Tu175 Y G) G (MV G G ?_)));rcases b2 with _|_
  .
   rw[if_neg l00] at K;refine q0i 4 G G (PT G G G (MV G G (GT G G G (GT G G G (PT G G G (MV G G (q0i 3 G G (PT G G G (NL ?_)))))))));exact MN ⟨_,_,G,H,E,J,u,K⟩
  rw[if_pos rfl] at K;obtain⟨s7,a3,K⟩:=bnd K;refine SG (q06 G) G G G (q02 H (strconv_Itoa_ct a3) G (u) (q0h G G G) G ?_);intro ab M w H N hR;replace E:=E.mono N;replace J:=J.mono N;replace u:=u.mono N;obtain rfl:=hR;refine SG (q06 G) G G G ?_;by_cases V:s7=p0
  .
   rw[if_pos V] at K;refine q0D (v' := .bool false) (q1m G G) (congrArg Value.bool (by rw[decide_eq_true V];rfl)) (q0h G G G) G G ?_;refine PF G G G (MV G G (SG (q06 G) G G G ?_));by_cases O:n1<(0:Int)
   .
    rw[if_pos O] at K;refine DU O (q0m G G) G G G (PF G G G (MV G G (q0i 3 G G (PT G G G (NL ?_)))));exact MN ⟨_,_,G,H,E,J,u,K⟩
   rw[if_neg O] at K;refine DG O (q0m G G) G G G (PF G G G (MV G G (SG (q06 G) G G G (SG (q06 G) G G G (SG (q0C G G) G G G (PF G G G (NL ?_)))))));exact MN ⟨_,_,G,H,E,J,u,K⟩
  rw[if_neg V] at K;refine q0D (v' := .bool true) (q1m G G) (congrArg Value.bool (by rw[decide_eq_false V];rfl)) (q0h G G G) G G ?_;refine PF G G G (MV G G (GT G G G (GT G G G (PT G G G (MV G G (q0i 3 G G (PT G G G (NL ?_))))))));exact MN ⟨_,_,G,H,E,J,u,K⟩
 rintro e w ⟨Z,M,rfl,H,E,J,u,a4⟩;obtain rfl:=oI a4;refine TN ?_;refine q0a G (fun U=>?_) (fun U=>?_)
 .
  subst U;rw[if_pos rfl] at h;refine SQ (RG (AS G G (AS G G (NL (TN (RT ?_))))));obtain rfl:=oI h;exact q0t G G G H.ext G
 subst U;rw[if_neg l00] at h;refine SK (TN (SQ (RG (MV G G (AS G G (AS G G (NL (TN (RT ?_)))))))));obtain rfl:=oI h;exact q0t G G G H.ext G
theorem Y5e {p0 : Ls}{N : Nat}{r : ((Ls × Int × Bool × Ls) × Bool × Ls)}(h : Y2t p0 = some r): CtX Tryz.prog 164 [ptr N 0] [.blk N (.cells #[S p0] 235)] (fun M => GlF (fun w => ∃ tp p, w.var? Tryz.prog "strconv.ErrRange" = some #[.iface tp p]) M /\ GlF (fun w => ∃ tp p, w.var? Tryz.prog "strconv.ErrSyntax" = some #[.iface tp p]) M /\ GlF (fun w => ∃ m, w.cell? ⟨0, 0, none⟩ = some (.int .i64 m)) M /\ GlF (fun w => Lib.TabIs Tryz.prog w "internal/strconv.uint64pow10" .u64 Lib.pow10Tab) M) (fun v M its => v = Value.tuple #[Value.agg #[S r.1.1, I r.1.2.1, Value.bool r.1.2.2.1, S r.1.2.2.2], Value.bool r.2.1] /\ its = [.blk N (.cells #[S r.2.2] 235)]) := by
 refine q0W Tryz.func164 (enters Tryz.func164 Kr G) G G G ?_;intro w0 M0 H hp;obtain⟨E,J,U,u⟩:=hp;unfold Y2t at h;refine SQ (RG (q09 [_,_,_,_] H Tz239 G (q00 G) G ?_));intro O w H;refine AS G G (NL (TN (SQ ?_)));obtain⟨⟨s1,o2⟩,au,h⟩:=bnd h;try dsimp only at h
 refine RG (MV G G ?_);refine q0q (A:=[.blk N (.cells #[S p0] 235)]) (B:=[.blk O (.cells #[S [],I 0,Value.bool false,S []] 239)]) (H.pick (L':=[.blk N (.cells #[S p0] 235), .blk O (.cells #[S [],I 0,Value.bool false,S []] 239)]) Kp) (Y2m au) (.left (q0r _)) G ((fun _ _ h=>FnV.of (Y4X h) (fun _ _=>trivial))) (q00 G) G ?_;intro b5 M w its H K hR;replace E:=E.mono K;replace J:=J.mono K;replace U:=U.mono K;replace u:=u.mono K;try dsimp only at hR
 obtain⟨rfl,rfl⟩:=hR;simp only[l02,l03] at H;refine AS G G (NL (TN (SQ (SQ ?_))));obtain⟨⟨b4,o5⟩,aw,h⟩:=bnd h;try dsimp only at h
 refine RG (MV G G ?_);refine q0q (A:=[.blk N (.cells #[S o2] 235)]) (B:=[.blk O (.cells #[S [],I 0,Value.bool false,S []] 239)]) (H.pick (L':=[.blk N (.cells #[S o2] 235), .blk O (.cells #[S [],I 0,Value.bool false,S []] 239)]) Kp) (Y2n aw) (.left (q0r _)) G trivial (q00 G) G ?_;intro b6 M w its H K hR;replace E:=E.mono K;replace J:=J.mono K;replace U:=U.mono K;replace u:=u.mono K;try dsimp only at hR
 obtain⟨rfl,rfl⟩:=hR;simp only[l02,l03] at H;refine ST (q0y G) G (NL (TN ?_));refine q0a G (fun Z=>?_) (fun Z=>?_)
 .
  replace Z:b4=false:=by simpa using Z
  subst Z;rw[if_neg l00] at h;refine SQ (RG (ST (q0v [S [],I 0,Value.bool false,S []] Tu239 Tz239 (xplaces239 Tu239) G Kr) G (q04 [_,_,_,_] H G G G Ku Ts239 G Kf Kf (q00 G) ?_)));intro w H;refine AS G G (NL (TN (RT ?_)));obtain rfl:=oI h;exact q0Z (its:=[.blk N (.cells #[S o5] 235)]) G ⟨_,G,H.loadAgg Km Ta239 Ts239 Kf⟩ G H Kp ⟨G,G⟩
 replace Z:b4=true:=by simpa using Z
 subst Z;rw[if_pos rfl] at h;refine SK (TN (SQ ?_));obtain⟨⟨s8,b9,Y⟩,an,h⟩:=bnd h;try dsimp only at h
 refine RG (MV G G ?_);refine q0q (A:=[.blk N (.cells #[S o5] 235)]) (B:=[.blk O (.cells #[S [],I 0,Value.bool false,S []] 239)]) (H.pick (L':=[.blk N (.cells #[S o5] 235), .blk O (.cells #[S [],I 0,Value.bool false,S []] 239)]) Kp) (Y57 an) (.left (q0r _)) G trivial (q00 G) G ?_;intro b7 M w its H K hR;replace E:=E.mono K;replace J:=J.mono K;replace U:=U.mono K;replace u:=u.mono K;try dsimp only at hR
 obtain⟨rfl,rfl⟩:=hR;simp only[l02,l03] at H;refine MV G G (ST (q05 G G) G (ST (q05 G G) G (AS G G (AS G G (NL (TN (SQ (RG (MV G G (ST (q0v [S [],I (-1),Value.bool false,S s8] Tu239 Tz239 (xplaces239 Tu239) G Kr) G (q09 [_,_,_,_] H Tz239 G (q00 G) G ?_)))))))))));intro a0 w H;refine q04 [_,_,_,_] H G G G Ku Ts239 G Kf Kf (q00 G) ?_;intro w H;refine NL (TN (SQ ?_));obtain⟨⟨a1,b8,ba⟩,ao,h⟩:=bnd h;try dsimp only at h
 refine RG (MV G G (q02 H (Y5n ao) G (U) (q00 G) G ?_));intro bb M w H K hR;replace E:=E.mono K;replace J:=J.mono K;replace U:=U.mono K;replace u:=u.mono K;try dsimp only at hR
 obtain rfl:=hR;refine MV G G (ST (q05 G G) G (ST (q05 G G) G (ST (q05 G G) G (AS G G (AS G G (AS G G (NL (TN (SQ (RG (MV G G (ST (q01 Tu239 G Ts9 Dc G) G (q1d [_,_,_,_] H G G Ku Kf Ts9 (by first|decide|(simp;done)|(simp;omega)) Kf Kf (q00 G) ?_)))))))))))));intro w H;refine NL (TN (SQ (SQ (RG (MV G G (NL (TN ?_)))))));obtain⟨ax,V,h⟩:=bnd h
 refine q0c (fun e w => ∃ (a7 : Bool) (a2 : Ls) (a3 : Int) (a4 : Bool) (a5 : Ls) (M : Mem), e = [(2, ptr O 0), (6, Value.bool a7), (7, ptr a0 0), (8, S a1)] /\ StX (feet [.blk N (.cells #[S p0] 235)]) w0 M0 M [.blk O (.cells #[S [], I 0, Value.bool false, S []] 239), .blk a0 (.cells #[S a2, I a3, Value.bool a4, S a5] 239), .blk N (.cells #[S Y] 235)] w /\ GlF (fun w => ∃ tp p, w.var? Tryz.prog "strconv.ErrRange" = some #[.iface tp p]) M /\ GlF (fun w => ∃ tp p, w.var? Tryz.prog "strconv.ErrSyntax" = some #[.iface tp p]) M /\ GlF (fun w => ∃ m, w.cell? ⟨0, 0, none⟩ = some (.int .i64 m)) M /\ GlF (fun w => Lib.TabIs Tryz.prog w "internal/strconv.uint64pow10" .u64 Lib.pow10Tab) M /\ some (a7, a2, a3, a4, a5) = some ax) [] ?_ ?_ (trivial)
 .
  refine q0a G (fun a6=>?_) (fun a6=>?_)
  .
   subst a6;rw[if_pos rfl] at V;refine SQ ?_;obtain⟨⟨bc,ab⟩,ap,V⟩:=bnd V;try dsimp only at V
   refine RG (MV G G (q02 H (Y5d ap) G trivial (q00 G) G ?_));intro bd M w H K hR;replace E:=E.mono K;replace J:=J.mono K;replace U:=U.mono K;replace u:=u.mono K;try dsimp only at hR
   obtain rfl:=hR;refine MV G G (ST (q05 G G) G (ST (q05 G G) G (AS G G (ST (q01 Tu239 G Ts4 Dc G) G (q1d [_,_,_,_] H G G Ku Kf Ts4 (by first|decide|(simp;done)|(simp;omega)) Kf Kf (q00 G) ?_)))));intro w H;refine NL (TN (SQ ?_));obtain⟨⟨ac,be⟩,aq,V⟩:=bnd V;try dsimp only at V
   refine RG (MV G G (q02 H (Y63 aq) G ⟨E,J,u⟩ (q00 G) G ?_));intro bg M w H K hR;replace E:=E.mono K;replace J:=J.mono K;replace U:=U.mono K;replace u:=u.mono K;try dsimp only at hR
   obtain rfl:=hR;refine MV G G (ST (q05 G G) G (ST (q05 G G) G (AS G G (AS G G (NL (TN (SQ (RG (MV G G (ST (q01 Tu239 G Ts3 Dc G) G (q1d [_,_,_,_] H G G Ku Kf Ts3 (by first|decide|(simp;done)|(simp;omega)) Kf Kf (q00 G) ?_)))))))))));intro w H;refine NL (TN ?_);obtain⟨ay,a8,V⟩:=bnd V
   refine q0c (fun e w => ∃ (ad : Bool) (M : Mem), e = [(2, ptr O 0), (6, Value.bool ad), (7, ptr a0 0), (8, S a1)] /\ StX (feet [.blk N (.cells #[S p0] 235)]) w0 M0 M [.blk O (.cells #[S [], I 0, Value.bool false, S []] 239), .blk a0 (.cells #[S a1, I ac, Value.bool ab, S s8] 239), .blk N (.cells #[S Y] 235)] w /\ GlF (fun w => ∃ tp p, w.var? Tryz.prog "strconv.ErrRange" = some #[.iface tp p]) M /\ GlF (fun w => ∃ tp p, w.var? Tryz.prog "strconv.ErrSyntax" = some #[.iface tp p]) M /\ GlF (fun w => ∃ m, w.cell? ⟨0, 0, none⟩ = some (.int .i64 m)) M /\ GlF (fun w => Lib.TabIs Tryz.prog w "internal/strconv.uint64pow10" .u64 Lib.pow10Tab) M /\ some ad = some ay) [] ?_ ?_ (trivial)
   .
    refine RG (MV G G (MV G G ?_));rcases b9 with _|_
    .
     rw[if_neg l00] at a8;refine GF G G G (PF G G G (AS G G (NL ?_)));exact MN ⟨_,_,G,(H.pick (L':=[.blk O (.cells #[S [],I 0,Value.bool false,S []] 239), .blk a0 (.cells #[S a1,I ac,Value.bool ab,S s8] 239), .blk N (.cells #[S Y] 235)]) Kp),E,J,U,u,a8⟩
    rw[if_pos rfl] at a8;refine SG (q06 G) G G G (PT G G G (AS G G (NL ?_)));exact MN ⟨_,_,G,(H.pick (L':=[.blk O (.cells #[S [],I 0,Value.bool false,S []] 239), .blk a0 (.cells #[S a1,I ac,Value.bool ab,S s8] 239), .blk N (.cells #[S Y] 235)]) Kp),E,J,U,u,a8⟩
   rintro e w ⟨ad,M,rfl,H,E,J,U,u,az⟩;obtain rfl:=oI az;exact MN ⟨_,_,_,_,_,_,G,H,E,J,U,u,V⟩
  subst a6;rw[if_neg l00] at V;refine SK ?_;exact MN ⟨_,_,_,_,_,_,G,(H.pick (L':=[.blk O (.cells #[S [],I 0,Value.bool false,S []] 239), .blk a0 (.cells #[S a1,I (-1),Value.bool false,S s8] 239), .blk N (.cells #[S Y] 235)]) Kp),E,J,U,u,V⟩
 rintro e w ⟨a7,a2,a3,a4,a5,M,rfl,H,E,J,U,u,b0⟩;obtain rfl:=oI b0;try dsimp only at h
 refine TN (SQ ?_);obtain⟨b1,a9,h⟩:=bnd h
 refine q0c (fun e w => ∃ (ae : Ls) (ah : Int) (ai : Bool) (aj : Ls) (ak : Bool) (M : Mem), e = [(2, ptr O 0), (3, Value.bool ak)] /\ StX (feet [.blk N (.cells #[S p0] 235)]) w0 M0 M [.blk O (.cells #[S ae, I ah, Value.bool ai, S aj] 239), .blk N (.cells #[S Y] 235)] w /\ GlF (fun w => ∃ tp p, w.var? Tryz.prog "strconv.ErrRange" = some #[.iface tp p]) M /\ GlF (fun w => ∃ tp p, w.var? Tryz.prog "strconv.ErrSyntax" = some #[.iface tp p]) M /\ GlF (fun w => ∃ m, w.cell? ⟨0, 0, none⟩ = some (.int .i64 m)) M /\ GlF (fun w => Lib.TabIs Tryz.prog w "internal/strconv.uint64pow10" .u64 Lib.pow10Tab) M /\ some (ae, ah, ai, aj, ak) = some b1) [] ?_ ?_ (trivial)
 .
  refine RG (ST (q08 H G Km Ta239 Ts239 Kf) G ?_);refine MV G G (MV G G ?_);rcases a7 with _|_
  .
   rw[if_neg l00] at a9;refine GF G G G (GF G G G (PF G G G (q04 [_,_,_,_] H G G G Ku Ts239 G Kf Kf (q00 G) ?_)));intro w H;refine AS G G (NL ?_);exact MN ⟨_,_,_,_,_,_,G,(H.pick (L':=[.blk O (.cells #[S a2,I a3,Value.bool a4,S a5] 239), .blk N (.cells #[S Y] 235)]) Kp),E,J,U,u,a9⟩
  rw[if_pos rfl] at a9;refine SG (q06 G) G G G (SG (q1m G G) G G G (PT G G G (q04 [_,_,_,_] H G G G Ku Ts239 G Kf Kf (q00 G) ?_)));intro w H;refine AS G G (NL ?_);exact MN ⟨_,_,_,_,_,_,G,(H.pick (L':=[.blk O (.cells #[S a2,I a3,Value.bool a4,S a5] 239), .blk N (.cells #[S Y] 235)]) Kp),E,J,U,u,a9⟩
 rintro e w ⟨ae,ah,ai,aj,ak,M,rfl,H,E,J,U,u,b2⟩;obtain rfl:=oI b2;try dsimp only at h
 refine TN (RT ?_);obtain rfl:=oI h;exact q0Z (its:=[.blk N (.cells #[S Y] 235)]) G ⟨_,G,H.loadAgg Km Ta239 Ts239 Kf⟩ G H Kp ⟨G,G⟩
theorem Y4u {p0:List (Ls × Int × Bool × Ls)}{V:((Ls × Int × Bool × Ls)->Option Bool)}{K:Value}{N:Value}{r:Int}(h:Y27 p0 V=some r):Ct Tryz.prog 228 [K,N] (fun M=>SlS M 4 xenc239 K p0/\FnT280 M N V) (fun v M=>v=I r):=by
 refine Ct.of Tryz.func228 (enters Tryz.func228 Kr G) G G G ?_;intro w0 M0 H hp;obtain⟨E,J⟩:=hp;unfold Y27 at h;refine SQ (RG (AS G G (NL (TN (SQ (SQ (RG (MV G G (ST (q0N Tu237 E G) G (MV G G (NL (TN ?_))))))))))));obtain⟨o1,u,h⟩:=bnd h;refine q0c (fun e w =>∃  (M:Mem),e=[]/\St w0 M0 M [] w/\some (.inl ())=some o1) [] ?_ ?_ (trivial)
 .
  refine BL (q0l (fun m e w =>∃(Y:Int) (M:Mem),e=[(0,K),(1,N),(7,I (p0.length:Int)),(8,I Y)]/\St w0 M0 M [] w/\SlS M 4 xenc239 K p0/\FnT280 M N V/\Y0i p0 V m Y=some o1) FU [(0,_),(1,_),(7,_),(8,_)] ⟨rfl,rfl,rfl,rfl,trivial⟩ ⟨_,_,rfl,H,E,J,u⟩ ?_);rintro m4 e w ⟨Y,M,rfl,H,E,J,u⟩;rcases m4 with _|m4
  . rw[Y0i] at u;cases u
  rw[Y0i] at u;refine SQ (RG (ST (q0m G G) G (NL (TN (SQ ?_)))));refine CB (p:=Y<(p0.length:Int)) G (fun O=>?_) fun O=>?_
  .
   rw[if_pos O] at u;refine SK (TN (SQ (BL (SQ (RG (MV G G (AS G G (NL (TN (SQ ?_))))))))));obtain⟨a6,a2,u⟩:=bnd u;obtain⟨aa,ab,a3,a4⟩:=E.atC a2;obtain⟨b7,a8,u⟩:=bnd u;refine RG (MV G G (MV G G (MV G G (ST (q0s a3 Tu237 Ts239 G G) G (ST (q0G H G a4 Ta239 Ts239 Kf) G ?_)))));refine WR.callF H (J _ _ a8) G G (q00 G) G ?_;intro ac M w H a0 hR;replace E:=E.mono a0;replace J:=J.mono a0;obtain rfl:=hR;refine NL (TN ?_);refine q0a G (fun U=>?_) (fun U=>?_)
   .
    subst U;rw[if_pos rfl] at u;refine SQ (RG (MV G G (AS G G (NL (TN (RT ?_))))));obtain rfl:=oI u;try dsimp only at h
    obtain rfl:=oI h;exact q07 G G H.ext G
   subst U;rw[if_neg l00] at u;refine SK (IB (TN ?_));obtain⟨ad,Z,u⟩:=bnd u;refine RG (ST (q0e G G Z) G (MV G G (NL ?_)));exact AG m4 ⟨_,_,G,H,E,J,u⟩ (l06 _)
  rw[if_neg O] at u;refine q0j (q03 (q03 (q0b ?_)));exact MN ⟨_,G,H,u⟩
 rintro e w ⟨M,rfl,H,a9⟩;obtain rfl:=oI a9;try dsimp only at h
 refine TN (SQ (RG (AS G G (NL (TN (RT ?_))))));obtain rfl:=oI h;exact q07 G G H.ext G
theorem Y40 {p0:List (Ls × Int × Bool × Ls)}{J:((Ls × Int × Bool × Ls)->Option Bool)}{u:Value}{E:Value}{r:Bool}(h:Y0Y p0 J=some r):Ct Tryz.prog 201 [u,E] (fun M=>SlS M 4 xenc239 u p0/\FnT280 M E J) (fun v M=>v=Value.bool r):=by
 refine Ct.of Tryz.func201 (enters Tryz.func201 Kr G) G G G ?_;intro V M0 H hp;obtain⟨K,N⟩:=hp;unfold Y0Y at h;refine SQ (RG (AS G G (NL (TN (SQ ?_)))));obtain⟨Y,O,h⟩:=bnd h;refine RG (MV G G (MV G G (q02 H (Y4u O) G ⟨K,N⟩ (q00 G) G ?_)));intro Z M w H U hR;obtain rfl:=hR;refine ST (q0R G G) G (AS G G (NL (TN (RT ?_))));obtain rfl:=oI h;exact q07 G G H.ext G
theorem Y4H {p0:(Ls × Int × Bool × Ls)}{u:(Ls × Int × Bool × Ls)}{E:Nat}{r:Bool}(h:Y2i p0 u=some r):Ct Tryz.prog 200 [Value.agg #[S p0.1,I p0.2.1,Value.bool p0.2.2.1,S p0.2.2.2],ptr E 0] (fun M=>PtM M E (.cells #[S u.1,I u.2.1,Value.bool u.2.2.1,S u.2.2.2] 239)) (fun v M=>v=Value.bool r):=by
 refine Ct.of Tryz.func200 (enters Tryz.func200 Kr G) G G G ?_;intro U M0 H hp;have J:=hp;unfold Y2i at h;refine SQ (RG (q0F [_,_,_,_] H G G (q00 G) G ?_));intro N w H;refine AS G G (NL (TN (SQ ?_)));obtain⟨V,K,h⟩:=bnd h;refine RG (ST (q01 Tu239 G Ts9 Dc G) G (ST (XL H Ta9) G ?_));refine ST (q01 Tu239 G Ts9 Dc G) G (ST (q0n H G (J.cell (j:=0) G) Ta9) G (q02 H (Y18 K) G trivial (q00 G) G ?_));intro Y M w H O hR;obtain rfl:=hR;refine AS G G (NL (TN (RT ?_)));obtain rfl:=oI h;exact q07 G G H.ext G
theorem Y4f {p0:(Ls × Int × Bool × Ls)}{r:Ls}(h:Y2E p0=some r):Ct Tryz.prog 231 [Value.agg #[S p0.1,I p0.2.1,Value.bool p0.2.2.1,S p0.2.2.2]] (fun M=>True) (fun v M=>v=S r):=by
 refine Ct.of Tryz.func231 (enters Tryz.func231 Kr G) G G G ?_;intro w0 M0 H hp;unfold Y2E at h;refine SQ (RG (q0F [_,_,_,_] H G G (q00 G) G ?_));intro bg w H;refine AS G G (NL (TN (SQ (RG (ST (q01 Tu239 G Ts9 Dc G) G (ST (XL H Ta9) G ?_))))));refine AS G G (NL (TN (SQ (SQ (RG (ST (q01 Tu239 G Ts4 Dc G) G (ST (XL H Ta4) G ?_)))))));refine ST (q0y G) G (NL (TN ?_));refine q0a G (fun K=>?_) (fun K=>?_)
 .
  replace K:p0.2.2.1=false:=by simpa using K
  rw[if_neg (by rw[K];exact l00)] at h;refine SQ (RG (MV G G (AS G G (NL (TN (RT ?_))))));obtain rfl:=oI h;exact q07 G G H.ext G
 replace K:p0.2.2.1=true:=by simpa using K
 rw[if_pos K] at h;refine SK (TN (SQ (SQ ?_)));obtain⟨o2,N,h⟩:=bnd h;refine q0c (fun e w =>∃(b4:Bool) (M:Mem),e=[(3,S p0.2.2.2),(26,Value.bool b4)]/\St w0 M0 M [] w/\some b4=some o2) [] ?_ ?_ (trivial)
 .
  refine RG (ST (q01 Tu239 G Ts3 Dc G) G (ST (XL H Ta3) G ?_));by_cases a0:p0.2.1=(0:Int)
  .
   rw[if_pos a0] at N;refine DT a0 (q0u G G) G (MV G G (SG (q06 G) G G G (SG (q0g Tu9 G) G G G ?_)));by_cases a1:(6:Int)<=(p0.2.2.2.length:Int)
   .
    rw[if_pos a1] at N;obtain⟨s7,ay,N⟩:=bnd N;obtain⟨b8,b3,N⟩:=bnd N;refine DU a1 (q0R G G) G G G (PT G G G (MV G G (SG (q06 G) G G G (SG (q1y Tu9 G G ay) G G G (q02 H (Y18 b3) G trivial (q0h G G G) G ?_)))));intro bh M w H a2 hR;obtain rfl:=hR;refine PT G G G (NL ?_);exact MN ⟨_,_,G,(H.pick (L':=[]) Kp),N⟩
   rw[if_neg a1] at N;refine DG a1 (q0R G G) G G G (PT G G G (MV G G (q0i 3 G G (PF G G G (NL ?_)))));exact MN ⟨_,_,G,(H.pick (L':=[]) Kp),N⟩
  rw[if_neg a0] at N;refine DF a0 (q0u G G) G (MV G G (q0i 3 G G (PF G G G (MV G G (q0i 3 G G (PF G G G (NL ?_)))))));exact MN ⟨_,_,G,(H.pick (L':=[]) Kp),N⟩
 rintro e w ⟨b4,M,rfl,H,b5⟩;obtain rfl:=oI b5;refine TN ?_;obtain⟨b6,O,h⟩:=bnd h;refine q0c (fun e w =>∃(J:Ls) (M:Mem),e=[(3,S J)]/\St w0 M0 M [] w/\some J=some b6) [] ?_ ?_ (trivial)
 .
  refine q0a G (fun U=>?_) (fun U=>?_)
  .
   subst U;rw[if_pos rfl] at O;obtain⟨bi,ai,O⟩:=bnd O;refine RG (MV G G (ST (q1f Tu9 G G ai) G (AS G G (NL ?_))));exact MN ⟨_,_,G,H,O⟩
  subst U;rw[if_neg l00] at O;refine SK ?_;exact MN ⟨_,_,G,H,O⟩
 rintro e w ⟨J,M,rfl,H,b7⟩;obtain rfl:=oI b7;refine TN (SQ (RG (AS G G (NL (TN (SQ (SQ (RG (AS G G (NL (TN ?_)))))))))));obtain⟨au,u,h⟩:=bnd h;refine q0c (fun e w =>∃(a9:Ls) (a3:Value) (M:Mem),e=[(4,a3)]/\St w0 M0 M [RowI 5 encB a3 a9] w/\some a9=some au) [] ?_ ?_ (trivial)
 .
  refine BL ?_;replace H:=H.newRow 5 encB;refine q0l (fun m e w =>∃(a4:Ls) (aa:Value) (a5:Int) (M:Mem),e=[(3,S J),(4,aa),(5,I a5)]/\St w0 M0 M [RowI 5 encB aa a4] w/\Y0p J m a4 a5=some au) FU [(3,_),(4,_),(5,_)] ⟨rfl,rfl,rfl,trivial⟩ ⟨_,_,_,_,rfl,H,u⟩ ?_;rintro a6 e w ⟨a4,aa,a5,M,rfl,H,u⟩;rcases a6 with _|a6
  . rw[Y0p] at u;cases u
  rw[Y0p] at u;refine SQ (SQ (RG (MV G G (MV G G (ST (q0g Tu9 G) G (ST (q0m G G) G (NL (TN ?_))))))));refine CB (p:=a5<(J.length:Int)) G (fun V=>?_) fun V=>?_
  .
   rw[if_pos V] at u;refine SK (TN (SQ (BL (SQ (SQ ?_)))));obtain⟨av,aj,u⟩:=bnd u;refine RG (MV G G (MV G G (ST (q0p Tu9 G G aj) G (ST (q0L (c:=av) (d:=37) G G) G (NL (TN ?_))))));obtain⟨aw,E,u⟩:=bnd u;refine q0c (fun e w =>∃(a7:Ls) (ab:Value) (ac:Int) (M:Mem),e=[(3,S J),(4,ab),(5,I ac)]/\St w0 M0 M [RowI 5 encB ab a7] w/\some (.inl (a7,ac))=some aw) [(1,fun e w =>∃(ad:Ls) (ae:Value) (ah:Int) (M:Mem),e=[(3,S J),(4,ae),(5,I ah)]/\St w0 M0 M [RowI 5 encB ae ad] w/\some (.inr (ad,ah))=some aw)] ?_ ?_ (⟨?_,trivial⟩)
   .
    refine CB (p:=av=37) G (fun Y=>?_) fun Y=>?_
    .
     rw[if_pos Y] at E;refine SQ ?_;obtain⟨bj,ak,E⟩:=bnd E;obtain⟨bm,al,E⟩:=bnd E;obtain⟨⟨b9,bn⟩,az,E⟩:=bnd E;try dsimp only at E
     refine RG (MV G G (MV G G (ST (q0e G G ak) G (ST (q1f Tu9 G G al) G (q02 H (Y5B az) G trivial (q00 G) G ?_)))));intro bo M w H a2 hR;try dsimp only at hR
     obtain rfl:=hR;refine MV G G (ST (q05 G G) G (ST (q05 G G) G (AS G G (AS G G (NL (TN (SQ (RG (MV G G (NL (TN ?_)))))))))));refine q0a G (fun Z=>?_) (fun Z=>?_)
     .
      subst Z;rw[if_pos rfl] at E;refine SQ ?_;obtain⟨bp,am,E⟩:=bnd E;refine RG (MV G G (MV G G (q0O (enc:=encB) xty23 ([b9]:Ls) H G Kf (fun _=>G) G G (q00 G) G ?_)));intro bq M w H a2 b0;refine q0H (l:=a4) xty23 G (fun _=>G) H G (fun _=>by repeat first|exact .head|apply Upd.tail) G (b0) am (q00 G) G ?_;intro br w H;refine AS G G (NL (TN (SQ ?_)));obtain⟨bs,an,E⟩:=bnd E;refine RG (MV G G (ST (q0e G G an) G (AS G G (NL (TN (q0j ?_))))));exact WQ.meetX G [(3,_),(4,_),(5,_)] ⟨G,G,G,trivial⟩ ⟨_,_,_,_,G,H,E⟩
     subst Z;rw[if_neg l00] at E;refine SK ?_;exact MN ⟨_,_,_,_,G,H,E⟩
    rw[if_neg Y] at E;refine SK ?_;exact MN ⟨_,_,_,_,G,H,E⟩
   .
    rintro e w ⟨a7,ab,ac,M,rfl,H,ba⟩;obtain rfl:=oI ba;try dsimp only at u
    refine TN ?_;obtain⟨bb,ao,u⟩:=bnd u;obtain⟨bt,ap,u⟩:=bnd u;refine RG (MV G G (MV G G (MV G G (ST (q0p Tu9 G G ao) G (q0O (enc:=encB) xty23 ([bb]:Ls) H G Kf (fun _=>G) G G (q00 G) G ?_)))));intro bu M w H a2 b1;refine q0H (l:=a7) xty23 G (fun _=>G) H G (fun _=>by repeat first|exact .head|apply Upd.tail) G (b1) ap (q00 G) G ?_;intro bv w H;refine AS G G (NL (IB (TN ?_)));obtain⟨bw,aq,u⟩:=bnd u;refine RG (MV G G (ST (q0e G G aq) G (AS G G (NL ?_))));exact AG a6 ⟨_,_,_,_,G,H,u⟩ (l06 _)
   rintro e w ⟨ad,ae,ah,M,rfl,H,bc⟩;obtain rfl:=oI bc;try dsimp only at u
   refine q03 (q0b (TN ?_));obtain⟨bx,ar,u⟩:=bnd u;refine RG (MV G G (ST (q0e G G ar) G (AS G G (NL ?_))));exact AG a6 ⟨_,_,_,_,G,H,u⟩ (l06 _)
  rw[if_neg V] at u;refine q0j (q03 (q03 (q0b ?_)));exact MN ⟨_,_,_,G,H,u⟩
 rintro e w ⟨a9,a3,M,rfl,H,bd⟩;obtain rfl:=oI bd;refine TN (SQ (RG (MV G G ?_)));obtain⟨M,a2,b2,H⟩:=H.freezeRow (v:=a3) (enc:=encB) (t:=5) Kv;refine ST (q0Y Tu23 Tu5 Tu9 H (b2) G) G (AS G G (NL (TN (RT ?_))));obtain rfl:=oI h;exact q07 G G H.ext G
end Go.Proofs.YtkgohbecojnfaaaGreatDoor
end
section
namespace Go.Proofs.YtkgohbecojnfaaaGreatDoor
open Go Go.RowKit Go.Ph Go.Ph.Pl Go.Ph.Pf
theorem Y64 {p0:List (Ls × Int × Bool × Ls)}{u:Value}{r:((Ls × Ls) × Bool)}(h:Y3R p0=some r):CtX Tryz.prog 202 [u] [RowS 239 4 xenc239 u p0] (fun M=>Tabs M) (fun v M its=>v=Value.tuple #[Value.agg #[S r.1.1,S r.1.2],Value.bool r.2]/\its=[]):=by
 refine q0W Tryz.func202 (enters Tryz.func202 Kr G) G G G ?_;intro w0 M0 H hp;have Z:=hp;unfold Y3R at h;refine SQ (RG (q09 [_,_] H Tz109 G (q00 G) G ?_));intro N w H;refine AS G G (NL (TN (SQ ?_)));obtain⟨U,E,h⟩:=bnd h;obtain⟨Y,J,h⟩:=bnd h;refine q0V (fun e w =>∃(b3:Nat) (M:Mem),e=[(0,u),(2,ptr N 0),(4,ptr b3 0)]/\StX (feet [RowS 239 4 xenc239 u p0]) w0 M0 M [RowS 239 4 xenc239 u p0, .blk N (.cells #[S [],S []] 109), .blk b3 (.cells #[S U.1,S Y.2.2.2] 109)] w/\Tabs M) ?_ ?_
 .
  refine q0x (m:=11) G G H ?_;intro w H;refine TK 0 G (fun _=>q06 G) G (TK 4 G (fun _=>q06 G) G ?_);refine WA.three (i:=1) (j:=5) (k:=9) Kr G G G ?_ ?_ ?_
  .
   refine q0z (l:=p0) H Tu237 Ts239 Km G G E (q00 G) G ?_;intro g8 V;refine NA (TK 2 G (fun _=>q01 Tu239 G Ts9 Dc G) G ?_);refine WA.three (i:=3) (j:=5) (k:=9) Kr G G G ?_ ?_ ?_
   .
    refine ST (q0A (j:=0) H G V Km (fun _=>G) E G Ta9) G ?_;refine NA ?_;refine q0E (i:=5) (j:=9) Kr G G ?_ ?_
    .
     refine q0z (l:=p0) H Tu237 Ts239 Km G G J (q00 G) G ?_;intro a6 K;refine NA (TK 6 G (fun _=>q01 Tu239 G Ts9 Dc G) G (WA.takeA H (i:=7) [9] G Kr Kr Kr (fun _ H=>q0A (j:=3) H G K Km (fun _=>G) J G Ta9) (q00 G) G G (fun _ _=>G) ?_));refine TK 8 G (fun _=>q0v [S U.1,S Y.2.2.2] Tu109 Tz109 (xplaces109 Tu109) G G) G (q0k (fuel:=0) [9,10] G Kr (q09 [_,_] H Tz109 G (q00 G) G ?_));intro O w H;refine q04 [_,_] H G G G Ku Ts109 G Kf Kf (q00 G) ?_;intro w H;refine NA (q0f Kr ?_);exact MP ⟨_,_,G,(H.pick (L':=[RowS 239 4 xenc239 u p0, .blk N (.cells #[S [],S []] 109), .blk O (.cells #[S U.1,S Y.2.2.2] 109)]) Kp),Z⟩
    refine q09 [_,_] H Tz109 G (q00 G) G ?_;intro O w H;refine NA (q0k (fuel:=0) [5,6,7,8,10] G Kr (q0z (l:=p0) H Tu237 Ts239 Km G G J (q00 G) G ?_));intro a6 K;refine ST (q01 Tu239 G Ts9 Dc G) G (ST (q0A (j:=3) H G K Km (fun _=>G) J G Ta9) G ?_);refine ST (q0v [S U.1,S Y.2.2.2] Tu109 Tz109 (xplaces109 Tu109) G G) G (q04 [_,_] H G G G Ku Ts109 G Kf Kf (q00 G) ?_);intro w H;refine NA (q0f Kr ?_);exact MP ⟨_,_,G,(H.pick (L':=[RowS 239 4 xenc239 u p0, .blk N (.cells #[S [],S []] 109), .blk O (.cells #[S U.1,S Y.2.2.2] 109)]) Kp),Z⟩
   .
    refine q0z (l:=p0) H Tu237 Ts239 Km G G J (q00 G) G ?_;intro a6 K;refine NA (TK 6 G (fun _=>q01 Tu239 G Ts9 Dc G) G (WA.takeA H (i:=3) [7,9] G Kr Kr Kr (fun _ H=>q0A (j:=0) H G V Km (fun _=>G) E G Ta9) (q00 G) G G (fun _ _=>G) ?_));refine WA.takeA H (i:=7) [9] G Kr Kr Kr (fun _ H=>q0A (j:=3) H G K Km (fun _=>G) J G Ta9) (q00 G) G G (fun _ _=>G) ?_;refine TK 8 G (fun _=>q0v [S U.1,S Y.2.2.2] Tu109 Tz109 (xplaces109 Tu109) G G) G (q0k (fuel:=0) [9,10] G Kr (q09 [_,_] H Tz109 G (q00 G) G ?_));intro O w H;refine q04 [_,_] H G G G Ku Ts109 G Kf Kf (q00 G) ?_;intro w H;refine NA (q0f Kr ?_);exact MP ⟨_,_,G,(H.pick (L':=[RowS 239 4 xenc239 u p0, .blk N (.cells #[S [],S []] 109), .blk O (.cells #[S U.1,S Y.2.2.2] 109)]) Kp),Z⟩
   refine q09 [_,_] H Tz109 G (q00 G) G ?_;intro O w H;refine NA ?_;refine q0E (i:=3) (j:=5) Kr G G ?_ ?_
   .
    refine ST (q0A (j:=0) H G V Km (fun _=>G) E G Ta9) G ?_;refine NA (q0k (fuel:=0) [5,6,7,8,10] G Kr (q0z (l:=p0) H Tu237 Ts239 Km G G J (q00 G) G ?_));intro a6 K;refine ST (q01 Tu239 G Ts9 Dc G) G (ST (q0A (j:=3) H G K Km (fun _=>G) J G Ta9) G ?_);refine ST (q0v [S U.1,S Y.2.2.2] Tu109 Tz109 (xplaces109 Tu109) G G) G (q04 [_,_] H G G G Ku Ts109 G Kf Kf (q00 G) ?_);intro w H;refine NA (q0f Kr ?_);exact MP ⟨_,_,G,(H.pick (L':=[RowS 239 4 xenc239 u p0, .blk N (.cells #[S [],S []] 109), .blk O (.cells #[S U.1,S Y.2.2.2] 109)]) Kp),Z⟩
   refine q0z (l:=p0) H Tu237 Ts239 Km G G J (q00 G) G ?_;intro a6 K;refine NA (TK 6 G (fun _=>q01 Tu239 G Ts9 Dc G) G (q1i (i:=3) [7] G Kr Kr Kr (q0A (j:=0) H G V Km (fun _=>G) E G Ta9) (q00 G) G G (fun _ _=>G) ?_));refine q0k (fuel:=0) [7,8,10] G Kr (ST (q0A (j:=3) H G K Km (fun _=>G) J G Ta9) G ?_);refine ST (q0v [S U.1,S Y.2.2.2] Tu109 Tz109 (xplaces109 Tu109) G G) G (q04 [_,_] H G G G Ku Ts109 G Kf Kf (q00 G) ?_);intro w H;refine NA (q0f Kr ?_);exact MP ⟨_,_,G,(H.pick (L':=[RowS 239 4 xenc239 u p0, .blk N (.cells #[S [],S []] 109), .blk O (.cells #[S U.1,S Y.2.2.2] 109)]) Kp),Z⟩
  .
   refine q0z (l:=p0) H Tu237 Ts239 Km G G J (q00 G) G ?_;intro a6 K;refine NA (TK 6 G (fun _=>q01 Tu239 G Ts9 Dc G) G ?_);refine WA.three (i:=1) (j:=7) (k:=9) Kr G G G ?_ ?_ ?_
   .
    refine q0z (l:=p0) H Tu237 Ts239 Km G G E (q00 G) G ?_;intro g8 V;refine NA (TK 2 G (fun _=>q01 Tu239 G Ts9 Dc G) G (WA.takeA H (i:=3) [7,9] G Kr Kr Kr (fun _ H=>q0A (j:=0) H G V Km (fun _=>G) E G Ta9) (q00 G) G G (fun _ _=>G) ?_));refine WA.takeA H (i:=7) [9] G Kr Kr Kr (fun _ H=>q0A (j:=3) H G K Km (fun _=>G) J G Ta9) (q00 G) G G (fun _ _=>G) ?_;refine TK 8 G (fun _=>q0v [S U.1,S Y.2.2.2] Tu109 Tz109 (xplaces109 Tu109) G G) G (q0k (fuel:=0) [9,10] G Kr (q09 [_,_] H Tz109 G (q00 G) G ?_));intro O w H;refine q04 [_,_] H G G G Ku Ts109 G Kf Kf (q00 G) ?_;intro w H;refine NA (q0f Kr ?_);exact MP ⟨_,_,G,(H.pick (L':=[RowS 239 4 xenc239 u p0, .blk N (.cells #[S [],S []] 109), .blk O (.cells #[S U.1,S Y.2.2.2] 109)]) Kp),Z⟩
   .
    refine ST (q0A (j:=3) H G K Km (fun _=>G) J G Ta9) G ?_;refine NA ?_;refine q0E (i:=1) (j:=9) Kr G G ?_ ?_
    .
     refine q0z (l:=p0) H Tu237 Ts239 Km G G E (q00 G) G ?_;intro g8 V;refine NA (TK 2 G (fun _=>q01 Tu239 G Ts9 Dc G) G (WA.takeA H (i:=3) [9] G Kr Kr Kr (fun _ H=>q0A (j:=0) H G V Km (fun _=>G) E G Ta9) (q00 G) G G (fun _ _=>G) ?_));refine TK 8 G (fun _=>q0v [S U.1,S Y.2.2.2] Tu109 Tz109 (xplaces109 Tu109) G G) G (q0k (fuel:=0) [9,10] G Kr (q09 [_,_] H Tz109 G (q00 G) G ?_));intro O w H;refine q04 [_,_] H G G G Ku Ts109 G Kf Kf (q00 G) ?_;intro w H;refine NA (q0f Kr ?_);exact MP ⟨_,_,G,(H.pick (L':=[RowS 239 4 xenc239 u p0, .blk N (.cells #[S [],S []] 109), .blk O (.cells #[S U.1,S Y.2.2.2] 109)]) Kp),Z⟩
    refine q09 [_,_] H Tz109 G (q00 G) G ?_;intro O w H;refine NA (q0k (fuel:=0) [1,2,3,8,10] G Kr (q0z (l:=p0) H Tu237 Ts239 Km G G E (q00 G) G ?_));intro g8 V;refine ST (q01 Tu239 G Ts9 Dc G) G (ST (q0A (j:=0) H G V Km (fun _=>G) E G Ta9) G ?_);refine ST (q0v [S U.1,S Y.2.2.2] Tu109 Tz109 (xplaces109 Tu109) G G) G (q04 [_,_] H G G G Ku Ts109 G Kf Kf (q00 G) ?_);intro w H;refine NA (q0f Kr ?_);exact MP ⟨_,_,G,(H.pick (L':=[RowS 239 4 xenc239 u p0, .blk N (.cells #[S [],S []] 109), .blk O (.cells #[S U.1,S Y.2.2.2] 109)]) Kp),Z⟩
   refine q09 [_,_] H Tz109 G (q00 G) G ?_;intro O w H;refine NA ?_;refine q0E (i:=1) (j:=7) Kr G G ?_ ?_
   .
    refine q0z (l:=p0) H Tu237 Ts239 Km G G E (q00 G) G ?_;intro g8 V;refine NA (TK 2 G (fun _=>q01 Tu239 G Ts9 Dc G) G (q1i (i:=3) [7] G Kr Kr Kr (q0A (j:=0) H G V Km (fun _=>G) E G Ta9) (q00 G) G G (fun _ _=>G) ?_));refine q0k (fuel:=0) [7,8,10] G Kr (ST (q0A (j:=3) H G K Km (fun _=>G) J G Ta9) G ?_);refine ST (q0v [S U.1,S Y.2.2.2] Tu109 Tz109 (xplaces109 Tu109) G G) G (q04 [_,_] H G G G Ku Ts109 G Kf Kf (q00 G) ?_);intro w H;refine NA (q0f Kr ?_);exact MP ⟨_,_,G,(H.pick (L':=[RowS 239 4 xenc239 u p0, .blk N (.cells #[S [],S []] 109), .blk O (.cells #[S U.1,S Y.2.2.2] 109)]) Kp),Z⟩
   refine ST (q0A (j:=3) H G K Km (fun _=>G) J G Ta9) G ?_;refine NA (q0k (fuel:=0) [1,2,3,8,10] G Kr (q0z (l:=p0) H Tu237 Ts239 Km G G E (q00 G) G ?_));intro g8 V;refine ST (q01 Tu239 G Ts9 Dc G) G (ST (q0A (j:=0) H G V Km (fun _=>G) E G Ta9) G ?_);refine ST (q0v [S U.1,S Y.2.2.2] Tu109 Tz109 (xplaces109 Tu109) G G) G (q04 [_,_] H G G G Ku Ts109 G Kf Kf (q00 G) ?_);intro w H;refine NA (q0f Kr ?_);exact MP ⟨_,_,G,(H.pick (L':=[RowS 239 4 xenc239 u p0, .blk N (.cells #[S [],S []] 109), .blk O (.cells #[S U.1,S Y.2.2.2] 109)]) Kp),Z⟩
  refine q09 [_,_] H Tz109 G (q00 G) G ?_;intro O w H;refine NA ?_;refine q0E (i:=1) (j:=5) Kr G G ?_ ?_
  .
   refine q0z (l:=p0) H Tu237 Ts239 Km G G E (q00 G) G ?_;intro g8 V;refine NA (TK 2 G (fun _=>q01 Tu239 G Ts9 Dc G) G ?_);refine q0E (i:=3) (j:=5) Kr G G ?_ ?_
   .
    refine ST (q0A (j:=0) H G V Km (fun _=>G) E G Ta9) G ?_;refine NA (q0k (fuel:=0) [5,6,7,8,10] G Kr (q0z (l:=p0) H Tu237 Ts239 Km G G J (q00 G) G ?_));intro a6 K;refine ST (q01 Tu239 G Ts9 Dc G) G (ST (q0A (j:=3) H G K Km (fun _=>G) J G Ta9) G ?_);refine ST (q0v [S U.1,S Y.2.2.2] Tu109 Tz109 (xplaces109 Tu109) G G) G (q04 [_,_] H G G G Ku Ts109 G Kf Kf (q00 G) ?_);intro w H;refine NA (q0f Kr ?_);exact MP ⟨_,_,G,(H.pick (L':=[RowS 239 4 xenc239 u p0, .blk N (.cells #[S [],S []] 109), .blk O (.cells #[S U.1,S Y.2.2.2] 109)]) Kp),Z⟩
   refine q0z (l:=p0) H Tu237 Ts239 Km G G J (q00 G) G ?_;intro a6 K;refine NA (TK 6 G (fun _=>q01 Tu239 G Ts9 Dc G) G (q1i (i:=3) [7] G Kr Kr Kr (q0A (j:=0) H G V Km (fun _=>G) E G Ta9) (q00 G) G G (fun _ _=>G) ?_));refine q0k (fuel:=0) [7,8,10] G Kr (ST (q0A (j:=3) H G K Km (fun _=>G) J G Ta9) G ?_);refine ST (q0v [S U.1,S Y.2.2.2] Tu109 Tz109 (xplaces109 Tu109) G G) G (q04 [_,_] H G G G Ku Ts109 G Kf Kf (q00 G) ?_);intro w H;refine NA (q0f Kr ?_);exact MP ⟨_,_,G,(H.pick (L':=[RowS 239 4 xenc239 u p0, .blk N (.cells #[S [],S []] 109), .blk O (.cells #[S U.1,S Y.2.2.2] 109)]) Kp),Z⟩
  refine q0z (l:=p0) H Tu237 Ts239 Km G G J (q00 G) G ?_;intro a6 K;refine NA (TK 6 G (fun _=>q01 Tu239 G Ts9 Dc G) G ?_);refine q0E (i:=1) (j:=7) Kr G G ?_ ?_
  .
   refine q0z (l:=p0) H Tu237 Ts239 Km G G E (q00 G) G ?_;intro g8 V;refine NA (TK 2 G (fun _=>q01 Tu239 G Ts9 Dc G) G (q1i (i:=3) [7] G Kr Kr Kr (q0A (j:=0) H G V Km (fun _=>G) E G Ta9) (q00 G) G G (fun _ _=>G) ?_));refine q0k (fuel:=0) [7,8,10] G Kr (ST (q0A (j:=3) H G K Km (fun _=>G) J G Ta9) G ?_);refine ST (q0v [S U.1,S Y.2.2.2] Tu109 Tz109 (xplaces109 Tu109) G G) G (q04 [_,_] H G G G Ku Ts109 G Kf Kf (q00 G) ?_);intro w H;refine NA (q0f Kr ?_);exact MP ⟨_,_,G,(H.pick (L':=[RowS 239 4 xenc239 u p0, .blk N (.cells #[S [],S []] 109), .blk O (.cells #[S U.1,S Y.2.2.2] 109)]) Kp),Z⟩
  refine ST (q0A (j:=3) H G K Km (fun _=>G) J G Ta9) G ?_;refine NA (q0k (fuel:=0) [1,2,3,8,10] G Kr (q0z (l:=p0) H Tu237 Ts239 Km G G E (q00 G) G ?_));intro g8 V;refine ST (q01 Tu239 G Ts9 Dc G) G (ST (q0A (j:=0) H G V Km (fun _=>G) E G Ta9) G ?_);refine ST (q0v [S U.1,S Y.2.2.2] Tu109 Tz109 (xplaces109 Tu109) G G) G (q04 [_,_] H G G G Ku Ts109 G Kf Kf (q00 G) ?_);intro w H;refine NA (q0f Kr ?_);exact MP ⟨_,_,G,(H.pick (L':=[RowS 239 4 xenc239 u p0, .blk N (.cells #[S [],S []] 109), .blk O (.cells #[S U.1,S Y.2.2.2] 109)]) Kp),Z⟩
 rintro e w ⟨b3,M,rfl,H,Z⟩;refine TN (SQ (SQ ?_));obtain⟨a4,ak,h⟩:=bnd h;refine RG (MV G G (q0z (l:=p0) H Tu237 Ts239 Km G G ak (q00 G) G ?_));intro b7 ax;refine ST (q01 Tu239 G Ts3 Dc G) G (ST (q0A (j:=1) H G ax Km (fun _=>G) ak G Ta3) G ?_);refine ST (q0m G G) G (NL (TN ?_));refine CB (p:=a4.2.1<(0:Int)) G (fun al=>?_) fun al=>?_
 .
  rw[if_pos al] at h;refine SQ (RG (ST (q08 H G Km Ta109 Ts109 Kf) G ?_));refine MV G G (ST (q1v (l:=p0) Tu237 H Km G) G ?_);refine ST (q0u G G) G (q04 [_,_] H G G G Ku Ts109 G Kf Kf (q00 G) ?_);intro w H;refine AS G G (NL (TN (RT ?_)));obtain rfl:=oI h;exact q0Z (its:=[]) G ⟨_,G,H.loadAgg Km Ta109 Ts109 Kf⟩ G H Kp ⟨G,G⟩
 rw[if_neg al] at h;refine SK (TN (SQ ?_));obtain⟨l6,ay,h⟩:=bnd h;refine RG (MV G G ?_);refine q0q (A:=[RowS 239 4 xenc239 u p0]) (B:=[.blk N (.cells #[S [],S []] 109), .blk b3 (.cells #[S U.1,S Y.2.2.2] 109)]) (H.pick (L':=[RowS 239 4 xenc239 u p0, .blk N (.cells #[S [],S []] 109), .blk b3 (.cells #[S U.1,S Y.2.2.2] 109)]) Kp) (Y4F ay) (.left (q0r _)) G trivial (q00 G) G ?_;intro b8 M w its H ac hR;replace Z:=Z.mono ac;obtain⟨rfl,rfl⟩:=hR;simp only[l02,l03] at H;refine NL (TN (SQ (RG (ST (q01 Tu109 G Ts9 Dc G) G (q1d [_,_] H G G Ku Kf Ts9 (by first|decide|(simp;done)|(simp;omega)) Kf Kf (q00 G) ?_)))));intro w H;refine NL (TN (SQ (SQ (RG (MV G G (ST (q1v (l:=l6) Tu237 H Km G) G ?_))))));refine MV G G (NL (TN ?_));obtain⟨o7,e8,h⟩:=bnd h;refine q0c (fun e w =>∃(s9:Ls) (am:Ls) (an:Ls) (ao:Ls) (M:Mem),e=[(2,ptr N 0),(4,ptr b3 0)]/\StX (feet [RowS 239 4 xenc239 u p0]) w0 M0 M [.blk N (.cells #[S s9,S am] 109), .blk b3 (.cells #[S an,S ao] 109)] w/\Tabs M/\some (.inl (s9,am,an,ao))=some o7) [] ?_ ?_ (trivial)
 .
  refine BL ?_;refine q0l (fun m e w =>∃(a8:Ls) (a9:Ls) (aa:Ls) (ah:Ls) (ab:Int) (M:Mem),e=[(2,ptr N 0),(4,ptr b3 0),(28,u),(29,I (l6.length:Int)),(30,I ab)]/\StX (feet [RowS 239 4 xenc239 u p0]) w0 M0 M [.blk N (.cells #[S a8,S a9] 109), .blk b3 (.cells #[S aa,S ah] 109),RowS 239 4 xenc239 u l6] w/\Tabs M/\Y1p l6 m a8 a9 aa ah ab=some o7) FU [(2,_),(4,_),(28,_),(29,_),(30,_)] ⟨rfl,rfl,rfl,rfl,rfl,trivial⟩ ⟨_,_,_,_,_,_,rfl,(H.pick (L':=[.blk N (.cells #[S [],S []] 109), .blk b3 (.cells #[S U.1,S []] 109),RowS 239 4 xenc239 u l6]) Kp),Z,e8⟩ ?_;rintro ap e w ⟨a8,a9,aa,ah,ab,M,rfl,H,Z,e8⟩;rcases ap with _|ap
  . rw[Y1p] at e8;cases e8
  rw[Y1p] at e8;refine SQ (RG (ST (q0m G G) G (NL (TN (SQ ?_)))));refine CB (p:=ab<(l6.length:Int)) G (fun ae=>?_) fun ae=>?_
  .
   rw[if_pos ae] at e8;refine SK (TN (SQ (BL (SQ ?_))));obtain⟨aw,ai,e8⟩:=bnd e8;refine RG (MV G G (q0z (l:=l6) H Tu237 Ts239 Km G G ai (q00 G) G ?_));intro b9 b0;refine ST (Ex.loadRowA H G b0 Km (fun _=>G) ai Ta239 Ts239) G ?_;refine q09 [_,_,_,_] H Tz239 G (q00 G) G ?_;intro ba w H;refine AS G G (q04 [_,_,_,_] H G G G Ku Ts239 G Kf Kf (q00 G) ?_);intro w H;refine NL (TN (SQ (SQ (RG (ST (q01 Tu239 G Ts3 Dc G) G (ST (XL H Ta3) G ?_))))));refine MV G G (ST (q1j G G) G (NL (TN ?_)));refine q0a G (fun a5=>?_) (fun a5=>?_)
   .
    replace a5 :¬(aw.2.1=ab):=of_not_decide a5;rw[if_neg a5] at e8;refine SQ (RG (ST (q08 H G Km Ta109 Ts109 Kf) G ?_));refine q04 [_,_] H G G G Ku Ts109 G Kf Kf (q00 G) ?_;intro w H;refine AS G G (NL (TN (RT ?_)));obtain rfl:=oI e8;try dsimp only at h
    obtain rfl:=oI h;exact q0Z (its:=[]) G ⟨_,G,H.loadAgg Km Ta109 Ts109 Kf⟩ G H Kp ⟨G,G⟩
   replace a5:aw.2.1=ab:=of_not_decide' a5;rw[if_pos a5] at e8;refine SK (TN ?_);obtain⟨bb,aq,e8⟩:=bnd e8;obtain⟨ar,aj,e8⟩:=bnd e8;refine q0V (fun e w =>∃  (M:Mem),e=[(2,ptr N 0),(4,ptr b3 0),(28,u),(29,I (l6.length:Int)),(30,I ab)]/\StX (feet [RowS 239 4 xenc239 u p0]) w0 M0 M [.blk N (.cells #[S a8,S a9] 109), .blk b3 (.cells #[S aa,S ar] 109),RowS 239 4 xenc239 u l6] w/\Tabs M) ?_ ?_
   .
    refine q0x (m:=7) G G H ?_;intro w H;refine TK 0 G (fun _=>q01 Tu109 G Ts9 Dc G) G (q1i (i:=2) [1] G Kr Kr Kr (q08 H G Km Ta239 Ts239 Kf) (q00 G) G G (fun _ _=>G) ?_);refine q0E (i:=1) (j:=3) Kr G G ?_ ?_
    .
     refine ST (XL H Ta9) G ?_;refine NA (q0k (fuel:=0) [3,4,5,6] G Kr (q02 H (Y4f aq) G trivial (q00 G) G ?_));intro b4 M w H ac hR;replace Z:=Z.mono ac;obtain rfl:=hR;refine ST (q0d G G aj) G (ST (q01 Tu109 G Ts9 Dc G) G (q1d [_,_] H G G Ku Kf Ts9 (by first|decide|(simp;done)|(simp;omega)) Kf Kf (q00 G) ?_));intro w H;refine NA (q0f Kr ?_);exact MP ⟨_,G,(H.pick (L':=[.blk N (.cells #[S a8,S a9] 109), .blk b3 (.cells #[S aa,S ar] 109),RowS 239 4 xenc239 u l6]) Kp),Z⟩
    refine q02 H (Y4f aq) G trivial (q00 G) G ?_;intro b4 M w H ac hR;replace Z:=Z.mono ac;obtain rfl:=hR;refine NA (q0k (fuel:=0) [1,4,5,6] G Kr (ST (XL H Ta9) G ?_));refine ST (q0d G G aj) G (ST (q01 Tu109 G Ts9 Dc G) G (q1d [_,_] H G G Ku Kf Ts9 (by first|decide|(simp;done)|(simp;omega)) Kf Kf (q00 G) ?_));intro w H;refine NA (q0f Kr ?_);exact MP ⟨_,G,(H.pick (L':=[.blk N (.cells #[S a8,S a9] 109), .blk b3 (.cells #[S aa,S ar] 109),RowS 239 4 xenc239 u l6]) Kp),Z⟩
   rintro e w ⟨M,rfl,H,Z⟩;refine IB (TN ?_);obtain⟨bc,av,e8⟩:=bnd e8;refine RG (ST (q0e G G av) G (MV G G (NL ?_)));exact AG ap ⟨_,_,_,_,_,_,G,H,Z,e8⟩ (l06 _)
  rw[if_neg ae] at e8;refine q0j (q03 (q03 (q0b ?_)));exact MN ⟨_,_,_,_,_,G,(H.pick (L':=[.blk N (.cells #[S a8,S a9] 109), .blk b3 (.cells #[S aa,S ah] 109)]) Kp),Z,e8⟩
 rintro e w ⟨s9,am,an,ao,M,rfl,H,Z,b5⟩;obtain rfl:=oI b5;try dsimp only at h
 refine TN (SQ ?_);obtain⟨bd,b1,h⟩:=bnd h;refine RG (ST (q01 Tu109 G Ts9 Dc G) G (ST (XL H Ta9) G ?_));refine q02 H (Y4T b1) G (Z) (q00 G) G ?_;intro be M w H ac hR;obtain rfl:=hR;refine ST (q01 Tu109 G Ts9 Dc G) G (q1d [_,_] H G G Ku Kf Ts9 (by first|decide|(simp;done)|(simp;omega)) Kf Kf (q00 G) ?_);intro w H;refine NL (TN (SQ (RG (ST (q08 H G Km Ta109 Ts109 Kf) G ?_))));refine q04 [_,_] H G G G Ku Ts109 G Kf Kf (q00 G) ?_;intro w H;refine AS G G (NL (TN (RT ?_)));obtain rfl:=oI h;exact q0Z (its:=[]) G ⟨_,G,H.loadAgg Km Ta109 Ts109 Kf⟩ G H Kp ⟨G,G⟩
theorem Y65 {p0:List (Ls × Int × Bool × Ls)}{U:Value}{r:(List (Ls × Ls) × Bool)}(h:Y3S p0=some r):CtO Tryz.prog 166 [U] (fun M=>Tabs M/\SlS M 4 xenc239 U p0) (fun v M its =>∃x0,v=Value.tuple #[x0,Value.bool r.2]/\its=[RowS 109 2 xenc109 x0 r.1]):=by
 refine CtO.of Tryz.func166 (enters Tryz.func166 Kr G) G G G ?_;intro w0 M0 H hp;obtain⟨O,u⟩:=hp;unfold Y3S at h;refine SQ (RG (AS G G (AS G G (NL (TN (SQ (RG (AS G G (NL (TN (SQ (SQ (RG (MV G G (ST (q0N Tu237 u G) G (MV G G (NL (TN ?_))))))))))))))))));obtain⟨o1,K,h⟩:=bnd h;refine q0c (fun e w =>∃(l4:List (Ls × Ls)) (v5:Value) (M:Mem),e=[(4,v5)]/\St w0 M0 M [RowS 109 2 xenc109 v5 l4] w/\Tabs M/\some (.inl l4)=some o1) [] ?_ ?_ (trivial)
 .
  refine BL ?_;replace H:=H.newRowS 109 2 xenc109;refine q0l (fun m e w =>∃(l7:List (Ls × Ls)) (v8:Value) (n9:Int) (M:Mem),e=[(0,U),(4,v8),(13,U),(14,I (p0.length:Int)),(15,I n9)]/\St w0 M0 M [RowS 109 2 xenc109 v8 l7] w/\Tabs M/\SlS M 4 xenc239 U p0/\Y10 p0 m l7 n9=some o1) FU [(0,_),(4,_),(13,_),(14,_),(15,_)] ⟨rfl,rfl,rfl,rfl,rfl,trivial⟩ ⟨_,_,_,_,rfl,H,O,u,K⟩ ?_;rintro aa e w ⟨l7,v8,n9,M,rfl,H,O,u,K⟩;rcases aa with _|aa
  . rw[Y10] at K;cases K
  rw[Y10] at K;refine SQ (RG (ST (q0m G G) G (NL (TN (SQ ?_)))));refine CB (p:=n9<(p0.length:Int)) G (fun a6=>?_) fun a6=>?_
  .
   rw[if_pos a6] at K;refine SK (TN (SQ (BL (SQ ?_))));obtain⟨V,ak,K⟩:=bnd K;obtain⟨bh,bn,ax,ay⟩:=u.atC ak;refine RG (MV G G (ST (q0s ax Tu237 Ts239 G G) G (ST (q0G H G ay Ta239 Ts239 Kf) G ?_)));refine q09 [_,_,_,_] H Tz239 G (q00 G) G ?_;intro Z w H;refine AS G G (q04 [_,_,_,_] H G G G Ku Ts239 G Kf Kf (q00 G) ?_);intro w H;refine NL (TN (SQ (RG ?_)));obtain⟨M,N,E,H⟩:=H.freezeVar (b:=Z) Kv;replace O:=O.mono N;replace u:=u.mono N;refine ST (q1s G) G (AS G G (NL (TN (SQ (SQ ?_)))));obtain⟨bo,al,K⟩:=bnd K;obtain⟨bp,az,K⟩:=bnd K;refine RG (MV G G (MV G G (WR.sliceSSH Tu237 Ts239 (u) G G al (q00 G) G ?_)));intro bq b0;refine MV G G (q02 H (Y40 az) G ⟨b0,(fun _ _ h=>FnV.ofCap [ptr Z 0] (Y4H h) (fun _ hm=>E.mono hm))⟩ (q00 G) G ?_);intro br M w H N hR;replace O:=O.mono N;replace u:=u.mono N;replace E:=E.mono N;obtain rfl:=hR;refine NL (TN ?_);refine q0a G (fun a7=>?_) (fun a7=>?_)
   .
    subst a7;rw[if_pos rfl] at K;refine q0j (q03 (q0b (TN ?_)));obtain⟨bs,am,K⟩:=bnd K;refine RG (ST (q0e G G am) G (MV G G (NL ?_)));exact AG aa ⟨_,_,_,_,G,H,O,u,K⟩ (l06 _)
   subst a7;rw[if_neg l00] at K;refine SK (TN (SQ (RG (AS G G (NL (TN (SQ (SQ (RG (MV G G (ST (q0N Tu237 u G) G (MV G G (NL (TN ?_))))))))))))));obtain⟨av,J,K⟩:=bnd K;refine q0c (fun e w =>∃(a3:List (Ls × Int × Bool × Ls)) (a4:Value) (M:Mem),e=[(0,U),(4,v8),(6,ptr Z 0),(8,a4),(13,U),(14,I (p0.length:Int)),(15,I n9)]/\St w0 M0 M [RowS 109 2 xenc109 v8 l7,RowS 239 4 xenc239 a4 a3] w/\Tabs M/\SlS M 4 xenc239 U p0/\PtM M Z (.cells #[S V.1,I V.2.1,Value.bool V.2.2.1,S V.2.2.2] 239)/\some a3=some av) [] ?_ ?_ (trivial)
   .
    refine BL ?_;replace H:=H.newRowS 239 4 xenc239;refine q0l (fun m e w =>∃(a5:List (Ls × Int × Bool × Ls)) (ab:Value) (ac:Int) (M:Mem),e=[(0,U),(4,v8),(6,ptr Z 0),(7,(Value.func (.func 200) #[] #[ptr Z 0])),(8,ab),(13,U),(14,I (p0.length:Int)),(15,I n9),(26,U),(27,I (p0.length:Int)),(28,I ac)]/\St w0 M0 M [RowS 109 2 xenc109 v8 l7,RowS 239 4 xenc239 ab a5] w/\Tabs M/\SlS M 4 xenc239 U p0/\PtM M Z (.cells #[S V.1,I V.2.1,Value.bool V.2.2.1,S V.2.2.2] 239)/\Y0Z p0 V m a5 ac=some av) FU [(0,_),(4,_),(6,_),(7,_),(8,_),(13,_),(14,_),(15,_),(26,_),(27,_),(28,_)] ⟨rfl,rfl,rfl,rfl,rfl,rfl,rfl,rfl,rfl,rfl,rfl,trivial⟩ ⟨_,_,_,_,rfl,(H.pick (L':=[RowS 109 2 xenc109 v8 l7,RowS 239 4 xenc239 (Value.slice none 0 0) []]) Kp),O,u,E,J⟩ ?_;rintro ad e w ⟨a5,ab,ac,M,rfl,H,O,u,E,J⟩;rcases ad with _|ad
    . rw[Y0Z] at J;cases J
    rw[Y0Z] at J;refine SQ (RG (ST (q0m G G) G (NL (TN (SQ ?_)))));refine CB (p:=ac<(p0.length:Int)) G (fun a8=>?_) fun a8=>?_
    .
     rw[if_pos a8] at J;refine SK (TN (SQ (BL (SQ ?_))));obtain⟨a0,an,J⟩:=bnd J;obtain⟨bi,bt,b1,b2⟩:=u.atC an;refine RG (ST (q0s b1 Tu237 Ts239 G G) G (ST (q0G H G b2 Ta239 Ts239 Kf) G ?_));refine q09 [_,_,_,_] H Tz239 G (q00 G) G ?_;intro bj w H;refine q04 [_,_,_,_] H G G G Ku Ts239 G Kf Kf (q00 G) ?_;intro w H;refine NL (TN (SQ ?_));obtain⟨bu,b3,J⟩:=bnd J;refine RG (MV G G (ST (q08 H G Km Ta239 Ts239 Kf) G ?_));refine WR.callV (vs:=[Value.agg #[S a0.1,I a0.2.1,Value.bool a0.2.2.1,S a0.2.2.2]]) (cap:=[ptr Z 0]) H (Y4H b3) G G (E) (q00 G) G ?_;intro bv M w H N hR;replace O:=O.mono N;replace u:=u.mono N;replace E:=E.mono N;obtain rfl:=hR;refine NL (TN ?_);refine q0a G (fun a9=>?_) (fun a9=>?_)
     .
      subst a9;rw[if_pos rfl] at J;obtain⟨b9,ao,J⟩:=bnd J;refine RG (MV G G (ST (q08 H G Km Ta239 Ts239 Kf) G ?_));refine q1t (enc:=xenc239) xty237 ([(a0.1,a0.2.1,a0.2.2.1,a0.2.2.2)]:List (Ls × Int × Bool × Ls)) H (fun _=>G) G Kr G G G (q00 G) G ?_;intro bw M w H N b4;replace O:=O.mono N;replace u:=u.mono N;replace E:=E.mono N;refine WR.appSC (l:=a5) xty237 G xone239 H G (fun _=>by repeat first|exact .head|apply Upd.tail) G (b4) ao (q00 G) G ?_;intro ba w H;refine AS G G (NL (IB (TN ?_)));obtain⟨bx,ap,J⟩:=bnd J;refine RG (ST (q0e G G ap) G (MV G G (NL ?_)));exact AG ad ⟨_,_,_,_,G,(H.pick (L':=[RowS 109 2 xenc109 v8 l7,RowS 239 4 xenc239 ba b9]) Kp),O,u,E,J⟩ (l06 _)
     subst a9;rw[if_neg l00] at J;refine SK (IB (TN ?_));obtain⟨bz,aq,J⟩:=bnd J;refine RG (ST (q0e G G aq) G (MV G G (NL ?_)));exact AG ad ⟨_,_,_,_,G,(H.pick (L':=[RowS 109 2 xenc109 v8 l7,RowS 239 4 xenc239 ab a5]) Kp),O,u,E,J⟩ (l06 _)
    rw[if_neg a8] at J;refine q0j (q03 (q03 (q0b ?_)));exact MN ⟨_,_,_,G,H,O,u,E,J⟩
   rintro e w ⟨a3,a4,M,rfl,H,O,u,E,bb⟩;obtain rfl:=oI bb;refine TN (SQ ?_);obtain⟨⟨⟨c0,bc⟩,aw⟩,b5,K⟩:=bnd K;try dsimp only at K
   refine RG (MV G G ?_);refine q0q (A:=[RowS 239 4 xenc239 a4 a3]) (B:=[RowS 109 2 xenc109 v8 l7]) (H.pick (L':=[RowS 239 4 xenc239 a4 a3,RowS 109 2 xenc109 v8 l7]) Kp) (Y64 b5) (.left (q0r _)) G (O) (q00 G) G ?_;intro c1 M w its H N hR;replace O:=O.mono N;replace u:=u.mono N;replace E:=E.mono N;try dsimp only at hR
   obtain⟨rfl,rfl⟩:=hR;simp only[l02,l03] at H;refine MV G G (ST (q05 G G) G (ST (q05 G G) G (q09 [_,_] H Tz109 G (q00 G) G ?_)));intro bm w H;refine q04 [_,_] H G G G Ku Ts109 G Kf Kf (q00 G) ?_;intro w H;refine AS G G (NL (TN (SQ (SQ (RG (MV G G (ST (q0y G) G (NL (TN ?_)))))))));refine q0a G (fun Y=>?_) (fun Y=>?_)
   .
    replace Y:aw=false:=by simpa using Y
    subst Y;rw[if_neg l00] at K;refine SQ (RG (AS G G (AS G G (NL (TN (RT ?_))))));replace H:=H.newRowS 109 2 xenc109;obtain rfl:=oI K;try dsimp only at h
    obtain rfl:=oI h;exact q1J (its:=[RowS 109 2 xenc109 (Value.slice none 0 0) []]) G G G H (by repeat(first|exact List.Sublist.refl _|apply List.Sublist.cons_cons|apply List.Sublist.cons)) ⟨_,G,G⟩
   replace Y:aw=true:=by simpa using Y
   subst Y;rw[if_pos rfl] at K;refine SK (TN (SQ (RG (ST (q01 Tu239 G Ts9 Dc G) G (ST (q0n H G (E.cell (j:=0) G) Ta9) G (ST (q01 Tu109 G Ts9 Dc G) G (q1d [_,_] H G G Ku Kf Ts9 (by first|decide|(simp;done)|(simp;omega)) Kf Kf (q00 G) ?_)))))));intro w H;refine NL (TN ?_);obtain⟨bd,ar,K⟩:=bnd K;refine RG (MV G G (ST (q08 H G Km Ta109 Ts109 Kf) G ?_));refine q1t (enc:=xenc109) xty103 ([(V.1,bc)]:List (Ls × Ls)) H (fun _=>G) G Kr G G G (q00 G) G ?_;intro c2 M w H N b6;replace O:=O.mono N;replace u:=u.mono N;refine WR.appSC (l:=l7) xty103 G xone109 H G (fun _=>by repeat first|exact .head|apply Upd.tail) G (b6) ar (q00 G) G ?_;intro be w H;refine AS G G (NL (IB (TN ?_)));obtain⟨c3,au,K⟩:=bnd K;refine RG (ST (q0e G G au) G (MV G G (NL ?_)));exact AG aa ⟨_,_,_,_,G,(H.pick (L':=[RowS 109 2 xenc109 be bd]) Kp),O,u,K⟩ (l06 _)
  rw[if_neg a6] at K;refine q0j (q03 (q03 (q0b ?_)));exact MN ⟨_,_,_,G,H,O,K⟩
 rintro e w ⟨l4,v5,M,rfl,H,O,bg⟩;obtain rfl:=oI bg;try dsimp only at h
 refine TN (SQ (RG (MV G G (AS G G (AS G G (NL (TN (RT ?_))))))));obtain rfl:=oI h;exact q1J (its:=[RowS 109 2 xenc109 v5 l4]) G G G H (by repeat(first|exact List.Sublist.refl _|apply List.Sublist.cons_cons|apply List.Sublist.cons)) ⟨_,G,G⟩
theorem Y6f {p0 : Ls}{r : ((Ls × Ls × List (Ls × Ls)) × Bool)}(h : Y47 p0 = some r): CtO Tryz.prog 127 [S p0] (fun M => GlF (fun w => ∃ tp p, w.var? Tryz.prog "strconv.ErrRange" = some #[.iface tp p]) M /\ GlF (fun w => ∃ tp p, w.var? Tryz.prog "strconv.ErrSyntax" = some #[.iface tp p]) M /\ GlF (fun w => ∃ m, w.cell? ⟨0, 0, none⟩ = some (.int .i64 m)) M /\ GlF (fun w => Lib.TabIs Tryz.prog w "internal/strconv.uint64pow10" .u64 Lib.pow10Tab) M /\ Tabs M) (fun v M its => ∃ au, v = Value.tuple #[Value.agg #[S r.1.1, S r.1.2.1, au], Value.bool r.2] /\ its = [RowS 109 2 xenc109 au r.1.2.2]) := by
 refine CtO.of Tryz.func127 (enters Tryz.func127 Kr G) G G G ?_;intro w0 M0 H hp;obtain⟨E,J,V,u,Y⟩:=hp;unfold Y47 at h;refine SQ (RG (q09 [_,_,_] H Tz105 G (q00 G) G ?_));intro O w H;refine AS G G (NL (TN (SQ (RG (MV G G (ST (q0v [S p0] Tu235 Tryz.zeroValue235 (xplaces235 Tu235) G G) G (q0F [_] H G G (q00 G) G ?_)))))));intro N w H;refine AS G G (NL (TN (SQ (RG (q09 [_,_,_] H Tz105 G (q00 G) G ?_)))));intro U w H;refine NL (TN (SQ ?_));obtain⟨⟨s1,o2⟩,be,h⟩:=bnd h;try dsimp only at h
 refine RG (MV G G ?_);refine q0q (A:=[.blk N (.cells #[S p0] 235)]) (B:=[.blk U (.cells #[S [],S [],Value.slice none 0 0] 105), .blk O (.cells #[S [],S [],Value.slice none 0 0] 105)]) (H.pick (L':=[.blk N (.cells #[S p0] 235), .blk U (.cells #[S [],S [],Value.slice none 0 0] 105), .blk O (.cells #[S [],S [],Value.slice none 0 0] 105)]) Kp) (Y2m be) (.left (q0r _)) G ((fun _ _ h=>FnV.of (Y1G h) (fun _ _=>trivial))) (q00 G) G ?_;intro c0 M w its H K hR;replace E:=E.mono K;replace J:=J.mono K;replace V:=V.mono K;replace u:=u.mono K;replace Y:=Y.mono K;try dsimp only at hR
 obtain⟨rfl,rfl⟩:=hR;simp only[l02,l03] at H;refine ST (q01 Tu105 G Ts9 Dc G) G (q1d [_,_,_] H G G Ku Kf Ts9 (by first|decide|(simp;done)|(simp;omega)) Kf Kf (q00 G) ?_);intro w H;refine NL (TN (SQ ?_));obtain⟨⟨b4,o5⟩,bh,h⟩:=bnd h;try dsimp only at h
 refine RG (MV G G ?_);refine q0q (A:=[.blk N (.cells #[S o2] 235)]) (B:=[.blk U (.cells #[S s1,S [],Value.slice none 0 0] 105), .blk O (.cells #[S [],S [],Value.slice none 0 0] 105)]) (H.pick (L':=[.blk N (.cells #[S o2] 235), .blk U (.cells #[S s1,S [],Value.slice none 0 0] 105), .blk O (.cells #[S [],S [],Value.slice none 0 0] 105)]) Kp) (Y2n bh) (.left (q0r _)) G trivial (q00 G) G ?_;intro c1 M w its H K hR;replace E:=E.mono K;replace J:=J.mono K;replace V:=V.mono K;replace u:=u.mono K;replace Y:=Y.mono K;try dsimp only at hR
 obtain⟨rfl,rfl⟩:=hR;simp only[l02,l03] at H;refine AS G G (NL (TN (SQ ?_)));obtain⟨⟨s7,o8⟩,bi,h⟩:=bnd h;try dsimp only at h
 refine RG (MV G G ?_);refine q0q (A:=[.blk N (.cells #[S o5] 235)]) (B:=[.blk U (.cells #[S s1,S [],Value.slice none 0 0] 105), .blk O (.cells #[S [],S [],Value.slice none 0 0] 105)]) (H.pick (L':=[.blk N (.cells #[S o5] 235), .blk U (.cells #[S s1,S [],Value.slice none 0 0] 105), .blk O (.cells #[S [],S [],Value.slice none 0 0] 105)]) Kp) (Y2m bi) (.left (q0r _)) G ((fun _ _ h=>FnV.of (Y1G h) (fun _ _=>trivial))) (q00 G) G ?_;intro c2 M w its H K hR;replace E:=E.mono K;replace J:=J.mono K;replace V:=V.mono K;replace u:=u.mono K;replace Y:=Y.mono K;try dsimp only at hR
 obtain⟨rfl,rfl⟩:=hR;simp only[l02,l03] at H;refine ST (q01 Tu105 G Ts9 Dc G) G (q1d [_,_,_] H G G Ku Kf Ts9 (by first|decide|(simp;done)|(simp;omega)) Kf Kf (q00 G) ?_);intro w H;refine NL (TN (SQ (SQ ?_)));obtain⟨bj,aa,h⟩:=bnd h
 refine q0c (fun e w => ∃ (aw : Bool) (M : Mem), e = [(2, ptr O 0), (4, ptr N 0), (5, ptr U 0), (33, Value.bool aw)] /\ St w0 M0 M [.blk O (.cells #[S [], S [], Value.slice none 0 0] 105), .blk N (.cells #[S o8] 235), .blk U (.cells #[S s1, S s7, Value.slice none 0 0] 105)] w /\ GlF (fun w => ∃ tp p, w.var? Tryz.prog "strconv.ErrRange" = some #[.iface tp p]) M /\ GlF (fun w => ∃ tp p, w.var? Tryz.prog "strconv.ErrSyntax" = some #[.iface tp p]) M /\ GlF (fun w => ∃ m, w.cell? ⟨0, 0, none⟩ = some (.int .i64 m)) M /\ GlF (fun w => Lib.TabIs Tryz.prog w "internal/strconv.uint64pow10" .u64 Lib.pow10Tab) M /\ Tabs M /\ some aw = some bj) [] ?_ ?_ (trivial)
 .
  refine RG (ST (q01 Tu105 G Ts9 Dc G) G (ST (XL H Ta9) G ?_));by_cases ae:s1=[]
  .
   rw[if_pos ae] at aa;refine DT ae (q0B G G) G (MV G G (GT G G G (GT G G G (PT G G G (MV G G (q0i 3 G G (PT G G G (NL ?_))))))));exact MN ⟨_,_,G,(H.pick (L':=[.blk O (.cells #[S [],S [],Value.slice none 0 0] 105), .blk N (.cells #[S o8] 235), .blk U (.cells #[S s1,S s7,Value.slice none 0 0] 105)]) Kp),E,J,V,u,Y,aa⟩
  rw[if_neg ae] at aa;refine DF ae (q0B G G) G (MV G G (SG (q06 G) G G G (SG (q0y G) G G G (PF G G G (MV G G ?_)))));rcases b4 with _|_
  .
   rw[if_neg l00] at aa;refine q0i 3 G G (PT G G G (NL ?_));exact MN ⟨_,_,G,(H.pick (L':=[.blk O (.cells #[S [],S [],Value.slice none 0 0] 105), .blk N (.cells #[S o8] 235), .blk U (.cells #[S s1,S s7,Value.slice none 0 0] 105)]) Kp),E,J,V,u,Y,aa⟩
  rw[if_pos rfl] at aa;refine SG (q01 Tu105 G Ts9 Dc G) G G G (SG (XL H Ta9) G G G ?_);refine SG (q0B G G) G G G (PF G G G (NL ?_));exact MN ⟨_,_,G,(H.pick (L':=[.blk O (.cells #[S [],S [],Value.slice none 0 0] 105), .blk N (.cells #[S o8] 235), .blk U (.cells #[S s1,S s7,Value.slice none 0 0] 105)]) Kp),E,J,V,u,Y,aa⟩
 rintro e w ⟨aw,M,rfl,H,E,J,V,u,Y,bm⟩;obtain rfl:=oI bm;refine TN ?_;refine q0a G (fun an=>?_) (fun an=>?_)
 .
  subst an;rw[if_pos rfl] at h;refine SQ (RG (ST (q08 H G Km Ta105 Ts105 Kf) G ?_));refine q04 [_,_,_] H G G G Ku Ts105 G Kf Kf (q00 G) ?_;intro w H;refine AS G G (NL (TN (RT ?_)));replace H:=H.newRowS 109 2 xenc109;obtain rfl:=oI h;exact q1J (its:=[RowS 109 2 xenc109 (Value.slice none 0 0) []]) G ⟨_,G,H.loadAgg Km Ta105 Ts105 Kf⟩ G H (by repeat(first|exact List.Sublist.refl _|apply List.Sublist.cons_cons|apply List.Sublist.cons)) ⟨_,G,G⟩
 subst an;rw[if_neg l00] at h;refine SK (TN (SQ (RG (AS G G (NL (TN (SQ ?_)))))));obtain⟨b5,a0,h⟩:=bnd h
 refine q0c (fun e w => ∃ (ah : Ls) (ai : Ls) (aj : List (Ls × Ls)) (ab : Value) (ak : Ls) (al : List (Ls × Int × Bool × Ls)) (ac : Value) (M : Mem), e = [(2, ptr O 0), (4, ptr N 0), (5, ptr U 0), (7, ac)] /\ St w0 M0 M [.blk O (.cells #[S ah, S ai, ab] 105), RowS 109 2 xenc109 ab aj, .blk N (.cells #[S ak] 235), .blk U (.cells #[S s1, S s7, Value.slice none 0 0] 105), RowS 239 4 xenc239 ac al] w /\ GlF (fun w => ∃ tp p, w.var? Tryz.prog "strconv.ErrRange" = some #[.iface tp p]) M /\ GlF (fun w => ∃ tp p, w.var? Tryz.prog "strconv.ErrSyntax" = some #[.iface tp p]) M /\ GlF (fun w => ∃ m, w.cell? ⟨0, 0, none⟩ = some (.int .i64 m)) M /\ GlF (fun w => Lib.TabIs Tryz.prog w "internal/strconv.uint64pow10" .u64 Lib.pow10Tab) M /\ Tabs M /\ some (.inl (ah, ai, aj, ak, al)) = some b5) [] ?_ ?_ (trivial)
 .
  refine BL ?_;replace H:=H.newRowS 239 4 xenc239;replace H:=H.newRowS 109 2 xenc109
  refine q0l (fun m e w => ∃ (a5 : Ls) (a6 : Ls) (a7 : List (Ls × Ls)) (a2 : Value) (am : Ls) (a8 : List (Ls × Int × Bool × Ls)) (a9 : Value) (M : Mem), e = [(2, ptr O 0), (4, ptr N 0), (5, ptr U 0), (7, a9)] /\ St w0 M0 M [.blk O (.cells #[S a5, S a6, a2] 105), RowS 109 2 xenc109 a2 a7, .blk N (.cells #[S am] 235), .blk U (.cells #[S s1, S s7, Value.slice none 0 0] 105), RowS 239 4 xenc239 a9 a8] w /\ GlF (fun w => ∃ tp p, w.var? Tryz.prog "strconv.ErrRange" = some #[.iface tp p]) M /\ GlF (fun w => ∃ tp p, w.var? Tryz.prog "strconv.ErrSyntax" = some #[.iface tp p]) M /\ GlF (fun w => ∃ m, w.cell? ⟨0, 0, none⟩ = some (.int .i64 m)) M /\ GlF (fun w => Lib.TabIs Tryz.prog w "internal/strconv.uint64pow10" .u64 Lib.pow10Tab) M /\ Tabs M /\ Y1T s1 s7 m a5 a6 a7 am a8 = some b5) FU [(2, _), (4, _), (5, _), (7, _)] ⟨rfl, rfl, rfl, rfl, trivial⟩ ⟨_, _, _, _, _, _, _, _, rfl, (H.pick (L' := [.blk O (.cells #[S [], S [], (Value.slice none 0 0)] 105), RowS 109 2 xenc109 (Value.slice none 0 0) [], .blk N (.cells #[S o8] 235), .blk U (.cells #[S s1, S s7, Value.slice none 0 0] 105), RowS 239 4 xenc239 (Value.slice none 0 0) []]) Kp), E, J, V, u, Y, a0⟩ ?_
  rintro ax e w ⟨a5,a6,a7,a2,am,a8,a9,M,rfl,H,E,J,V,u,Y,a0⟩;rcases ax with _|ax
  . rw[Y1T] at a0;cases a0
  rw[Y1T] at a0;refine SQ (SQ ?_);obtain⟨⟨c3,ay⟩,b7,a0⟩:=bnd a0;try dsimp only at a0
  refine RG (MV G G ?_);refine q0q (A:=[.blk N (.cells #[S am] 235)]) (B:=[.blk O (.cells #[S a5,S a6,a2] 105),RowS 109 2 xenc109 a2 a7, .blk U (.cells #[S s1,S s7,Value.slice none 0 0] 105),RowS 239 4 xenc239 a9 a8]) (H.pick (L':=[.blk N (.cells #[S am] 235), .blk O (.cells #[S a5,S a6,a2] 105),RowS 109 2 xenc109 a2 a7, .blk U (.cells #[S s1,S s7,Value.slice none 0 0] 105),RowS 239 4 xenc239 a9 a8]) Kp) (Y2n b7) (.left (q0r _)) G trivial (q00 G) G ?_;intro c4 M w its H K hR;replace E:=E.mono K;replace J:=J.mono K;replace V:=V.mono K;replace u:=u.mono K;replace Y:=Y.mono K;try dsimp only at hR
  obtain⟨rfl,rfl⟩:=hR;simp only[l02,l03] at H;refine NL (TN ?_);refine q0a G (fun ao=>?_) (fun ao=>?_)
  .
   subst ao;rw[if_pos rfl] at a0;refine SK (TN (BL (SQ ?_)));obtain⟨⟨⟨bn,bo,bp,bq⟩,b6,br⟩,b8,a0⟩:=bnd a0;try dsimp only at a0
   refine RG (MV G G ?_);refine q0q (A:=[.blk N (.cells #[S ay] 235)]) (B:=[.blk O (.cells #[S a5,S a6,a2] 105),RowS 109 2 xenc109 a2 a7, .blk U (.cells #[S s1,S s7,Value.slice none 0 0] 105),RowS 239 4 xenc239 a9 a8]) (H.pick (L':=[.blk N (.cells #[S ay] 235), .blk O (.cells #[S a5,S a6,a2] 105),RowS 109 2 xenc109 a2 a7, .blk U (.cells #[S s1,S s7,Value.slice none 0 0] 105),RowS 239 4 xenc239 a9 a8]) Kp) (Y5e b8) (.left (q0r _)) G ⟨E,J,V,u⟩ (q00 G) G ?_;intro c5 M w its H K hR;replace E:=E.mono K;replace J:=J.mono K;replace V:=V.mono K;replace u:=u.mono K;replace Y:=Y.mono K;try dsimp only at hR
   obtain⟨rfl,rfl⟩:=hR;simp only[l02,l03] at H;refine MV G G (ST (q05 G G) G (ST (q05 G G) G (q09 [_,_,_,_] H Tz239 G (q00 G) G ?_)));intro c6 w H;refine q04 [_,_,_,_] H G G G Ku Ts239 G Kf Kf (q00 G) ?_;intro w H;refine AS G G (NL (TN (SQ (SQ (RG (MV G G (ST (q0y G) G (NL (TN ?_)))))))));refine q0a G (fun a4=>?_) (fun a4=>?_)
   .
    replace a4:b6=false:=by simpa using a4
    subst a4;rw[if_neg l00] at a0;refine SQ (RG (ST (q08 H G Km Ta105 Ts105 Kf) G ?_));refine q04 [_,_,_] H G G G Ku Ts105 G Kf Kf (q00 G) ?_;intro w H;refine AS G G (NL (TN (RT ?_)));replace H:=H.newRowS 109 2 xenc109;obtain rfl:=oI a0;try dsimp only at h
    obtain rfl:=oI h;exact q1J (its:=[RowS 109 2 xenc109 (Value.slice none 0 0) []]) G ⟨_,G,H.loadAgg Km Ta105 Ts105 Kf⟩ G H (by repeat(first|exact List.Sublist.refl _|apply List.Sublist.cons_cons|apply List.Sublist.cons)) ⟨_,G,G⟩
   replace a4:b6=true:=by simpa using a4
   subst a4;rw[if_pos rfl] at a0;refine SK (TN ?_);obtain⟨bs,b3,a0⟩:=bnd a0;refine RG (MV G G (ST (q08 H G Km Ta239 Ts239 Kf) G ?_));refine q1t (enc:=xenc239) xty237 ([(bn,bo,bp,bq)]:List (Ls × Int × Bool × Ls)) H (fun _=>G) G Kr G G G (q00 G) G ?_;intro c7 M w H K b9;replace E:=E.mono K;replace J:=J.mono K;replace V:=V.mono K;replace u:=u.mono K;replace Y:=Y.mono K;refine WR.appSC (l:=a8) xty237 G xone239 H G (fun _=>by repeat first|exact .head|apply Upd.tail) G (b9) b3 (q00 G) G ?_;intro bt w H;refine AS G G (NL (IB ?_));exact AG ax ⟨_,_,_,_,_,_,_,_,G,(H.pick (L':=[.blk O (.cells #[S a5,S a6,a2] 105),RowS 109 2 xenc109 a2 a7, .blk N (.cells #[S br] 235), .blk U (.cells #[S s1,S s7,Value.slice none 0 0] 105),RowS 239 4 xenc239 bt bs]) Kp),E,J,V,u,Y,a0⟩ (l06 _)
  subst ao;rw[if_neg l00] at a0;refine q0j (q03 (q03 (q0b ?_)));exact MN ⟨_,_,_,_,_,_,_,_,G,(H.pick (L':=[.blk O (.cells #[S a5,S a6,a2] 105),RowS 109 2 xenc109 a2 a7, .blk N (.cells #[S ay] 235), .blk U (.cells #[S s1,S s7,Value.slice none 0 0] 105),RowS 239 4 xenc239 a9 a8]) Kp),E,J,V,u,Y,a0⟩
 rintro e w ⟨ah,ai,aj,ab,ak,al,ac,M,rfl,H,E,J,V,u,Y,bu⟩;obtain rfl:=oI bu;try dsimp only at h
 refine TN (SQ ?_);obtain⟨c8,ba,h⟩:=bnd h;refine RG (MV G G ?_);refine q0q (A:=[.blk N (.cells #[S ak] 235)]) (B:=[.blk O (.cells #[S ah,S ai,ab] 105),RowS 109 2 xenc109 ab aj, .blk U (.cells #[S s1,S s7,Value.slice none 0 0] 105),RowS 239 4 xenc239 ac al]) (H.pick (L':=[.blk N (.cells #[S ak] 235), .blk O (.cells #[S ah,S ai,ab] 105),RowS 109 2 xenc109 ab aj, .blk U (.cells #[S s1,S s7,Value.slice none 0 0] 105),RowS 239 4 xenc239 ac al]) Kp) (Y2M ba) (.left (q0r _)) G trivial (q00 G) G ?_;intro c9 M w its H K hR;replace E:=E.mono K;replace J:=J.mono K;replace V:=V.mono K;replace u:=u.mono K;replace Y:=Y.mono K;obtain⟨rfl,rfl⟩:=hR;simp only[l02,l03] at H;refine NL (TN (SQ (RG (AS G G (NL (TN (SQ ?_)))))));obtain⟨⟨ap,bv⟩,bb,h⟩:=bnd h;try dsimp only at h
 refine RG (MV G G ?_);obtain⟨M,K,bc,H⟩:=H.freezeRowS (v:=ac) (enc:=xenc239) (t:=239) Kv (fun _=>rfl);replace E:=E.mono K;replace J:=J.mono K;replace V:=V.mono K;replace u:=u.mono K;replace Y:=Y.mono K;refine q1l H (Y65 bb) G ⟨Y,bc⟩ (q00 G) G ?_;intro ca M w its H K hR;replace E:=E.mono K;replace J:=J.mono K;replace V:=V.mono K;replace u:=u.mono K;replace Y:=Y.mono K;try dsimp only at hR
 obtain⟨Z,rfl,rfl⟩:=hR;simp only[l02,l03] at H;refine MV G G (ST (q05 G G) G (ST (q05 G G) G (ST (q01 Tu105 G Ts103 Dc G) G (q0Q [_,_,_] H G G (H.rowOneS Km) Ku Kf Ts103 (by first|decide|(simp;done)|(simp;omega)) (q00 G) ?_))));intro w H;refine AS G G (NL (TN (SQ ?_)));obtain⟨bw,ad,h⟩:=bnd h
 refine q0c (fun e w => ∃ (az : Ls) (b0 : Ls) (aq : List (Ls × Ls)) (ar : Value) (b1 : Bool) (M : Mem), e = [(2, ptr O 0), (3, Value.bool b1)] /\ St w0 M0 M [.blk O (.cells #[S az, S b0, ar] 105), RowS 109 2 xenc109 ar aq] w /\ GlF (fun w => ∃ tp p, w.var? Tryz.prog "strconv.ErrRange" = some #[.iface tp p]) M /\ GlF (fun w => ∃ tp p, w.var? Tryz.prog "strconv.ErrSyntax" = some #[.iface tp p]) M /\ GlF (fun w => ∃ m, w.cell? ⟨0, 0, none⟩ = some (.int .i64 m)) M /\ GlF (fun w => Lib.TabIs Tryz.prog w "internal/strconv.uint64pow10" .u64 Lib.pow10Tab) M /\ Tabs M /\ some (az, b0, aq, b1) = some bw) [] ?_ ?_ (trivial)
 .
  refine q0x (m:=11) G G H ?_;intro w H;refine TK 1 G (fun _=>q06 G) G (TK 2 G (fun _=>q06 G) G ?_);rcases bv with _|_
  .
   rw[if_neg l00] at ad;refine WA.takes (fuel:=4) [3,4,5,6,7] G Kr Kr G (TK 8 G (fun _=>Ex.pickF G G) G (q0k (fuel:=0) [0,9,10] G Kr (ST (q08 H G Km Ta105 Ts105 Kf) G ?_)));refine q04 [_,_,_] H G G G Ku Ts105 G Kf (by simp only[l0b,l0i,(H.rowOneS (v:=Z) Km).2];rfl) (q00 G) ?_;intro w H;refine AS G G (NA (q0f Kr ?_));exact MN ⟨_,_,_,_,_,_,G,(H.pick (L':=[.blk O (.cells #[S s1,S s7,Z] 105),RowS 109 2 xenc109 Z ap]) Kp),E,J,V,u,Y,ad⟩
  rw[if_pos rfl] at ad;refine q0P (i:=3) G Kr Kr Kr (fun _=>q06 G) (q0h G G G) G G (fun _ _=>G) (q0P (i:=4) G Kr Kr Kr (fun _=>q0S G) (q0h G G G) G G (fun _ _=>G) (q0P (i:=5) G Kr Kr Kr (fun _=>q01 Tu235 G Ts9 Dc G) (q0h G G G) G G (fun _ _=>G) ?_));refine q0E (i:=0) (j:=6) Kr G G ?_ ?_
  .
   refine ST (q08 H G Km Ta105 Ts105 Kf) G ?_;refine NA ?_;refine q0E (i:=6) (j:=9) Kr G G ?_ ?_
   .
    refine SG (XL H Ta9) G G G ?_;refine NA (q0P (i:=7) G Kr Kr Kr (fun _=>q0B G G) (q0h G G G) G G (fun _ _=>G) (TK 8 G (fun _=>Ex.pickT G G) G (q0k (fuel:=0) [9,10] G Kr (q04 [_,_,_] H G G G Ku Ts105 G Kf (by simp only[l0b,l0i,(H.rowOneS (v:=Z) Km).2];rfl) (q00 G) ?_))));intro w H;refine AS G G (NA (q0f Kr ?_));exact MN ⟨_,_,_,_,_,_,G,(H.pick (L':=[.blk O (.cells #[S s1,S s7,Z] 105),RowS 109 2 xenc109 Z ap]) Kp),E,J,V,u,Y,ad⟩
   refine q04 [_,_,_] H G G G Ku Ts105 G Kf (by simp only[l0b,l0i,(H.rowOneS (v:=Z) Km).2];rfl) (q00 G) ?_;intro w H;refine NA (q0k (fuel:=0) [6,7,8,10] G Kr (SG (XL H Ta9) G G G ?_));refine SG (q0B G G) G G G (PT G G G (AS G G (NA (q0f Kr ?_))));exact MN ⟨_,_,_,_,_,_,G,(H.pick (L':=[.blk O (.cells #[S s1,S s7,Z] 105),RowS 109 2 xenc109 Z ap]) Kp),E,J,V,u,Y,ad⟩
  refine SG (XL H Ta9) G G G ?_;refine NA (q0P (i:=7) G Kr Kr Kr (fun _=>q0B G G) (q0h G G G) G G (fun _ _=>G) (TK 8 G (fun _=>Ex.pickT G G) G (q0k (fuel:=0) [0,9,10] G Kr (ST (q08 H G Km Ta105 Ts105 Kf) G ?_))));refine q04 [_,_,_] H G G G Ku Ts105 G Kf (by simp only[l0b,l0i,(H.rowOneS (v:=Z) Km).2];rfl) (q00 G) ?_;intro w H;refine AS G G (NA (q0f Kr ?_));exact MN ⟨_,_,_,_,_,_,G,(H.pick (L':=[.blk O (.cells #[S s1,S s7,Z] 105),RowS 109 2 xenc109 Z ap]) Kp),E,J,V,u,Y,ad⟩
 rintro e w ⟨az,b0,aq,ar,b1,M,rfl,H,E,J,V,u,Y,bx⟩;obtain rfl:=oI bx;try dsimp only at h
 refine TN (RT ?_);obtain rfl:=oI h;exact q1J (its:=[RowS 109 2 xenc109 ar aq]) G ⟨_,G,H.loadAgg Km Ta105 Ts105 Kf⟩ G H (by repeat(first|exact List.Sublist.refl _|apply List.Sublist.cons_cons|apply List.Sublist.cons)) ⟨_,G,G⟩
theorem Y3L {p0:Ls}{r:Bool}(h:Y2U p0=some r):Ct Tryz.prog 128 [S p0] (fun M=>True) (fun v M=>v=Value.bool r):=by
 refine Ct.of Tryz.func128 (enters Tryz.func128 Kr G) G G G ?_;intro O M0 H hp;unfold Y2U at h;refine SQ (RG (AS G G (NL (TN (SQ ?_)))));obtain⟨U,u,h⟩:=bnd h;refine q0c (fun e w =>∃(K:Bool) (M:Mem),e=[(2,Value.bool K)]/\St O M0 M [] w/\some K=some U) [] ?_ ?_ (trivial)
 .
  by_cases E:p0=[]
  .
   rw[if_pos E] at u;refine RG (MV G G (q0D (v' := .bool false) (q1m G G) (congrArg Value.bool (by rw[decide_eq_true E];rfl)) (q00 G) G G ?_));refine MV G G (q0i 3 G G (PF G G G (MV G G (GF G G G (GF G G G (PF G G G (AS G G (NL ?_))))))));exact MN ⟨_,_,G,H,u⟩
  rw[if_neg E] at u;refine RG (MV G G (q0D (v' := .bool true) (q1m G G) (congrArg Value.bool (by rw[decide_eq_false E];rfl)) (q00 G) G G ?_));refine MV G G (SG (q06 G) G G G (SG (q0g Tu9 G) G G G ?_));by_cases J:(p0.length:Int)<=(60:Int)
  .
   rw[if_pos J] at u;obtain⟨b6,N,u⟩:=bnd u;refine DU J (q1q G G) G G G (PT G G G (MV G G (SG (q06 G) G G G (q02 H (Y4m N) G ((fun _ _ h=>FnV.of (Y1G h) (fun _ _=>trivial))) (q0h G G G) G ?_))));intro Y M w H Z hR;obtain rfl:=hR;refine PT G G G (AS G G (NL ?_));exact MN ⟨_,_,G,H,u⟩
  rw[if_neg J] at u;refine DG J (q1q G G) G G G (PT G G G (MV G G (GF G G G (GF G G G (PF G G G (AS G G (NL ?_)))))));exact MN ⟨_,_,G,H,u⟩
 rintro e w ⟨K,M,rfl,H,V⟩;obtain rfl:=oI V;refine TN (RT ?_);obtain rfl:=oI h;exact q07 G G H.ext G
theorem Y4v {p0:List (Ls × Ls)}{V:((Ls × Ls)->Option Bool)}{K:Value}{N:Value}{r:Int}(h:Y28 p0 V=some r):Ct Tryz.prog 122 [K,N] (fun M=>SlS M 2 xenc109 K p0/\FnT153 M N V) (fun v M=>v=I r):=by
 refine Ct.of Tryz.func122 (enters Tryz.func122 Kr G) G G G ?_;intro w0 M0 H hp;obtain⟨E,J⟩:=hp;unfold Y28 at h;refine SQ (RG (AS G G (NL (TN (SQ (SQ (RG (MV G G (ST (q0N Tu103 E G) G (MV G G (NL (TN ?_))))))))))));obtain⟨o1,u,h⟩:=bnd h;refine q0c (fun e w =>∃  (M:Mem),e=[]/\St w0 M0 M [] w/\some (.inl ())=some o1) [] ?_ ?_ (trivial)
 .
  refine BL (q0l (fun m e w =>∃(Y:Int) (M:Mem),e=[(0,K),(1,N),(7,I (p0.length:Int)),(8,I Y)]/\St w0 M0 M [] w/\SlS M 2 xenc109 K p0/\FnT153 M N V/\Y0j p0 V m Y=some o1) FU [(0,_),(1,_),(7,_),(8,_)] ⟨rfl,rfl,rfl,rfl,trivial⟩ ⟨_,_,rfl,H,E,J,u⟩ ?_);rintro m4 e w ⟨Y,M,rfl,H,E,J,u⟩;rcases m4 with _|m4
  . rw[Y0j] at u;cases u
  rw[Y0j] at u;refine SQ (RG (ST (q0m G G) G (NL (TN (SQ ?_)))));refine CB (p:=Y<(p0.length:Int)) G (fun O=>?_) fun O=>?_
  .
   rw[if_pos O] at u;refine SK (TN (SQ (BL (SQ (RG (MV G G (AS G G (NL (TN (SQ ?_))))))))));obtain⟨a6,a2,u⟩:=bnd u;obtain⟨aa,ab,a3,a4⟩:=E.atC a2;obtain⟨b7,a8,u⟩:=bnd u;refine RG (MV G G (MV G G (MV G G (ST (q0s a3 Tu103 Ts109 G G) G (ST (q0G H G a4 Ta109 Ts109 Kf) G ?_)))));refine WR.callF H (J _ _ a8) G G (q00 G) G ?_;intro ac M w H a0 hR;replace E:=E.mono a0;replace J:=J.mono a0;obtain rfl:=hR;refine NL (TN ?_);refine q0a G (fun U=>?_) (fun U=>?_)
   .
    subst U;rw[if_pos rfl] at u;refine SQ (RG (MV G G (AS G G (NL (TN (RT ?_))))));obtain rfl:=oI u;try dsimp only at h
    obtain rfl:=oI h;exact q07 G G H.ext G
   subst U;rw[if_neg l00] at u;refine SK (IB (TN ?_));obtain⟨ad,Z,u⟩:=bnd u;refine RG (ST (q0e G G Z) G (MV G G (NL ?_)));exact AG m4 ⟨_,_,G,H,E,J,u⟩ (l06 _)
  rw[if_neg O] at u;refine q0j (q03 (q03 (q0b ?_)));exact MN ⟨_,G,H,u⟩
 rintro e w ⟨M,rfl,H,a9⟩;obtain rfl:=oI a9;try dsimp only at h
 refine TN (SQ (RG (AS G G (NL (TN (RT ?_))))));obtain rfl:=oI h;exact q07 G G H.ext G
theorem Y41 {p0:List (Ls × Ls)}{J:((Ls × Ls)->Option Bool)}{u:Value}{E:Value}{r:Bool}(h:Y11 p0 J=some r):Ct Tryz.prog 129 [u,E] (fun M=>SlS M 2 xenc109 u p0/\FnT153 M E J) (fun v M=>v=Value.bool r):=by
 refine Ct.of Tryz.func129 (enters Tryz.func129 Kr G) G G G ?_;intro V M0 H hp;obtain⟨K,N⟩:=hp;unfold Y11 at h;refine SQ (RG (AS G G (NL (TN (SQ ?_)))));obtain⟨Y,O,h⟩:=bnd h;refine RG (MV G G (MV G G (q02 H (Y4v O) G ⟨K,N⟩ (q00 G) G ?_)));intro Z M w H U hR;obtain rfl:=hR;refine ST (q0R G G) G (AS G G (NL (TN (RT ?_))));obtain rfl:=oI h;exact q07 G G H.ext G
theorem Y5x {p0:(Ls × Ls)}{E:(Ls × Ls)}{u:Nat}{r:Bool}(h:Y3h p0 E=some r):Ct Tryz.prog 130 [Value.agg #[S p0.1,S p0.2],ptr u 0] (fun M=>PtM M u (.cells #[S E.1,S E.2] 109)) (fun v M=>v=Value.bool r):=by
 refine Ct.of Tryz.func130 (enters Tryz.func130 Kr G) G G G ?_;intro U M0 H hp;have J:=hp;unfold Y3h at h;refine SQ (RG (q0F [_,_] H G G (q00 G) G ?_));intro N w H;refine AS G G (NL (TN (SQ ?_)));obtain⟨V,K,h⟩:=bnd h;refine RG (ST (q01 Tu109 G Ts9 Dc G) G (ST (XL H Ta9) G ?_));refine ST (q01 Tu109 G Ts9 Dc G) G (ST (q0n H G (J.cell (j:=0) G) Ta9) G (q02 H (Y18 K) G trivial (q00 G) G ?_));intro Y M w H O hR;obtain rfl:=hR;refine AS G G (NL (TN (RT ?_)));obtain rfl:=oI h;exact q07 G G H.ext G
theorem Y3J {p0:(Ls × Ls × List (Ls × Ls))}{K:Value}{r:(Int × Int)}(h:Y2j p0=some r):Ct Tryz.prog 94 [Value.agg #[S p0.1,S p0.2.1,K]] (fun M=>Tabs M/\SlS M 2 xenc109 K p0.2.2) (fun v M=>v=Value.agg #[I r.1,I r.2]):=by
 refine Ct.of Tryz.func94 (enters Tryz.func94 Kr G) G G G ?_;intro w0 M0 H hp;obtain⟨N,E⟩:=hp;unfold Y2j at h;refine SQ (RG (q0F [_,_,_] H G G (q00 G) G ?_));intro U w H;refine q09 [_,_] H Tz28 G (q00 G) G ?_;intro O w H;refine NL (TN (SQ (SQ ?_)));obtain⟨o1,e2,h⟩:=bnd h;refine q0c (fun e w =>∃(b3:Bool) (M:Mem),e=[(1,ptr U 0),(2,ptr O 0),(14,Value.bool b3)]/\St w0 M0 M [.blk U (.cells #[S p0.1,S p0.2.1,K] 105), .blk O (.cells #[I 0,I 0] 28)] w/\Tabs M/\SlS M 2 xenc109 K p0.2.2/\some b3=some o1) [] ?_ ?_ (trivial)
 .
  obtain⟨b4,b8,e2⟩:=bnd e2;refine RG (ST (q01 Tu105 G Ts9 Dc G) G (ST (XL H Ta9) G ?_));refine q02 H (Y3L b8) G trivial (q00 G) G ?_;intro v7 M w H J hR;replace N:=N.mono J;replace E:=E.mono J;obtain rfl:=hR;refine ST (q0y G) G (MV G G ?_);rcases b4 with _|_
  .
   rw[if_neg l00] at e2;refine q0i 4 G G (PT G G G (NL ?_));exact MN ⟨_,_,G,(H.pick (L':=[.blk U (.cells #[S p0.1,S p0.2.1,K] 105), .blk O (.cells #[I 0,I 0] 28)]) Kp),N,E,e2⟩
  rw[if_pos rfl] at e2;obtain⟨b6,b9,e2⟩:=bnd e2;refine SG (q01 Tu105 G Ts9 Dc G) G G G (SG (XL H Ta9) G G G ?_);refine q02 H (Y3L b9) G trivial (q0h G G G) G ?_;intro bi M w H J hR;replace N:=N.mono J;replace E:=E.mono J;obtain rfl:=hR;refine SG (q0y G) G G G (PF G G G (NL ?_));exact MN ⟨_,_,G,(H.pick (L':=[.blk U (.cells #[S p0.1,S p0.2.1,K] 105), .blk O (.cells #[I 0,I 0] 28)]) Kp),N,E,e2⟩
 rintro e w ⟨b3,M,rfl,H,N,E,q8⟩;obtain rfl:=oI q8;refine TN ?_;refine q0a G (fun ac=>?_) (fun ac=>?_)
 .
  subst ac;rw[if_pos rfl] at h;refine SQ ?_;obtain⟨⟨bj,bm⟩,ar,h⟩:=bnd h;try dsimp only at h
  refine RG (q02 H (Y02 ar) G trivial (q00 G) G ?_);intro bn M w H J hR;try dsimp only at hR
  obtain rfl:=hR;refine q04 [_,_] H G G G Ku Ts28 G Kf Kf (q00 G) ?_;intro w H;refine NL (TN (RT ?_));obtain rfl:=oI h;exact q07 G ⟨_,G,H.loadAgg Km Ta28 Ts28 Kf⟩ H.ext G
 subst ac;rw[if_neg l00] at h;refine SK (TN (SQ (SQ (RG (ST (q01 Tu105 G Ts103 Dc G) G (ST (XL H Ta103) G ?_))))));refine ST (q0N Tu103 E G) G (ST (q0C G G) G (NL (TN ?_)));refine CB (p:=(60:Int)<(p0.2.2.length:Int)) G (fun a6=>?_) fun a6=>?_
 .
  rw[if_pos a6] at h;refine SQ ?_;obtain⟨⟨bo,bp⟩,au,h⟩:=bnd h;try dsimp only at h
  refine RG (q02 H (Y02 au) G trivial (q00 G) G ?_);intro bq M w H J hR;try dsimp only at hR
  obtain rfl:=hR;refine q04 [_,_] H G G G Ku Ts28 G Kf Kf (q00 G) ?_;intro w H;refine NL (TN (RT ?_));obtain rfl:=oI h;exact q07 G ⟨_,G,H.loadAgg Km Ta28 Ts28 Kf⟩ H.ext G
 rw[if_neg a6] at h;refine SK (TN (SQ (SQ (RG (ST (q01 Tu105 G Ts103 Dc G) G (ST (XL H Ta103) G ?_))))));refine ST (q0N Tu103 E G) G (MV G G (NL (TN ?_)));obtain⟨an,u,h⟩:=bnd h;refine q0c (fun e w =>∃(ad:Int) (ae:Int) (M:Mem),e=[(2,ptr O 0)]/\St w0 M0 M [.blk O (.cells #[I ad,I ae] 28)] w/\Tabs M/\some (.inl (ad,ae))=some an) [] ?_ ?_ (trivial)
 .
  refine BL (q0l (fun m e w =>∃(Y:Int) (Z:Int) (a2:Int) (M:Mem),e=[(1,ptr U 0),(2,ptr O 0),(22,K),(23,I (p0.2.2.length:Int)),(24,I a2)]/\St w0 M0 M [.blk U (.cells #[S p0.1,S p0.2.1,K] 105), .blk O (.cells #[I Y,I Z] 28)] w/\Tabs M/\SlS M 2 xenc109 K p0.2.2/\Y0O p0 m Y Z a2=some an) FU [(1,_),(2,_),(22,_),(23,_),(24,_)] ⟨rfl,rfl,rfl,rfl,rfl,trivial⟩ ⟨_,_,_,_,rfl,H,N,E,u⟩ ?_);rintro ah e w ⟨Y,Z,a2,M,rfl,H,N,E,u⟩;rcases ah with _|ah
  . rw[Y0O] at u;cases u
  rw[Y0O] at u;refine SQ (RG (ST (q0m G G) G (NL (TN (SQ ?_)))));refine CB (p:=a2<(p0.2.2.length:Int)) G (fun a7=>?_) fun a7=>?_
  .
   rw[if_pos a7] at u;refine SK (TN (SQ (BL (SQ ?_))));obtain⟨a0,ak,u⟩:=bnd u;obtain⟨bh,ao,av,aw⟩:=E.atC ak;refine RG (MV G G (ST (q0s av Tu103 Ts109 G G) G (ST (q0G H G aw Ta109 Ts109 Kf) G ?_)));refine q09 [_,_] H Tz109 G (q00 G) G ?_;intro a3 w H;refine AS G G (q04 [_,_] H G G G Ku Ts109 G Kf Kf (q00 G) ?_);intro w H;refine NL (TN (BL (SQ ?_)));obtain⟨ao,a4,u⟩:=bnd u;refine q0c (fun e w =>∃(ai:Bool) (M:Mem),e=[(1,ptr U 0),(2,ptr O 0),(3,I a2),(4,ptr a3 0),(22,K),(23,I (p0.2.2.length:Int)),(24,I a2),(29,Value.bool ai)]/\St w0 M0 M [.blk U (.cells #[S p0.1,S p0.2.1,K] 105), .blk O (.cells #[I Y,I Z] 28), .blk a3 (.cells #[S a0.1,S a0.2] 109)] w/\Tabs M/\SlS M 2 xenc109 K p0.2.2/\some ai=some ao) [] ?_ ?_ (trivial)
   .
    obtain⟨ba,ax,a4⟩:=bnd a4;refine RG (ST (q01 Tu109 G Ts9 Dc G) G (ST (XL H Ta9) G ?_));refine q02 H (Y3L ax) G trivial (q00 G) G ?_;intro br M w H J hR;replace N:=N.mono J;replace E:=E.mono J;obtain rfl:=hR;refine ST (q0y G) G (MV G G ?_);rcases ba with _|_
    .
     rw[if_neg l00] at a4;refine q0i 4 G G (PT G G G (AS G G (NL ?_)));exact MN ⟨_,_,G,(H.pick (L':=[.blk U (.cells #[S p0.1,S p0.2.1,K] 105), .blk O (.cells #[I Y,I Z] 28), .blk a3 (.cells #[S a0.1,S a0.2] 109)]) Kp),N,E,a4⟩
    rw[if_pos rfl] at a4;refine SG (q01 Tu109 G Ts9 Dc G) G G G (SG (XL H Ta9) G G G ?_);refine SG (q0g Tu9 G) G G G (SG (q0C G G) G G G (PF G G G (AS G G (NL ?_))));exact MN ⟨_,_,G,(H.pick (L':=[.blk U (.cells #[S p0.1,S p0.2.1,K] 105), .blk O (.cells #[I Y,I Z] 28), .blk a3 (.cells #[S a0.1,S a0.2] 109)]) Kp),N,E,a4⟩
   rintro e w ⟨ai,M,rfl,H,N,E,bb⟩;obtain rfl:=oI bb;refine TN ?_;refine q0a G (fun a8=>?_) (fun a8=>?_)
   .
    subst a8;rw[if_pos rfl] at u;refine SQ ?_;obtain⟨⟨bs,bt⟩,ay,u⟩:=bnd u;try dsimp only at u
    refine RG (MV G G (q02 H (Y02 ay) G trivial (q00 G) G ?_));intro bu M w H J hR;try dsimp only at hR
    obtain rfl:=hR;refine q04 [_,_] H G G G Ku Ts28 G Kf Kf (q00 G) ?_;intro w H;refine NL (TN (RT ?_));obtain rfl:=oI u;try dsimp only at h
    obtain rfl:=oI h;exact q07 G ⟨_,G,H.loadAgg Km Ta28 Ts28 Kf⟩ H.ext G
   subst a8;rw[if_neg l00] at u;refine SQ ?_;obtain⟨bv,al,u⟩:=bnd u;obtain⟨bw,az,u⟩:=bnd u;refine RG (ST (q01 Tu105 G Ts103 Dc G) G (ST (XL H Ta103) G ?_));refine MV G G (WR.sliceSSH Tu103 Ts109 (E) G G al (q00 G) G ?_);intro bx a9;obtain⟨M,J,a1,H⟩:=H.freezeVar (b:=a3) Kv;replace N:=N.mono J;replace E:=E.mono J;replace a9:=a9.mono J;refine ST (q1s G) G (q02 H (Y41 az) G ⟨a9,(fun _ _ h=>FnV.ofCap [ptr a3 0] (Y5x h) (fun _ hm=>a1.mono hm))⟩ (q00 G) G ?_);intro bz M w H J hR;replace N:=N.mono J;replace E:=E.mono J;replace a1:=a1.mono J;obtain rfl:=hR;refine AS G G (NL (TN ?_));refine q0a G (fun aa=>?_) (fun aa=>?_)
   .
    subst aa;rw[if_pos rfl] at u;refine SQ ?_;obtain⟨⟨c0,c1⟩,b0,u⟩:=bnd u;try dsimp only at u
    refine RG (MV G G (q02 H (Y02 b0) G trivial (q00 G) G ?_));intro c2 M w H J hR;try dsimp only at hR
    obtain rfl:=hR;refine q04 [_,_] H G G G Ku Ts28 G Kf Kf (q00 G) ?_;intro w H;refine NL (TN (RT ?_));obtain rfl:=oI u;try dsimp only at h
    obtain rfl:=oI h;exact q07 G ⟨_,G,H.loadAgg Km Ta28 Ts28 Kf⟩ H.ext G
   subst aa;rw[if_neg l00] at u;refine SQ (RG (ST (q01 Tu109 G Ts9 Dc G) G (ST (q0n H G (a1.cell (j:=1) G) Ta9) G (ST (q0g Tu9 G) G (ST (q0C G G) G (AS G G (NL (TN ?_))))))));refine CB (p:=(500:Int)<(a0.2.length:Int)) G (fun ab=>?_) fun ab=>?_
   .
    rw[if_pos ab] at u;refine SQ ?_;obtain⟨⟨c3,c4⟩,b1,u⟩:=bnd u;try dsimp only at u
    refine RG (MV G G (q02 H (Y02 b1) G trivial (q00 G) G ?_));intro c5 M w H J hR;try dsimp only at hR
    obtain rfl:=hR;refine q04 [_,_] H G G G Ku Ts28 G Kf Kf (q00 G) ?_;intro w H;refine NL (TN (RT ?_));obtain rfl:=oI u;try dsimp only at h
    obtain rfl:=oI h;exact q07 G ⟨_,G,H.loadAgg Km Ta28 Ts28 Kf⟩ H.ext G
   rw[if_neg ab] at u;refine SQ ?_;obtain⟨ap,b2,u⟩:=bnd u;refine RG (ST (q01 Tu109 G Ts9 Dc G) G (ST (q0n H G (a1.cell (j:=1) G) Ta9) G (q02 H (Y5u b2) G (N) (q00 G) G ?_)));intro c6 M w H J hR;replace N:=N.mono J;replace E:=E.mono J;obtain rfl:=hR;refine ST (q0y G) G (AS G G (NL (TN ?_)));refine q0a G (fun V=>?_) (fun V=>?_)
   .
    replace V:ap=false:=by simpa using V
    subst V;rw[if_neg l00] at u;refine SQ ?_;obtain⟨⟨c7,c8⟩,b5,u⟩:=bnd u;try dsimp only at u
    refine RG (MV G G (q02 H (Y02 b5) G trivial (q00 G) G ?_));intro c9 M w H J hR;try dsimp only at hR
    obtain rfl:=hR;refine q04 [_,_] H G G G Ku Ts28 G Kf Kf (q00 G) ?_;intro w H;refine NL (TN (RT ?_));obtain rfl:=oI u;try dsimp only at h
    obtain rfl:=oI h;exact q07 G ⟨_,G,H.loadAgg Km Ta28 Ts28 Kf⟩ H.ext G
   replace V:ap=true:=by simpa using V
   subst V;rw[if_pos rfl] at u;refine SK (IB (IB (TN ?_)));obtain⟨ca,am,u⟩:=bnd u;refine RG (ST (q0e G G am) G (MV G G (NL ?_)));exact AG ah ⟨_,_,_,_,G,H,N,E,u⟩ (l06 _)
  rw[if_neg a7] at u;refine q0j (q03 (q03 (q0b ?_)));exact MN ⟨_,_,_,G,(H.pick (L':=[.blk O (.cells #[I Y,I Z] 28)]) Kp),N,u⟩
 rintro e w ⟨ad,ae,M,rfl,H,N,bc⟩;obtain rfl:=oI bc;try dsimp only at h
 refine TN (SQ ?_);obtain⟨⟨cb,cc⟩,b7,h⟩:=bnd h;try dsimp only at h
 refine RG (q02 H (Y07 b7) G trivial (q00 G) G ?_);intro cd M w H J hR;try dsimp only at hR
 obtain rfl:=hR;refine q04 [_,_] H G G G Ku Ts28 G Kf Kf (q00 G) ?_;intro w H;refine NL (TN (RT ?_));obtain rfl:=oI h;exact q07 G ⟨_,G,H.loadAgg Km Ta28 Ts28 Kf⟩ H.ext G
theorem Y6g {p0 : Ls}{r : ((Ls × Ls × List (Ls × Ls)) × (Int × Int))}(h : Y48 p0 = some r): CtO Tryz.prog 93 [S p0] (fun M => GlF (fun w => ∃ tp p, w.var? Tryz.prog "strconv.ErrRange" = some #[.iface tp p]) M /\ GlF (fun w => ∃ tp p, w.var? Tryz.prog "strconv.ErrSyntax" = some #[.iface tp p]) M /\ GlF (fun w => ∃ m, w.cell? ⟨0, 0, none⟩ = some (.int .i64 m)) M /\ GlF (fun w => Lib.TabIs Tryz.prog w "internal/strconv.uint64pow10" .u64 Lib.pow10Tab) M /\ Tabs M) (fun v M its => ∃ a1, v = Value.tuple #[Value.agg #[S r.1.1, S r.1.2.1, a1], Value.agg #[I r.2.1, I r.2.2]] /\ its = [RowS 109 2 xenc109 a1 r.1.2.2]) := by
 refine CtO.of Tryz.func93 (enters Tryz.func93 Kr G) G G G ?_;intro w0 M0 H hp;obtain⟨E,J,V,u,O⟩:=hp;unfold Y48 at h;refine SQ (RG (q09 [_,_,_] H Tz105 G (q00 G) G ?_));intro Z w H;refine q09 [_,_] H Tz28 G (q00 G) G ?_;intro a0 w H;refine NL (TN (SQ (SQ (RG (MV G G (ST (q0g Tu9 G) G (ST (q0C G G) G (NL (TN ?_)))))))));refine CB (p:=(4000:Int)<(p0.length:Int)) G (fun a2=>?_) fun a2=>?_
 .
  rw[if_pos a2] at h;refine SQ ?_;obtain⟨⟨n2,n3⟩,ae,h⟩:=bnd h;try dsimp only at h
  refine RG (ST (q0v [S [],S [],Value.slice none 0 0] Tu105 Tz105 (xplaces105 Tu105) G G) G (q02 H (Y02 ae) G trivial (q00 G) G ?_));intro al M w H K hR;try dsimp only at hR
  obtain rfl:=hR;refine q04 [_,_,_] H G G G Ku Ts105 G Kf Kf (q00 G) ?_;intro w H;refine q04 [_,_] H G G G Ku Ts28 G Kf Kf (q00 G) ?_;intro w H;refine NL (TN (RT ?_));replace H:=H.newRowS 109 2 xenc109;obtain rfl:=oI h;exact q1J (its:=[RowS 109 2 xenc109 (Value.slice none 0 0) []]) G ⟨_,G,H.loadAgg Km Ta105 Ts105 Kf⟩ ⟨_,G,H.loadAgg Km Ta28 Ts28 Kf⟩ H (by repeat(first|exact List.Sublist.refl _|apply List.Sublist.cons_cons|apply List.Sublist.cons)) ⟨_,G,G⟩
 rw[if_neg a2] at h;refine SK (TN (SQ ?_));obtain⟨⟨⟨s6,s7,l8⟩,b9⟩,a9,h⟩:=bnd h;try dsimp only at h
 refine RG (MV G G (q1l H (Y6f a9) G ⟨E,J,V,u,O⟩ (q00 G) G ?_));intro am M w its H K hR;replace E:=E.mono K;replace J:=J.mono K;replace V:=V.mono K;replace u:=u.mono K;replace O:=O.mono K;try dsimp only at hR
 obtain⟨N,rfl,rfl⟩:=hR;simp only[l02,l03] at H;refine MV G G (ST (q05 G G) G (ST (q05 G G) G (q09 [_,_,_] H Tz105 G (q00 G) G ?_)));intro an w H;refine q04 [_,_,_] H G G G Ku Ts105 G Kf (by simp only[l0b,l0i,(H.rowOneS (v:=N) Km).2];rfl) (q00 G) ?_;intro w H;refine AS G G (NL (TN (SQ (SQ (RG (MV G G (ST (q0y G) G (NL (TN ?_)))))))));refine q0a G (fun U=>?_) (fun U=>?_)
 .
  replace U:b9=false:=by simpa using U
  subst U;rw[if_neg l00] at h;refine SQ ?_;obtain⟨⟨ao,ap⟩,aa,h⟩:=bnd h;try dsimp only at h
  refine RG (ST (q0v [S [],S [],Value.slice none 0 0] Tu105 Tz105 (xplaces105 Tu105) G G) G (q02 H (Y02 aa) G trivial (q00 G) G ?_));intro aq M w H K hR;try dsimp only at hR
  obtain rfl:=hR;refine q04 [_,_,_] H G G G Ku Ts105 G Kf Kf (q00 G) ?_;intro w H;refine q04 [_,_] H G G G Ku Ts28 G Kf Kf (q00 G) ?_;intro w H;refine NL (TN (RT ?_));replace H:=H.newRowS 109 2 xenc109;obtain rfl:=oI h;exact q1J (its:=[RowS 109 2 xenc109 (Value.slice none 0 0) []]) G ⟨_,G,H.loadAgg Km Ta105 Ts105 Kf⟩ ⟨_,G,H.loadAgg Km Ta28 Ts28 Kf⟩ H (by repeat(first|exact List.Sublist.refl _|apply List.Sublist.cons_cons|apply List.Sublist.cons)) ⟨_,G,G⟩
 replace U:b9=true:=by simpa using U
 subst U;rw[if_pos rfl] at h;refine SK (TN (SQ (SQ ?_)));obtain⟨⟨ar,au⟩,ab,h⟩:=bnd h;try dsimp only at h
 refine RG (ST (q08 H G Km Ta105 Ts105 Kf) G ?_);refine WR.callLendS (l:=l8) (enc:=xenc109) (t:=109) H Km (fun _=>G) (Y3J ab) (fun _ _ _ h=>h) G (fun _ ai hbor=>⟨(O).mono ai,hbor⟩) (q00 G) G ?_;intro av M w H K hR;replace E:=E.mono K;replace J:=J.mono K;replace V:=V.mono K;replace u:=u.mono K;replace O:=O.mono K;try dsimp only at hR
 obtain rfl:=hR;refine q09 [_,_] H Tz28 G (q00 G) G ?_;intro aw w H;refine q04 [_,_] H G G G Ku Ts28 G Kf Kf (q00 G) ?_;intro w H;refine NL (TN (SQ ?_));obtain⟨ax,ac,h⟩:=bnd h;refine RG (ST (q08 H G Km Ta28 Ts28 Kf) G ?_);refine q02 H (Y06 ac) G trivial (q00 G) G ?_;intro ay M w H K hR;replace E:=E.mono K;replace J:=J.mono K;replace V:=V.mono K;replace u:=u.mono K;replace O:=O.mono K;obtain rfl:=hR;refine NL (TN ?_);refine q0a G (fun Y=>?_) (fun Y=>?_)
 .
  subst Y;rw[if_pos rfl] at h;refine SQ ?_;obtain⟨⟨az,b0⟩,ad,h⟩:=bnd h;try dsimp only at h
  refine RG (ST (q0v [S [],S [],Value.slice none 0 0] Tu105 Tz105 (xplaces105 Tu105) G G) G (ST (q01 Tu28 G Ts3 Dc G) G (ST (XL H Ta3) G ?_)));refine q02 H (Y02 ad) G trivial (q00 G) G ?_;intro b1 M w H K hR;try dsimp only at hR
  obtain rfl:=hR;refine q04 [_,_,_] H G G G Ku Ts105 G Kf Kf (q00 G) ?_;intro w H;refine q04 [_,_] H G G G Ku Ts28 G Kf Kf (q00 G) ?_;intro w H;refine NL (TN (RT ?_));replace H:=H.newRowS 109 2 xenc109;obtain rfl:=oI h;exact q1J (its:=[RowS 109 2 xenc109 (Value.slice none 0 0) []]) G ⟨_,G,H.loadAgg Km Ta105 Ts105 Kf⟩ ⟨_,G,H.loadAgg Km Ta28 Ts28 Kf⟩ H (by repeat(first|exact List.Sublist.refl _|apply List.Sublist.cons_cons|apply List.Sublist.cons)) ⟨_,G,G⟩
 subst Y;rw[if_neg l00] at h;refine SK (TN (SQ ?_));obtain⟨⟨a4,a5⟩,a6,h⟩:=bnd h;try dsimp only at h
 refine q0V (fun e w => ∃  (M : Mem), e = [(2, ptr Z 0), (3, ptr a0 0)] /\ St w0 M0 M [.blk Z (.cells #[S s6, S s7, N] 105), RowS 109 2 xenc109 N l8, .blk a0 (.cells #[I a4, I a5] 28)] w /\ GlF (fun w => ∃ tp p, w.var? Tryz.prog "strconv.ErrRange" = some #[.iface tp p]) M /\ GlF (fun w => ∃ tp p, w.var? Tryz.prog "strconv.ErrSyntax" = some #[.iface tp p]) M /\ GlF (fun w => ∃ m, w.cell? ⟨0, 0, none⟩ = some (.int .i64 m)) M /\ GlF (fun w => Lib.TabIs Tryz.prog w "internal/strconv.uint64pow10" .u64 Lib.pow10Tab) M /\ Tabs M) ?_ ?_
 .
  refine q0x (m:=4) G G H ?_;intro w H;refine q0E (i:=0) (j:=1) Kr G G ?_ ?_
  .
   refine ST (q08 H G Km Ta105 Ts105 Kf) G ?_;refine NA (q0k (fuel:=0) [1,2,3] G Kr (q02 H (Y07 a6) G trivial (q00 G) G ?_));intro aj M w H K hR;replace E:=E.mono K;replace J:=J.mono K;replace V:=V.mono K;replace u:=u.mono K;replace O:=O.mono K;try dsimp only at hR
   obtain rfl:=hR;refine q04 [_,_,_] H G G G Ku Ts105 G Kf (by simp only[l0b,l0i,(H.rowOneS (v:=N) Km).2];rfl) (q00 G) ?_;intro w H;refine q04 [_,_] H G G G Ku Ts28 G Kf Kf (q00 G) ?_;intro w H;refine NA (q0f Kr ?_);exact MP ⟨_,G,(H.pick (L':=[.blk Z (.cells #[S s6,S s7,N] 105),RowS 109 2 xenc109 N l8, .blk a0 (.cells #[I a4,I a5] 28)]) Kp),E,J,V,u,O⟩
  refine q02 H (Y07 a6) G trivial (q00 G) G ?_;intro aj M w H K hR;replace E:=E.mono K;replace J:=J.mono K;replace V:=V.mono K;replace u:=u.mono K;replace O:=O.mono K;try dsimp only at hR
  obtain rfl:=hR;refine NA (q0k (fuel:=0) [0,2,3] G Kr (ST (q08 H G Km Ta105 Ts105 Kf) G ?_));refine q04 [_,_,_] H G G G Ku Ts105 G Kf (by simp only[l0b,l0i,(H.rowOneS (v:=N) Km).2];rfl) (q00 G) ?_;intro w H;refine q04 [_,_] H G G G Ku Ts28 G Kf Kf (q00 G) ?_;intro w H;refine NA (q0f Kr ?_);exact MP ⟨_,G,(H.pick (L':=[.blk Z (.cells #[S s6,S s7,N] 105),RowS 109 2 xenc109 N l8, .blk a0 (.cells #[I a4,I a5] 28)]) Kp),E,J,V,u,O⟩
 rintro e w ⟨M,rfl,H,E,J,V,u,O⟩;refine TN (RT ?_);obtain rfl:=oI h;exact q1J (its:=[RowS 109 2 xenc109 N l8]) G ⟨_,G,H.loadAgg Km Ta105 Ts105 Kf⟩ ⟨_,G,H.loadAgg Km Ta28 Ts28 Kf⟩ H (by repeat(first|exact List.Sublist.refl _|apply List.Sublist.cons_cons|apply List.Sublist.cons)) ⟨_,G,G⟩
theorem Y42 {p0 : List (Ls × Ls)}{a0 : Value}{r : ((Ls × Ls × List (Ls × Ls)) × Int × Bool)}(h : Y3q p0 = some r): CtO Tryz.prog 54 [a0] (fun M => GlF (fun w => ∃ tp p, w.var? Tryz.prog "strconv.ErrRange" = some #[.iface tp p]) M /\ GlF (fun w => ∃ tp p, w.var? Tryz.prog "strconv.ErrSyntax" = some #[.iface tp p]) M /\ GlF (fun w => ∃ m, w.cell? ⟨0, 0, none⟩ = some (.int .i64 m)) M /\ GlF (fun w => Lib.TabIs Tryz.prog w "internal/strconv.uint64pow10" .u64 Lib.pow10Tab) M /\ Tabs M /\ SlS M 2 xenc46 a0 p0) (fun v M its => ∃ ac, v = Value.tuple #[Value.agg #[S r.1.1, S r.1.2.1, ac], I r.2.1, Value.bool r.2.2] /\ its = [RowS 109 2 xenc109 ac r.1.2.2]) := by
 refine CtO.of Tryz.func54 (enters Tryz.func54 Kr G) G G G ?_;intro w0 M0 H hp;obtain⟨E,J,U,u,V,Y⟩:=hp;unfold Y3q at h;refine SQ (RG (q09 [_,_,_] H Tz105 G (q00 G) G ?_));intro Z w H;refine AS G G (AS G G (NL (TN (SQ (RG (AS G G (NL (TN (SQ (SQ (RG (MV G G (ST (q0N Tu22 Y G) G (MV G G (NL (TN ?_))))))))))))))));obtain⟨o1,O,h⟩:=bnd h
 refine q0c (fun e w => ∃ (s3 : Ls) (s4 : Ls) (l6 : List (Ls × Ls)) (v7 : Value) (n8 : Int) (M : Mem), e = [(0, a0), (2, ptr Z 0), (5, I n8)] /\ St w0 M0 M [.blk Z (.cells #[S s3, S s4, v7] 105), RowS 109 2 xenc109 v7 l6] w /\ GlF (fun w => ∃ tp p, w.var? Tryz.prog "strconv.ErrRange" = some #[.iface tp p]) M /\ GlF (fun w => ∃ tp p, w.var? Tryz.prog "strconv.ErrSyntax" = some #[.iface tp p]) M /\ GlF (fun w => ∃ m, w.cell? ⟨0, 0, none⟩ = some (.int .i64 m)) M /\ GlF (fun w => Lib.TabIs Tryz.prog w "internal/strconv.uint64pow10" .u64 Lib.pow10Tab) M /\ Tabs M /\ SlS M 2 xenc46 a0 p0 /\ some (.inl (s3, s4, l6, n8)) = some o1) [] ?_ ?_ (trivial)
 .
  refine BL ?_;replace H:=H.newRowS 109 2 xenc109
  refine q0l (fun m e w => ∃ (s9 : Ls) (a2 : Ls) (a3 : List (Ls × Ls)) (a1 : Value) (a8 : Int) (a9 : Int) (M : Mem), e = [(0, a0), (2, ptr Z 0), (5, I a8), (10, a0), (11, I (p0.length : Int)), (12, I a9)] /\ St w0 M0 M [.blk Z (.cells #[S s9, S a2, a1] 105), RowS 109 2 xenc109 a1 a3] w /\ GlF (fun w => ∃ tp p, w.var? Tryz.prog "strconv.ErrRange" = some #[.iface tp p]) M /\ GlF (fun w => ∃ tp p, w.var? Tryz.prog "strconv.ErrSyntax" = some #[.iface tp p]) M /\ GlF (fun w => ∃ m, w.cell? ⟨0, 0, none⟩ = some (.int .i64 m)) M /\ GlF (fun w => Lib.TabIs Tryz.prog w "internal/strconv.uint64pow10" .u64 Lib.pow10Tab) M /\ Tabs M /\ SlS M 2 xenc46 a0 p0 /\ Y1Q p0 m s9 a2 a3 a8 a9 = some o1) FU [(0, _), (2, _), (5, _), (10, _), (11, _), (12, _)] ⟨rfl, rfl, rfl, rfl, rfl, rfl, trivial⟩ ⟨_, _, _, _, _, _, _, rfl, (H.pick (L' := [.blk Z (.cells #[S [], S [], (Value.slice none 0 0)] 105), RowS 109 2 xenc109 (Value.slice none 0 0) []]) Kp), E, J, U, u, V, Y, O⟩ ?_
  rintro aa e w ⟨s9,a2,a3,a1,a8,a9,M,rfl,H,E,J,U,u,V,Y,O⟩;rcases aa with _|aa
  . rw[Y1Q] at O;cases O
  rw[Y1Q] at O;refine SQ (RG (ST (q0m G G) G (NL (TN (SQ ?_)))));refine CB (p:=a9<(p0.length:Int)) G (fun a4=>?_) fun a4=>?_
  .
   rw[if_pos a4] at O;refine SK (TN (SQ (BL (SQ ?_))));obtain⟨b7,ak,O⟩:=bnd O;obtain⟨b5,b8,av,aw⟩:=Y.atC ak;refine RG (MV G G (ST (q0s av Tu22 Ts46 G G) G (ST (q0G H G aw Ta46 Ts46 Kf) G ?_)));refine q09 [_,_] H Tz46 G (q00 G) G ?_;intro b9 w H;refine AS G G (q04 [_,_] H G G G Ku Ts46 G Kf Kf (q00 G) ?_);intro w H;refine NL (TN (SQ ?_));obtain⟨ba,ax,O⟩:=bnd O;refine RG (ST (q01 Tu46 G Ts9 Dc G) G (ST (XL H Ta9) G ?_));refine q02 H (Y18 ax) G trivial (q00 G) G ?_;intro bb M w H N hR;replace E:=E.mono N;replace J:=J.mono N;replace U:=U.mono N;replace u:=u.mono N;replace V:=V.mono N;replace Y:=Y.mono N;obtain rfl:=hR;refine NL (TN ?_);refine q0a G (fun a5=>?_) (fun a5=>?_)
   .
    subst a5;rw[if_pos rfl] at O;refine SQ (SQ (RG (MV G G (ST (q0R G G) G (NL (TN ?_))))));refine CB (p:=(0:Int)<=a8) G (fun a6=>?_) fun a6=>?_
    .
     rw[if_pos a6] at O;refine SQ (RG (ST (q0v [S [],S [],Value.slice none 0 0] Tu105 Tz105 (xplaces105 Tu105) G G) G (q04 [_,_,_] H G G G Ku Ts105 G Kf Kf (q00 G) ?_)));intro w H;refine AS G G (AS G G (NL (TN (RT ?_))));replace H:=H.newRowS 109 2 xenc109;obtain rfl:=oI O;try dsimp only at h
     obtain rfl:=oI h;exact WQ.ret3O (its:=[RowS 109 2 xenc109 (Value.slice none 0 0) []]) G ⟨_,G,H.loadAgg Km Ta105 Ts105 Kf⟩ G G H (by repeat(first|exact List.Sublist.refl _|apply List.Sublist.cons_cons|apply List.Sublist.cons)) ⟨_,G,G⟩
    rw[if_neg a6] at O;refine SK (TN (RG (MV G G (AS G G (NL (IB (TN ?_)))))));obtain⟨bc,al,O⟩:=bnd O;refine RG (ST (q0e G G al) G (MV G G (NL ?_)));exact AG aa ⟨_,_,_,_,_,_,_,G,(H.pick (L':=[.blk Z (.cells #[S s9,S a2,a1] 105),RowS 109 2 xenc109 a1 a3]) Kp),E,J,U,u,V,Y,O⟩ (l06 _)
   subst a5;rw[if_neg l00] at O;refine SK (IB (TN ?_));obtain⟨bd,am,O⟩:=bnd O;refine RG (ST (q0e G G am) G (MV G G (NL ?_)));exact AG aa ⟨_,_,_,_,_,_,_,G,(H.pick (L':=[.blk Z (.cells #[S s9,S a2,a1] 105),RowS 109 2 xenc109 a1 a3]) Kp),E,J,U,u,V,Y,O⟩ (l06 _)
  rw[if_neg a4] at O;refine q0j (q03 (q03 (q0b ?_)));exact MN ⟨_,_,_,_,_,_,G,H,E,J,U,u,V,Y,O⟩
 rintro e w ⟨s3,s4,l6,v7,n8,M,rfl,H,E,J,U,u,V,Y,b2⟩;obtain rfl:=oI b2;try dsimp only at h
 refine TN (SQ (SQ (RG (MV G G (ST (q0m G G) G (NL (TN ?_)))))));refine CB (p:=n8<(0:Int)) G (fun a7=>?_) fun a7=>?_
 .
  rw[if_pos a7] at h;refine SQ (RG (ST (q0v [S [],S [],Value.slice none 0 0] Tu105 Tz105 (xplaces105 Tu105) G G) G (q04 [_,_,_] H G G G Ku Ts105 G Kf Kf (q00 G) ?_)));intro w H;refine AS G G (AS G G (NL (TN (RT ?_))));replace H:=H.newRowS 109 2 xenc109;obtain rfl:=oI h;exact WQ.ret3O (its:=[RowS 109 2 xenc109 (Value.slice none 0 0) []]) G ⟨_,G,H.loadAgg Km Ta105 Ts105 Kf⟩ G G H (by repeat(first|exact List.Sublist.refl _|apply List.Sublist.cons_cons|apply List.Sublist.cons)) ⟨_,G,G⟩
 rw[if_neg a7] at h;refine SK (TN (SQ ?_));obtain⟨be,an,h⟩:=bnd h;obtain⟨b6,bg,ay,az⟩:=Y.atC an;obtain⟨⟨⟨ah,ai,ab⟩,⟨bh,bi⟩⟩,b0,h⟩:=bnd h;try dsimp only at h
 refine RG (MV G G (MV G G (ST (q0s ay Tu22 Ts46 G G) G (ST (q01 Tu46 G Ts9 Dc G) G (ST (q0n H G (az.at (j:=1) G) Ta9) G (q1l H (Y6g b0) G ⟨E,J,U,u,V⟩ (q00 G) G ?_))))));intro bj M w its H N hR;replace E:=E.mono N;replace J:=J.mono N;replace U:=U.mono N;replace u:=u.mono N;replace V:=V.mono N;try dsimp only at hR
 obtain⟨K,rfl,rfl⟩:=hR;simp only[l02,l03] at H;refine MV G G (ST (q05 G G) G (ST (q05 G G) G (q09 [_,_,_] H Tz105 G (q00 G) G ?_)));intro bm w H;refine q09 [_,_] H Tz28 G (q00 G) G ?_;intro bn w H;refine q04 [_,_,_] H G G G Ku Ts105 G Kf (by simp only[l0b,l0i,(H.rowOneS (v:=K) Km).2];rfl) (q00 G) ?_;intro w H;refine q04 [_,_] H G G G Ku Ts28 G Kf Kf (q00 G) ?_;intro w H;refine NL (TN (SQ ?_));obtain⟨b3,aj,h⟩:=bnd h
 refine q0V (fun e w => ∃  (M : Mem), e = [(2, ptr Z 0), (3, I n8), (4, Value.bool (!b3))] /\ St w0 M0 M [.blk Z (.cells #[S ah, S ai, K] 105), RowS 109 2 xenc109 K ab] w /\ GlF (fun w => ∃ tp p, w.var? Tryz.prog "strconv.ErrRange" = some #[.iface tp p]) M /\ GlF (fun w => ∃ tp p, w.var? Tryz.prog "strconv.ErrSyntax" = some #[.iface tp p]) M /\ GlF (fun w => ∃ m, w.cell? ⟨0, 0, none⟩ = some (.int .i64 m)) M /\ GlF (fun w => Lib.TabIs Tryz.prog w "internal/strconv.uint64pow10" .u64 Lib.pow10Tab) M /\ Tabs M) ?_ ?_
 .
  refine q0x (m:=8) G G H ?_;intro w H;refine TK 1 G (fun _=>q06 G) G (q1i (i:=2) [0] G Kr Kr Kr (q08 H G Km Ta28 Ts28 Kf) (q00 G) G G (fun _ _=>G) ?_);refine q0E (i:=0) (j:=3) Kr G G ?_ ?_
  .
   refine ST (q08 H G Km Ta105 Ts105 Kf) G ?_;refine NA (ON 3 Kr G (q02 H (Y06 aj) G trivial (q00 G) G ?_));intro b4 M w H N hR;replace E:=E.mono N;replace J:=J.mono N;replace U:=U.mono N;replace u:=u.mono N;replace V:=V.mono N;obtain rfl:=hR;refine NA (TK 4 G (fun _=>q0y G) G (q0k (fuel:=0) [5,6,7] G Kr (q04 [_,_,_] H G G G Ku Ts105 G Kf (by simp only[l0b,l0i,(H.rowOneS (v:=K) Km).2];rfl) (q00 G) ?_)));intro w H;refine AS G G (AS G G (NA (q0f Kr ?_)));exact MP ⟨_,G,(H.pick (L':=[.blk Z (.cells #[S ah,S ai,K] 105),RowS 109 2 xenc109 K ab]) Kp),E,J,U,u,V⟩
  refine q02 H (Y06 aj) G trivial (q00 G) G ?_;intro b4 M w H N hR;replace E:=E.mono N;replace J:=J.mono N;replace U:=U.mono N;replace u:=u.mono N;replace V:=V.mono N;obtain rfl:=hR;refine NA (TK 4 G (fun _=>q0y G) G (q0k (fuel:=0) [0,5,6,7] G Kr (ST (q08 H G Km Ta105 Ts105 Kf) G ?_)));refine q04 [_,_,_] H G G G Ku Ts105 G Kf (by simp only[l0b,l0i,(H.rowOneS (v:=K) Km).2];rfl) (q00 G) ?_;intro w H;refine AS G G (AS G G (NA (q0f Kr ?_)));exact MP ⟨_,G,(H.pick (L':=[.blk Z (.cells #[S ah,S ai,K] 105),RowS 109 2 xenc109 K ab]) Kp),E,J,U,u,V⟩
 rintro e w ⟨M,rfl,H,E,J,U,u,V⟩;refine TN (RT ?_);obtain rfl:=oI h;exact WQ.ret3O (its:=[RowS 109 2 xenc109 K ab]) G ⟨_,G,H.loadAgg Km Ta105 Ts105 Kf⟩ G G H (by repeat(first|exact List.Sublist.refl _|apply List.Sublist.cons_cons|apply List.Sublist.cons)) ⟨_,G,G⟩
theorem Y5p {p0:(Ls × Ls × List (Ls × Ls))}{p1:Ls}{O:Value}{r:(Ls × Bool × (Int × Int))}(h:Y3F p0 p1=some r):Ct Tryz.prog 118 [Value.agg #[S p0.1,S p0.2.1,O],S p1] (fun M=>Tabs M/\SlS M 2 xenc109 O p0.2.2) (fun v M=>v=Value.tuple #[S r.1,Value.bool r.2.1,Value.agg #[I r.2.2.1,I r.2.2.2]]):=by
 refine Ct.of Tryz.func118 (enters Tryz.func118 Kr G) G G G ?_;intro w0 M0 H hp;obtain⟨K,u⟩:=hp;unfold Y3F at h;refine SQ (RG (q0F [_,_,_] H G G (q00 G) G ?_));intro ap w H;refine AS G G (AS G G (q09 [_,_] H Tz28 G (q00 G) G ?_));intro N w H;refine NL (TN (SQ (SQ ?_)));obtain⟨⟨n1,n2⟩,ai,h⟩:=bnd h;try dsimp only at h
 refine RG (ST (q08 H G Km Ta105 Ts105 Kf) G ?_);refine q02 H (Y3J ai) G ⟨K,u⟩ (q00 G) G ?_;intro aq M w H J hR;replace K:=K.mono J;replace u:=u.mono J;try dsimp only at hR
 obtain rfl:=hR;refine q09 [_,_] H Tz28 G (q00 G) G ?_;intro ar w H;refine q04 [_,_] H G G G Ku Ts28 G Kf Kf (q00 G) ?_;intro w H;refine NL (TN (SQ ?_));obtain⟨b4,aj,h⟩:=bnd h;refine RG (ST (q08 H G Km Ta28 Ts28 Kf) G ?_);refine q02 H (Y06 aj) G trivial (q00 G) G ?_;intro au M w H J hR;replace K:=K.mono J;replace u:=u.mono J;obtain rfl:=hR;refine NL (TN ?_);refine q0a G (fun a1=>?_) (fun a1=>?_)
 .
  subst a1;rw[if_pos rfl] at h;refine SQ (q0x (m:=4) G G H ?_);intro w H;refine TK 1 G (fun _=>q1u G) G (TK 2 G (fun _=>q1u G) G (q0k (fuel:=0) [0,3] G Kr (ST (q08 H G Km Ta28 Ts28 Kf) G ?_)));refine q04 [_,_] H G G G Ku Ts28 G Kf Kf (q00 G) ?_;intro w H;refine NA (q0f Kr (TN (RT ?_)));obtain rfl:=oI h;exact WQ.ret3 G G G ⟨_,G,H.loadAgg Km Ta28 Ts28 Kf⟩ H.ext G
 subst a1;rw[if_neg l00] at h;refine SK (TN (SQ (SQ (RG (ST (q01 Tu105 G Ts103 Dc G) G (ST (XL H Ta103) G ?_))))));refine ST (q0N Tu103 u G) G (MV G G (NL (TN ?_)));obtain⟨o7,E,h⟩:=bnd h;refine q0c (fun e w =>∃(n9:Int) (a2:Int) (M:Mem),e=[(6,ptr N 0)]/\St w0 M0 M [.blk N (.cells #[I n9,I a2] 28)] w/\Tabs M/\some (.inl (n9,a2))=some o7) [] ?_ ?_ (trivial)
 .
  refine BL ?_;refine q0l (fun m e w =>∃(Y:Int) (Z:Int) (a0:Int) (M:Mem),e=[(1,S p1),(6,ptr N 0),(16,O),(17,I (p0.2.2.length:Int)),(18,I a0)]/\St w0 M0 M [.blk N (.cells #[I Y,I Z] 28)] w/\Tabs M/\SlS M 2 xenc109 O p0.2.2/\Y1U p0 p1 m Y Z a0=some o7) FU [(1,_),(6,_),(16,_),(17,_),(18,_)] ⟨rfl,rfl,rfl,rfl,rfl,trivial⟩ ⟨_,_,_,_,rfl,(H.pick (L':=[.blk N (.cells #[I 0,I 0] 28)]) Kp),K,u,E⟩ ?_;rintro a3 e w ⟨Y,Z,a0,M,rfl,H,K,u,E⟩;rcases a3 with _|a3
  . rw[Y1U] at E;cases E
  rw[Y1U] at E;refine SQ (RG (ST (q0m G G) G (NL (TN (SQ ?_)))));refine CB (p:=a0<(p0.2.2.length:Int)) G (fun U=>?_) fun U=>?_
  .
   rw[if_pos U] at E;refine SK (TN (SQ (BL (SQ ?_))));obtain⟨al,a8,E⟩:=bnd E;obtain⟨ao,av,ac,ad⟩:=u.atC a8;refine RG (ST (q0s ac Tu103 Ts109 G G) G (ST (q0G H G ad Ta109 Ts109 Kf) G ?_));refine q09 [_,_] H Tz109 G (q00 G) G ?_;intro aw w H;refine q04 [_,_] H G G G Ku Ts109 G Kf Kf (q00 G) ?_;intro w H;refine NL (TN (SQ ?_));obtain⟨ax,ae,E⟩:=bnd E;refine RG (ST (q01 Tu109 G Ts9 Dc G) G (ST (XL H Ta9) G ?_));refine MV G G (q02 H (Y18 ae) G trivial (q00 G) G ?_);intro ay M w H J hR;replace K:=K.mono J;replace u:=u.mono J;obtain rfl:=hR;refine NL (TN ?_);refine q0a G (fun V=>?_) (fun V=>?_)
   .
    subst V;rw[if_pos rfl] at E;refine SQ ?_;obtain⟨⟨a4,a5⟩,a6,E⟩:=bnd E;try dsimp only at E
    refine q0V (fun e w =>∃  (M:Mem),e=[(4,S al.2),(5,Value.bool true),(6,ptr N 0)]/\St w0 M0 M [.blk N (.cells #[I a4,I a5] 28)] w/\Tabs M) ?_ ?_
    .
     refine q0x (m:=6) G G H ?_;intro w H;refine TK 0 G (fun _=>q01 Tu109 G Ts9 Dc G) G ?_;refine q0E (i:=1) (j:=2) Kr G G ?_ ?_
     .
      refine ST (XL H Ta9) G ?_;refine NA (q0k (fuel:=0) [2,3,4,5] G Kr (q02 H (Y07 a6) G trivial (q00 G) G ?_));intro am M w H J hR;replace K:=K.mono J;try dsimp only at hR
      obtain rfl:=hR;refine AS G G (AS G G (q04 [_,_] H G G G Ku Ts28 G Kf Kf (q00 G) ?_));intro w H;refine NA (q0f Kr ?_);exact MP ⟨_,G,(H.pick (L':=[.blk N (.cells #[I a4,I a5] 28)]) Kp),K⟩
     refine q02 H (Y07 a6) G trivial (q00 G) G ?_;intro am M w H J hR;replace K:=K.mono J;try dsimp only at hR
     obtain rfl:=hR;refine NA (q0k (fuel:=0) [1,3,4,5] G Kr (ST (XL H Ta9) G ?_));refine AS G G (AS G G (q04 [_,_] H G G G Ku Ts28 G Kf Kf (q00 G) ?_));intro w H;refine NA (q0f Kr ?_);exact MP ⟨_,G,(H.pick (L':=[.blk N (.cells #[I a4,I a5] 28)]) Kp),K⟩
    rintro e w ⟨M,rfl,H,K⟩;refine TN (RT ?_);obtain rfl:=oI E;try dsimp only at h
    obtain rfl:=oI h;exact WQ.ret3 G G G ⟨_,G,H.loadAgg Km Ta28 Ts28 Kf⟩ H.ext G
   subst V;rw[if_neg l00] at E;refine SK (IB (TN ?_));obtain⟨az,a9,E⟩:=bnd E;refine RG (ST (q0e G G a9) G (MV G G (NL ?_)));exact AG a3 ⟨_,_,_,_,G,(H.pick (L':=[.blk N (.cells #[I Y,I Z] 28)]) Kp),K,u,E⟩ (l06 _)
  rw[if_neg U] at E;refine q0j (q03 (q03 (q0b ?_)));exact MN ⟨_,_,_,G,H,K,E⟩
 rintro e w ⟨n9,a2,M,rfl,H,K,an⟩;obtain rfl:=oI an;try dsimp only at h
 refine TN (SQ ?_);obtain⟨⟨b0,b1⟩,ah,h⟩:=bnd h;try dsimp only at h
 refine RG (q02 H (Y07 ah) G trivial (q00 G) G ?_);intro b2 M w H J hR;try dsimp only at hR
 obtain rfl:=hR;refine AS G G (AS G G (q04 [_,_] H G G G Ku Ts28 G Kf Kf (q00 G) ?_));intro w H;refine NL (TN (RT ?_));obtain rfl:=oI h;exact WQ.ret3 G G G ⟨_,G,H.loadAgg Km Ta28 Ts28 Kf⟩ H.ext G
theorem Y5y {p0:UInt8}{r:Bool}(h:Y2F p0=some r):Ct Tryz.prog 119 [encB p0] (fun M=>True) (fun v M=>v=Value.bool r):=by
 refine Ct.of Tryz.func119 (enters Tryz.func119 Kr G) G G G ?_;intro K M0 H hp;unfold Y2F at h;refine SQ (RG (AS G G (NL (TN (SQ ?_)))));obtain⟨N,E,h⟩:=bnd h;refine q0c (fun e w =>∃(J:Bool) (M:Mem),e=[(2,Value.bool J)]/\St K M0 M [] w/\some J=some N) [] ?_ ?_ (trivial)
 .
  by_cases u:32<=p0.toNat
  .
   rw[if_pos u] at E;refine RG (MV G G (DT u (q1g (i:=p0.toNat) (j:=32) G G) G (MV G G (SG (q06 G) G G G (SG (Ex.leqB (i:=p0.toNat) (j:=126) G G) G G G (PT G G G (AS G G (NL ?_))))))));exact MN ⟨_,_,G,H,E⟩
  rw[if_neg u] at E;refine RG (MV G G (DF u (q1g (i:=p0.toNat) (j:=32) G G) G (MV G G (GF G G G (GF G G G (PF G G G (AS G G (NL ?_))))))));exact MN ⟨_,_,G,H,E⟩
 rintro e w ⟨J,M,rfl,H,O⟩;obtain rfl:=oI O;refine TN (RT ?_);obtain rfl:=oI h;exact q07 G G H.ext G
theorem Y5f {p0:Ls}{u:Ls}{r:Bool}(h:Y1h p0 u=some r):Ct Tryz.prog 120 [S p0,S u] (fun M=>True) (fun v M=>v=Value.bool r):=by
 refine Ct.of Tryz.func120 (enters Tryz.func120 Kr G) G G G ?_;intro K M0 H hp;unfold Y1h at h;refine SQ (RG (AS G G (NL (TN (SQ ?_)))));obtain⟨N,E,h⟩:=bnd h;refine RG (MV G G (MV G G (q02 H (Y2w E) G trivial (q00 G) G ?_)));intro O M w H J hR;obtain rfl:=hR;refine AS G G (NL (TN (RT ?_)));obtain rfl:=oI h;exact q07 G G H.ext G
theorem Y5N {p0 : List (Ls × Ls)}{a8 : Value}{r : (Ls × Bool)}(h : Y39 p0 = some r): Ct Tryz.prog 82 [a8] (fun M => GlF (fun w => ∃ tp p, w.var? Tryz.prog "strconv.ErrRange" = some #[.iface tp p]) M /\ GlF (fun w => ∃ tp p, w.var? Tryz.prog "strconv.ErrSyntax" = some #[.iface tp p]) M /\ GlF (fun w => ∃ m, w.cell? ⟨0, 0, none⟩ = some (.int .i64 m)) M /\ GlF (fun w => Lib.TabIs Tryz.prog w "internal/strconv.uint64pow10" .u64 Lib.pow10Tab) M /\ Tabs M /\ SlS M 2 xenc46 a8 p0) (fun v M => v = Value.tuple #[S r.1, Value.bool r.2]) := by
 refine Ct.of Tryz.func82 (enters Tryz.func82 Kr G) G G G ?_;intro w0 M0 H hp;obtain⟨E,J,O,u,N,aj⟩:=hp;unfold Y39 at h;refine SQ (RG (AS G G (AS G G (NL (TN (SQ ?_))))));obtain⟨⟨⟨s1,s2,l3⟩,n4,b5⟩,ak,h⟩:=bnd h;try dsimp only at h
 refine RG (MV G G (q1l H (Y42 ak) G ⟨E,J,O,u,N,aj⟩ (q00 G) G ?_));intro ax M w its H K hR;replace E:=E.mono K;replace J:=J.mono K;replace O:=O.mono K;replace u:=u.mono K;replace N:=N.mono K;try dsimp only at hR
 obtain⟨V,rfl,rfl⟩:=hR;simp only[l02,l03] at H;refine MV G G (ST (q05 G G) G (ST (q05 G G) G (ST (q05 G G) G (q09 [_,_,_] H Tz105 G (q00 G) G ?_))));intro a9 w H;refine q04 [_,_,_] H G G G Ku Ts105 G Kf (by simp only[l0b,l0i,(H.rowOneS (v:=V) Km).2];rfl) (q00 G) ?_;intro w H;refine AS G G (AS G G (NL (TN (SQ (SQ ?_)))));obtain⟨o8,e9,h⟩:=bnd h
 refine q0c (fun e w => ∃ (a3 : Bool) (M : Mem), e = [(4, ptr a9 0), (24, Value.bool a3)] /\ St w0 M0 M [.blk a9 (.cells #[S s1, S s2, V] 105), RowS 109 2 xenc109 V l3] w /\ GlF (fun w => ∃ tp p, w.var? Tryz.prog "strconv.ErrRange" = some #[.iface tp p]) M /\ GlF (fun w => ∃ tp p, w.var? Tryz.prog "strconv.ErrSyntax" = some #[.iface tp p]) M /\ GlF (fun w => ∃ m, w.cell? ⟨0, 0, none⟩ = some (.int .i64 m)) M /\ GlF (fun w => Lib.TabIs Tryz.prog w "internal/strconv.uint64pow10" .u64 Lib.pow10Tab) M /\ Tabs M /\ some a3 = some o8) [] ?_ ?_ (trivial)
 .
  refine RG (MV G G (ST (q0y G) G (MV G G ?_)));rcases b5 with _|_
  .
   rw[if_neg l00] at e9;refine q0i 4 G G (PT G G G (NL ?_));exact MN ⟨_,_,G,H,E,J,O,u,N,e9⟩
  rw[if_pos rfl] at e9;obtain⟨ay,ac,e9⟩:=bnd e9;refine SG (q01 Tu105 G Ts9 Dc G) G G G (SG (XL H Ta9) G G G ?_);refine q02 H (Y18 ac) G trivial (q0h G G G) G ?_;intro az M w H K hR;replace E:=E.mono K;replace J:=J.mono K;replace O:=O.mono K;replace u:=u.mono K;replace N:=N.mono K;obtain rfl:=hR;refine SG (q0y G) G G G (PF G G G (NL ?_));exact MN ⟨_,_,G,H,E,J,O,u,N,e9⟩
 rintro e w ⟨a3,M,rfl,H,E,J,O,u,N,al⟩;obtain rfl:=oI al;refine TN ?_;refine q0a G (fun a0=>?_) (fun a0=>?_)
 .
  subst a0;rw[if_pos rfl] at h;refine SQ (RG (AS G G (AS G G (NL (TN (RT ?_))))));obtain rfl:=oI h;exact q0t G G G H.ext G
 subst a0;rw[if_neg l00] at h;refine SK (TN (SQ ?_));obtain⟨⟨a4,aa,⟨b0,b1⟩⟩,ad,h⟩:=bnd h;try dsimp only at h
 refine RG (ST (q08 H G Km Ta105 Ts105 Kf) G ?_);obtain⟨M,K,ae,H⟩:=H.freezeRowS (v:=V) (enc:=xenc109) (t:=109) Kv (fun _=>rfl);replace E:=E.mono K;replace J:=J.mono K;replace O:=O.mono K;replace u:=u.mono K;replace N:=N.mono K;refine q02 H (Y5p ad) G ⟨N,ae⟩ (q00 G) G ?_;intro b2 M w H K hR;replace E:=E.mono K;replace J:=J.mono K;replace O:=O.mono K;replace u:=u.mono K;replace N:=N.mono K;try dsimp only at hR
 obtain rfl:=hR;refine MV G G (ST (q05 G G) G (ST (q05 G G) G (ST (q05 G G) G (q09 [_,_] H Tz28 G (q00 G) G ?_))));intro b3 w H;refine AS G G (AS G G (q04 [_,_] H G G G Ku Ts28 G Kf Kf (q00 G) ?_));intro w H;refine NL (TN (SQ ?_));obtain⟨am,U,h⟩:=bnd h
 refine q0c (fun e w => ∃ (a5 : Bool) (M : Mem), e = [(7, S a4), (8, Value.bool aa), (10, Value.bool a5)] /\ St w0 M0 M [] w /\ GlF (fun w => ∃ tp p, w.var? Tryz.prog "strconv.ErrRange" = some #[.iface tp p]) M /\ GlF (fun w => ∃ tp p, w.var? Tryz.prog "strconv.ErrSyntax" = some #[.iface tp p]) M /\ GlF (fun w => ∃ m, w.cell? ⟨0, 0, none⟩ = some (.int .i64 m)) M /\ GlF (fun w => Lib.TabIs Tryz.prog w "internal/strconv.uint64pow10" .u64 Lib.pow10Tab) M /\ Tabs M /\ some a5 = some am) [] ?_ ?_ (trivial)
 .
  by_cases Y:a4=[]
  .
   rw[if_pos Y] at U;refine RG (MV G G (q0D (v' := .bool false) (q1m G G) (congrArg Value.bool (by rw[decide_eq_true Y];rfl)) (q00 G) G G ?_));refine MV G G (q0i 3 G G (PF G G G (MV G G (GF G G G (GF G G G (PF G G G (MV G G (q0i 3 G G (PF G G G (AS G G (NL ?_)))))))))));exact MN ⟨_,_,G,(H.pick (L':=[]) Kp),E,J,O,u,N,U⟩
  rw[if_neg Y] at U;refine RG (MV G G (q0D (v' := .bool true) (q1m G G) (congrArg Value.bool (by rw[decide_eq_false Y];rfl)) (q00 G) G G ?_));refine MV G G (SG (q06 G) G G G (SG (q0g Tu9 G) G G G ?_));by_cases Z:(a4.length:Int)<=(60:Int)
  .
   rw[if_pos Z] at U;obtain⟨an,ah,U⟩:=bnd U;refine DU Z (q1q G G) G G G (PT G G G (MV G G (SG (q06 G) G G G (q02 H (Y4m ah) G ((fun _ _ h=>FnV.of (Y5y h) (fun _ _=>trivial))) (q0h G G G) G ?_))));intro b4 M w H K hR;replace E:=E.mono K;replace J:=J.mono K;replace O:=O.mono K;replace u:=u.mono K;replace N:=N.mono K;obtain rfl:=hR;refine PT G G G (MV G G ?_);rcases an with _|_
   .
    rw[if_neg l00] at U;refine q0i 3 G G (PF G G G (AS G G (NL ?_)));exact MN ⟨_,_,G,(H.pick (L':=[]) Kp),E,J,O,u,N,U⟩
   rw[if_pos rfl] at U;obtain⟨b6,ai,U⟩:=bnd U;refine SG (q06 G) G G G (q02 H (Y5f ai) G trivial (q0h G G G) G ?_);intro b7 M w H K hR;replace E:=E.mono K;replace J:=J.mono K;replace O:=O.mono K;replace u:=u.mono K;replace N:=N.mono K;obtain rfl:=hR;refine SG (q0y G) G G G (PT G G G (AS G G (NL ?_)));exact MN ⟨_,_,G,(H.pick (L':=[]) Kp),E,J,O,u,N,U⟩
  rw[if_neg Z] at U;refine DG Z (q1q G G) G G G (PT G G G (MV G G (GF G G G (GF G G G (PF G G G (MV G G (q0i 3 G G (PF G G G (AS G G (NL ?_))))))))));exact MN ⟨_,_,G,(H.pick (L':=[]) Kp),E,J,O,u,N,U⟩
 rintro e w ⟨a5,M,rfl,H,E,J,O,u,N,ao⟩;obtain rfl:=oI ao;refine TN (SQ ?_);obtain⟨ap,a1,h⟩:=bnd h
 refine q0c (fun e w => ∃ (a6 : Ls) (a7 : Bool) (M : Mem), e = [(2, S a6), (3, Value.bool a7)] /\ St w0 M0 M [] w /\ GlF (fun w => ∃ tp p, w.var? Tryz.prog "strconv.ErrRange" = some #[.iface tp p]) M /\ GlF (fun w => ∃ tp p, w.var? Tryz.prog "strconv.ErrSyntax" = some #[.iface tp p]) M /\ GlF (fun w => ∃ m, w.cell? ⟨0, 0, none⟩ = some (.int .i64 m)) M /\ GlF (fun w => Lib.TabIs Tryz.prog w "internal/strconv.uint64pow10" .u64 Lib.pow10Tab) M /\ Tabs M /\ some (a6, a7) = some ap) [] ?_ ?_ (trivial)
 .
  refine RG (MV G G (MV G G (MV G G ?_)));rcases aa with _|_
  .
   rw[if_neg l00] at a1;refine GF G G G (PF G G G (AS G G (AS G G (NL ?_))));exact MN ⟨_,_,_,G,H,E,J,O,u,N,a1⟩
  rw[if_pos rfl] at a1;refine SG (q06 G) G G G (PT G G G (AS G G (AS G G (NL ?_))));exact MN ⟨_,_,_,G,H,E,J,O,u,N,a1⟩
 rintro e w ⟨a6,a7,M,rfl,H,E,J,O,u,N,aq⟩;obtain rfl:=oI aq;try dsimp only at h
 refine TN (RT ?_);obtain rfl:=oI h;exact q0t G G G H.ext G
theorem Y5q {p0:Ls}{J:Value}{r:Ls}(h:Y49 p0=some r):Ct Tryz.prog 91 [J] (fun M=>Sl M encB J p0) (fun v M =>∃E x0_0c,v=(Value.func (.func 124) #[] #[ptr E 0])/\PtM M E (.cells #[x0_0c] 23)/\Sl M encB x0_0c r):=by
 refine Ct.of Tryz.func91 (enters Tryz.func91 Kr G) G G G ?_;intro U M0 H hp;have u:=hp;unfold Y49 at h;refine SQ (RG (q0F [_] H G (u).one.cells (q00 G) G ?_));intro K w H;refine AS G G (NL (TN (SQ (RG ?_))));obtain⟨M,N,O,H⟩:=H.freezeVar (b:=K) Kv;replace u:=u.mono N;refine ST (q1s G) G (AS G G (NL (TN (RT ?_))));obtain rfl:=oI h;exact q07 G G H.ext (⟨_,_,G,O,u⟩)
end Go.Proofs.YtkgohbecojnfaaaGreatDoor
end
