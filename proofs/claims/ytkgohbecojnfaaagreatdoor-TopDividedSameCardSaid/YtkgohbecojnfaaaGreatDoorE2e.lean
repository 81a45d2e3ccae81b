/-
  Twt7, Twt8, Qp, Fd, Sp, Va: own texts of this repository (wip/tpl, wip/plans), merged and shaken by wip/tools/pack.py.
-/
import Derived.KernelRfl
import Derived.Test.YtkgohbecojnfaaaGreatDoorE2d
set_option maxRecDepth 100000
set_option linter.unusedVariables false
set_option linter.unusedSimpArgs false
section
namespace Go.Proofs.YtkgohbecojnfaaaGreatDoor
open Go Go.RowKit Go.Ph Go.Ph.Pl Go.Ph.Pf
theorem Y89 {p0:Z0g}{a2:Value}{a3:Value}{a4:Value}{r:Int}(h:Y1C p0=some r):Ct Tryz.prog 49 [Value.agg #[a2,a3,a4,I p0.2.2.2]] (fun M=>Gv2 M/\Gv1 M/\Gv3 M/\Gv0 M/\Tabs M/\SlS M 2 xenc46 a2 p0.1/\Sl M encB a3 p0.2.1/\SlR xrl39 M a4 p0.2.2.1) (fun v M=>v=I r):=by
 refine Ct.of Tryz.func49 (enters Tryz.func49 Kr G) G G G ?_;intro w0 M0 H hp;obtain⟨J,K,Y,E,Z,O,N,U⟩:=hp;unfold Y1C at h;refine SR (q0D [_,_,_,_] H G G (q00 G) G ?_);intro ah w H;refine AQ G G (RG (ST (q01 Tu98 G Ts39 Dc G) G (ST (Ex.loadAggP (us:=[_,_,_]) H G Km Ta39 Ts39 G G) G ?_)));refine q09 [_,_,_] H Tz39 G (q00 G) G ?_;intro ai w H;refine q04 [_,_,_] H G G G Ku Ts39 G Kf (by simp only[l0i,l0u,(O).one.2,(N).one.2,(U).one.2];rfl) (q00 G) ?_;intro w H;refine NQ (SQ ?_);obtain⟨⟨n1,n2⟩,ab,h⟩:=bnd h;try dsimp only at h
 refine RG (ST (q01 Tu39 G Ts22 Dc G) G (ST (XL H Ta22) G ?_));refine q02 H (Y4Z ab) G (O) (q00 G) G ?_;intro aj M w H u hR;have J:=J.mono u;have K:=K.mono u;have Y:=Y.mono u;have E:=E.mono u;have Z:=Z.mono u;have O:=O.mono u;have N:=N.mono u;have U:=U.mono u;try dsimp only at hR
 obtain rfl:=hR;refine q09 [_,_] H Tz28 G (q00 G) G ?_;intro ak w H;refine q04 [_,_] H G G G Ku Ts28 G Kf Kf (q00 G) ?_;intro w H;refine NQ ?_;obtain⟨b4,ac,h⟩:=bnd h;refine RG (ST (q08 H G Km Ta28 Ts28 Kf) G ?_);refine q02 H (Y06 ac) G trivial (q00 G) G ?_;intro al M w H u hR;have J:=J.mono u;have K:=K.mono u;have Y:=Y.mono u;have E:=E.mono u;have Z:=Z.mono u;have O:=O.mono u;have N:=N.mono u;have U:=U.mono u;obtain rfl:=hR;refine NT ?_;refine q0a G (fun a5=>?_) (fun a5=>?_)
 .
  subst a5;rw[l01 rfl] at h;refine SR (ST (q01 Tu28 G Ts3 Dc G) G (ST (XL H Ta3) G ?_));refine AR G G ?_;obtain rfl:=oI h;exact q07 G G H.ext G
 subst a5;rw[l00 l03] at h;refine KQ (SR (ST (q01 Tu39 G Ts37 Dc G) G (ST (XL H Ta37) G ?_)));refine ST (q1e Tu37 U G) G (ST (q0A G G) G (NT ?_));refine CB (p:=(0:Int)<(p0.2.2.1.length:Int)) G (fun a6=>?_) fun a6=>?_
 .
  rw[l01 a6] at h;refine SQ ?_;obtain⟨n8,ad,h⟩:=bnd h;refine RG (ST (q08 H G Km Ta39 Ts39 Kf) G ?_);refine q02 H (Y88 ad) G ⟨J,K,Y,E,Z,O,N,U⟩ (q00 G) G ?_;intro am M w H u hR;obtain rfl:=hR;refine AR G G ?_;obtain rfl:=oI h;exact q07 G G H.ext G
 rw[l00 a6] at h;refine KQ (SR (ST (q01 Tu39 G Ts23 Dc G) G (ST (XL H Ta23) G ?_)));refine ST (q0o Tu23 N G) G (ST (q0A G G) G (NT ?_));refine CB (p:=(12000:Int)<(p0.2.1.length:Int)) G (fun a0=>?_) fun a0=>?_
 .
  rw[l01 a0] at h;refine SR (AR G G ?_);obtain rfl:=oI h;exact q07 G G H.ext G
 rw[l00 a0] at h;refine KQ (SQ ?_);obtain⟨a8,a9,h⟩:=bnd h;refine RG (ST (q01 Tu39 G Ts23 Dc G) G (ST (XL H Ta23) G ?_));refine q02 H (Y6H a9) G (N) (q00 G) G ?_;intro an M w H u hR;have J:=J.mono u;have K:=K.mono u;have Y:=Y.mono u;have E:=E.mono u;have Z:=Z.mono u;have O:=O.mono u;have N:=N.mono u;obtain rfl:=hR;refine AN G G (SM G G (ST (q1j G G) G (NT ?_)));refine q0a G (fun V=>?_) (fun V=>?_)
 .
  replace V :¬(a8=(0:Int)):=of_not_decide V;rw[l00 V] at h;refine SM G G (AR G G ?_);obtain rfl:=oI h;exact q07 G G H.ext G
 replace V:a8=(0:Int):=of_not_decide' V;rw[l01 V] at h;refine KQ (SQ ?_);obtain⟨ae,aa,h⟩:=bnd h;refine RG (ST (q01 Tu39 G Ts22 Dc G) G (ST (XL H Ta22) G ?_));refine ST (q01 Tu39 G Ts23 Dc G) G (ST (XL H Ta23) G ?_);refine ST (q01 Tu98 G Ts3 Dc G) G (ST (XL H Ta3) G ?_);refine q02 H (Y6s aa) G ⟨J,K,Y,E,Z,O,N⟩ (q00 G) G ?_;intro ao M w H u hR;have a7:=hR;refine ST (q1e Tu89 a7 G) G (ST (q0A G G) G (NT ?_));refine CB (p:=(0:Int)<(ae.length:Int)) G (fun a1=>?_) fun a1=>?_
 .
  rw[l01 a1] at h;refine SR (AR G G ?_);obtain rfl:=oI h;exact q07 G G H.ext G
 rw[l00 a1] at h;refine KQ (RG (AR G G ?_));obtain rfl:=oI h;exact q07 G G H.ext G
theorem Y5q {p0:Z0f}{V:Value}{Y:Value}{Z:Value}{r:Z02}(h:Y1T p0=some r):Ct Tryz.prog 23 [Value.agg #[V,Y,Z]] (fun M=>Gv2 M/\Gv1 M/\Gv3 M/\Gv0 M/\Tabs M/\SlS M 2 xenc46 V p0.1/\Sl M encB Y p0.2.1/\SlR xrl39 M Z p0.2.2) (fun v M=>v=Value.agg #[I r.1,I r.2]):=by
 refine Ct.ofM Tryz.func23 (enters Tryz.func23 Kr G) G G G ?_;intro w0 M0 H hp;obtain⟨E,J,gM,u,gT,N,O,U⟩:=hp;unfold Y1T at h;refine SR (q0D [_,_,_] H G G (q00 G) G ?_);intro a5 w H;refine q09 [_,_] H Tz28 G (q00 G) G ?_;intro a2 w H;refine NQ (RG (q09 [_] H Tz4 G (q00 G) G ?_));intro a6 w H;refine q04 [_] H G G G Ku Ts4 G Kf Kf (q00 G) ?_;intro w H;refine NQ (SQ ?_);obtain⟨⟨l2,l3,l4⟩,b9,h⟩:=bnd h;try dsimp only at h
 refine RG (ST (q08 H G Km Ta39 Ts39 Kf) G ?_);refine q02 H (Y5v b9) G ⟨N,O,U⟩ (q00 G) G ?_;intro bu M w H K hR;have E:=E.mono K;have J:=J.mono K;have gM:=gM.mono K;have u:=u.mono K;have gT:=gT.mono K;have N:=N.mono K;have O:=O.mono K;have U:=U.mono K;try dsimp only at hR
 obtain⟨b0,x10_0_0c_0,x10_0_0c_1,x10_0_0c_2,rfl,aq,f10_0_0c_0,f10_0_0c_1,f10_0_0c_2⟩:=hR;refine NT (BL ?_);obtain⟨ba,bb,h⟩:=bnd h;refine WC.rangeW (A:=[]) (L:=[.blk a5 (.cells #[V,Y,Z] 39), .blk a2 (.cells #[I 0,I 0] 28), .blk a6 (.cells #[Value.bool false] 4)]) (B:=[]) (H.pick (L':=[.blk a5 (.cells #[V,Y,Z] 39), .blk a2 (.cells #[I 0,I 0] 28), .blk a6 (.cells #[Value.bool false] 4)]) Kp) rfl Y4L (.left (.left (.left (q0P _)))) ⟨aq,f10_0_0c_0,f10_0_0c_1,f10_0_0c_2⟩ rfl rfl (fun s L M =>∃(n6:Int) (n7:Int) (b8:Bool) (aa:Nat),s=((n6,n7,b8),aa)/\L=[.blk a5 (.cells #[V,Y,Z] 39), .blk a2 (.cells #[I n6,I n7] 28), .blk a6 (.cells #[Value.bool b8] 4)]/\Gv2 M/\Gv1 M/\Gv3 M/\Gv0 M/\Tabs M/\SlS M 2 xenc46 V p0.1/\Sl M encB Y p0.2.1/\SlR xrl39 M Z p0.2.2) (fun s=>exE [.ret] s.2) exStop (fun s=>exE_stop _ s) (Y2j) ((0,0,false),0) ba bb (by rintro s L M M' ⟨n6,n7,b8,aa,rfl,rfl,E,J,gM,u,gT,N,O,U⟩ K;exact ⟨_,_,_,_,rfl,rfl,E.mono K,J.mono K,gM.mono K,u.mono K,gT.mono K,N.mono K,O.mono K,U.mono K⟩) rfl ⟨_,_,_,_,rfl,rfl,E,J,gM,u,gT,N,O,U⟩ ?_ ?_ ?_
 .
  rintro ab ah ak s ⟨bc,⟨bv,bw,bx,bd⟩⟩ bz c0 c1 L be Mb9 hE a3 ⟨n6,n7,b8,aa,rfl,rfl,E,J,gM,u,gT,N,O,U⟩ ⟨xZ9_0_0,xZ9_0_1,xZ9_0_2,rfl,rfl,fZ9_0_0,fZ9_0_1,fZ9_0_2⟩ H;unfold Y2j at a3;try dsimp only at a3
  refine SR (AN G G (RG (q09 [_,_,_,_] H Tz98 G (q00 G) G ?_)));intro c2 w H;refine q04 [_,_,_,_] H G G G Ku Ts98 G Kf (by simp only[l0i,l0u,(fZ9_0_0).one.2,(fZ9_0_1).one.2,(fZ9_0_2).one.2];rfl) (q00 G) ?_;intro w H;refine NL (WQ.begin ak H Ku ?_);intro w H;refine BL (SQ (SM G G (ST (q0Q G G) G (NT ?_))));refine CB (p:=(40:Int)<=bc) G (fun al=>?_) fun al=>?_
  .
   rw[l01 al] at a3;refine SQ ?_;obtain⟨⟨bg,bh⟩,b1,a3⟩:=bnd a3;try dsimp only at a3
   refine RG (q02 H (Y02 b1) G trivial (q00 G) G ?_);intro c3 M w H K hR;have E:=E.mono K;have J:=J.mono K;have gM:=gM.mono K;have u:=u.mono K;have gT:=gT.mono K;have N:=N.mono K;have O:=O.mono K;have U:=U.mono K;try dsimp only at hR
   obtain rfl:=hR;refine q04 [_,_] H G G G Ku Ts28 G Kf Kf (q00 G) ?_;intro w H;refine NR ?_;obtain rfl:=oI a3;exact WQ.rsRet ak (H.pick (L':=[.blk ab (.loop (ah .busy none)), .blk a5 (.cells #[V,Y,Z] 39), .blk a2 (.cells #[I bg,I bh] 28), .blk a6 (.cells #[Value.bool b8] 4)]) Kp) G ⟨_,_,_,_,G,G,E,J,gM,u,gT,N,O,U⟩
  rw[l00 al] at a3;refine SK (TN ?_);obtain⟨bi,an,a3⟩:=bnd a3;refine q0c (fun e w =>∃(ao:Bool) (M:Mem),e=[(1,ptr a5 0),(2,ptr a2 0),(3,ptr a6 0)]/\StX (feet (.blk ab (.loop (ah .ready none))::[.blk a5 (.cells #[V,Y,Z] 39), .blk a2 (.cells #[I n6,I n7] 28), .blk a6 (.cells #[Value.bool b8] 4)])) be Mb9 M [.blk a5 (.cells #[V,Y,Z] 39), .blk a2 (.cells #[I n6,I n7] 28), .blk a6 (.cells #[Value.bool ao] 4), .blk ab (.loop (ah .busy none))] w/\Gv2 M/\Gv1 M/\Gv3 M/\Gv0 M/\Tabs M/\SlS M 2 xenc46 V p0.1/\Sl M encB Y p0.2.1/\SlR xrl39 M Z p0.2.2/\some ao=some bi) [] ?_ ?_ (trivial)
  .
   refine RG (ST (XL H Ta4) G ?_);refine MV G G ?_;rcases b8 with _|_
   .
    rw[l00 l03] at an;refine SG (q01 Tu98 G Ts3 Dc G) G G G (SG (XL H Ta3) G G G ?_);refine SG (q0A G G) G G G (PF G G G (q04 [_] H G G G Ku Ts4 G Kf Kf (q00 G) ?_));intro w H;refine NL ?_;exact MN ⟨_,_,G,(H.pick (L':=[.blk a5 (.cells #[V,Y,Z] 39), .blk a2 (.cells #[I n6,I n7] 28), .blk a6 (.cells #[Value.bool (decide ((8:Int)<bd))] 4), .blk ab (.loop (ah .busy none))]) Kp),E,J,gM,u,gT,N,O,U,an⟩
   rw[l01 rfl] at an;refine q0i 3 G G (PT G G G (q04 [_] H G G G Ku Ts4 G Kf Kf (q00 G) ?_));intro w H;refine NL ?_;exact MN ⟨_,_,G,(H.pick (L':=[.blk a5 (.cells #[V,Y,Z] 39), .blk a2 (.cells #[I n6,I n7] 28), .blk a6 (.cells #[Value.bool true] 4), .blk ab (.loop (ah .busy none))]) Kp),E,J,gM,u,gT,N,O,U,an⟩
  rintro e w ⟨ao,M,rfl,H,E,J,gM,u,gT,N,O,U,bj⟩;obtain rfl:=oI bj;refine IB ?_;obtain rfl:=oI a3;exact WQ.rsOn ak (H.pick (L':=[.blk ab (.loop (ah .busy none)), .blk a5 (.cells #[V,Y,Z] 39), .blk a2 (.cells #[I n6,I n7] 28), .blk a6 (.cells #[Value.bool ao] 4)]) Kp) G ⟨_,_,_,_,G,G,E,J,gM,u,gT,N,O,U⟩
 .
  rintro Dm9 w M L H K hE ⟨n6,n7,b8,aa,rfl,rfl,E,J,gM,u,gT,N,O,U⟩;simp only[l09,l07,l0m] at H;try dsimp only at h
  obtain rfl:=exE_none hE;rw[l01 rfl] at h;refine IB (TN (SQ (SR (ST (XL H Ta4) G ?_))));refine NT ?_;refine q0a G (fun am=>?_) (fun am=>?_)
  .
   subst am;rw[l01 rfl] at h;refine SQ ?_;obtain⟨⟨c4,c5⟩,b2,h⟩:=bnd h;try dsimp only at h
   refine RG (q02 H (Y02 b2) G trivial (q00 G) G ?_);intro c6 M w H K hR;try dsimp only at hR
   obtain rfl:=hR;refine q04 [_,_] H G G G Ku Ts28 G Kf Kf (q00 G) ?_;intro w H;refine NR ?_;obtain rfl:=oI h;exact WQ.nret1 G H Kv (fun w H=>⟨_,G,H.loadAgg Km Ta28 Ts28 Kf⟩) G
  subst am;rw[l00 l03] at h;refine KQ (SQ ?_);obtain⟨⟨c7,c8,c9⟩,b3,h⟩:=bnd h;try dsimp only at h
  refine RG (ST (q08 H G Km Ta39 Ts39 Kf) G ?_);refine q02 H (Y5v b3) G ⟨N,O,U⟩ (q00 G) G ?_;intro ca M w H K hR;have E:=E.mono K;have J:=J.mono K;have gM:=gM.mono K;have u:=u.mono K;have gT:=gT.mono K;try dsimp only at hR
  obtain⟨b4,x25_0_0c_0,x25_0_0c_1,x25_0_0c_2,rfl,ar,f25_0_0c_0,f25_0_0c_1,f25_0_0c_2⟩:=hR;refine NT (BL ?_);obtain⟨bm,bn,h⟩:=bnd h;refine WC.rangeW (A:=[]) (L:=[.blk a2 (.cells #[I n6,I n7] 28)]) (B:=[.blk Dm9 (.deferred (some []))]) (H.pick (L':=[.blk a2 (.cells #[I n6,I n7] 28), .blk Dm9 (.deferred (some []))]) Kp) rfl Y4L (.left (q0P _)) ⟨ar,f25_0_0c_0,f25_0_0c_1,f25_0_0c_2⟩ rfl rfl (fun s L M =>∃(ad:Int) (ae:Int) (ac:Nat),s=((ad,ae),ac)/\L=[.blk a2 (.cells #[I ad,I ae] 28)]/\Gv2 M/\Gv1 M/\Gv3 M/\Gv0 M/\Tabs M) (fun s=>exE [.ret] s.2) exStop (fun s=>exE_stop _ s) (Y11) ((n6,n7),0) bm bn (by rintro s L M M' ⟨ad,ae,ac,rfl,rfl,E,J,gM,u,gT⟩ K;exact ⟨_,_,_,rfl,rfl,E.mono K,J.mono K,gM.mono K,u.mono K,gT.mono K⟩) rfl ⟨_,_,_,rfl,rfl,E,J,gM,u,gT⟩ ?_ ?_ ?_
  .
   rintro ap au aj s ⟨cb,⟨cc,cd,ce,cf⟩⟩ bq br bs L bt Mb38 hE a4 ⟨ad,ae,ac,rfl,rfl,E,J,gM,u,gT⟩ ⟨xZ38_0_0,xZ38_0_1,xZ38_0_2,rfl,rfl,fZ38_0_0,fZ38_0_1,fZ38_0_2⟩ H;unfold Y11 at a4;try dsimp only at a4
   refine SR (AN G G (RG (q09 [_,_,_,_] H Tz98 G (q00 G) G ?_)));intro cg w H;refine q04 [_,_,_,_] H G G G Ku Ts98 G Kf (by simp only[l0i,l0u,(fZ38_0_0).one.2,(fZ38_0_1).one.2,(fZ38_0_2).one.2];rfl) (q00 G) ?_;intro w H;refine NL (WQ.begin aj H Ku ?_);intro w H;refine BL (SQ ?_);obtain⟨ay,b5,a4⟩:=bnd a4;refine RG (ST (q08 H G Km Tryz.isAgg98 Ts98 Kf) G ?_);refine q02 H (Y89 b5) G ⟨E,J,gM,u,gT,fZ38_0_0,fZ38_0_1,fZ38_0_2⟩ (q00 G) G ?_;intro ch M w H K hR;have E:=E.mono K;have J:=J.mono K;have gM:=gM.mono K;have u:=u.mono K;have gT:=gT.mono K;obtain rfl:=hR;refine AN G G (SM G G (ST (q1j G G) G (NT ?_)));refine q0a G (fun a7=>?_) (fun a7=>?_)
   .
    replace a7 :¬(ay=(0:Int)):=of_not_decide a7;rw[l00 a7] at a4;refine SQ ?_;obtain⟨⟨bo,bp⟩,b6,a4⟩:=bnd a4;try dsimp only at a4
    refine RM G G (MV G G (q02 H (Y02 b6) G trivial (q00 G) G ?_));intro ci M w H K hR;have E:=E.mono K;have J:=J.mono K;have gM:=gM.mono K;have u:=u.mono K;have gT:=gT.mono K;try dsimp only at hR
    obtain rfl:=hR;refine q04 [_,_] H G G G Ku Ts28 G Kf Kf (q00 G) ?_;intro w H;refine NR ?_;obtain rfl:=oI a4;exact WQ.rsRet aj (H.pick (L':=[.blk ap (.loop (au .busy none)), .blk a2 (.cells #[I bo,I bp] 28)]) Kp) G ⟨_,_,_,G,G,E,J,gM,u,gT⟩
   replace a7:ay=(0:Int):=of_not_decide' a7;rw[l01 a7] at a4;refine SK (IB ?_);obtain rfl:=oI a4;exact WQ.rsOn aj (H.pick (L':=[.blk ap (.loop (au .busy none)), .blk a2 (.cells #[I ad,I ae] 28)]) Kp) G ⟨_,_,_,G,G,E,J,gM,u,gT⟩
  .
   rintro Dm38 w M L H K hE ⟨ad,ae,ac,rfl,rfl,E,J,gM,u,gT⟩;simp only[l09,l07,l0m] at H;try dsimp only at h
   obtain rfl:=exE_none hE;rw[l01 rfl] at h;refine IB (TN (SQ ?_));obtain⟨⟨cj,ck⟩,b7,h⟩:=bnd h;try dsimp only at h
   refine RG (q02 H (Y07 b7) G trivial (q00 G) G ?_);intro cm M w H K hR;try dsimp only at hR
   obtain rfl:=hR;refine q04 [_,_] H G G G Ku Ts28 G Kf Kf (q00 G) ?_;intro w H;refine NR ?_;obtain rfl:=oI h;exact WQ.mmret1 G H Kv Kv (fun w H=>⟨_,G,H.loadAgg Km Ta28 Ts28 Kf⟩) G
  rintro Dm38 w M L c H K hE ⟨ad,ae,ac,rfl,rfl,E,J,gM,u,gT⟩;simp only[l09,l07,l0m] at H;try dsimp only at h
  by_cases av:ac=1
  .
   subst av;obtain rfl:=oI hE;rw[l00 Dc,l01 rfl] at h;refine RT ?_;obtain rfl:=oI h;exact WQ.mmret1 G H Kv Kv (fun w H=>⟨_,G,H.loadAgg Km Ta28 Ts28 Kf⟩) G
  have aw:=av;rw[l00 (exE_ne hE),l00 aw] at h;cases h
 rintro Dm9 w M L c H K hE ⟨n6,n7,b8,aa,rfl,rfl,E,J,gM,u,gT,N,O,U⟩;simp only[l09,l07,l0m] at H;try dsimp only at h
 by_cases az:aa=1
 .
  subst az;obtain rfl:=oI hE;rw[l00 Dc,l01 rfl] at h;refine RT ?_;obtain rfl:=oI h;exact WQ.nret1 G H Kv (fun w H=>⟨_,G,H.loadAgg Km Ta28 Ts28 Kf⟩) G
 have ax:=az;rw[l00 (exE_ne hE),l00 ax] at h;cases h
theorem Y5c {p0:Z0h}{a9:Value}{aa:Value}{r:(Z0f × Z02)}(h:Y2D p0=some r):Ct Tryz.prog 9 [Value.agg #[a9,aa]] (fun M=>Gv2 M/\Gv1 M/\Gv3 M/\Gv0 M/\Tabs M/\SlS M 2 xenc46 a9 p0.1/\Sl M encB aa p0.2) (fun v M =>∃ab ac ad,v=Value.tuple #[Value.agg #[ab,ac,ad],Value.agg #[I r.2.1,I r.2.2]]/\SlS M 2 xenc46 ab r.1.1/\Sl M encB ac r.1.2.1/\SlR xrl39 M ad r.1.2.2):=by
 refine Ct.of Tryz.func9 (enters Tryz.func9 Kr G) G G G ?_;intro w0 M0 H hp;obtain⟨E,J,V,u,Y,a1,a2⟩:=hp;unfold Y2D at h;refine SR (q0D [_,_] H G G (q00 G) G ?_);intro b1 w H;refine q09 [_,_,_] H Tz39 G (q00 G) G ?_;intro Z w H;refine q09 [_,_] H Tz28 G (q00 G) G ?_;intro a0 w H;refine NQ (SQ ?_);obtain⟨⟨n1,n2⟩,av,h⟩:=bnd h;try dsimp only at h
 refine RG (ST (q08 H G Km Ta25 Ts25 Kf) G ?_);refine q02 H (Y2Z av) G ⟨a1,a2⟩ (q00 G) G ?_;intro b2 M w H K hR;have E:=E.mono K;have J:=J.mono K;have V:=V.mono K;have u:=u.mono K;have Y:=Y.mono K;have a1:=a1.mono K;have a2:=a2.mono K;try dsimp only at hR
 obtain rfl:=hR;refine q09 [_,_] H Tz28 G (q00 G) G ?_;intro b3 w H;refine q04 [_,_] H G G G Ku Ts28 G Kf Kf (q00 G) ?_;intro w H;refine NQ ?_;obtain⟨b4,aw,h⟩:=bnd h;refine RG (ST (q08 H G Km Ta28 Ts28 Kf) G ?_);refine q02 H (Y06 aw) G trivial (q00 G) G ?_;intro b5 M w H K hR;have E:=E.mono K;have J:=J.mono K;have V:=V.mono K;have u:=u.mono K;have Y:=Y.mono K;have a1:=a1.mono K;have a2:=a2.mono K;obtain rfl:=hR;refine NT ?_;refine q0a G (fun ae=>?_) (fun ae=>?_)
 .
  subst ae;rw[l01 rfl] at h;refine SQ ?_;refine q0V (fun e w =>∃  (M:Mem),e=[(2,ptr Z 0),(3,ptr a0 0)]/\St w0 M0 M [.blk Z (.cells #[Value.slice none 0 0,Value.slice none 0 0,Value.slice none 0 0] 39), .blk a0 (.cells #[I n1,I n2] 28)] w/\Gv2 M/\Gv1 M/\Gv3 M/\Gv0 M/\Tabs M) ?_ ?_
  .
   refine q0v (m:=4) G G H ?_;intro w H;refine TK 0 G (fun _=>q0t [Value.slice none 0 0,Value.slice none 0 0,Value.slice none 0 0] Tu39 Tz39 (xplaces39 Tu39) G G) G ?_;refine q0C (i:=1) (j:=2) Kr G G ?_ ?_
   .
    refine ST (q08 H G Km Ta28 Ts28 Kf) G ?_;refine NA (q0k (fuel:=0) [2,3] G Kr (q04 [_,_,_] H G G G Ku Ts39 G Kf Kf (q00 G) ?_));intro w H;refine q04 [_,_] H G G G Ku Ts28 G Kf Kf (q00 G) ?_;intro w H;refine NA (q0f Kr ?_);exact MP ⟨_,G,(H.pick (L':=[.blk Z (.cells #[Value.slice none 0 0,Value.slice none 0 0,Value.slice none 0 0] 39), .blk a0 (.cells #[I n1,I n2] 28)]) Kp),E,J,V,u,Y⟩
   refine q04 [_,_,_] H G G G Ku Ts39 G Kf Kf (q00 G) ?_;intro w H;refine NA (q0k (fuel:=0) [1,3] G Kr (ST (q08 H G Km Ta28 Ts28 Kf) G ?_));refine q04 [_,_] H G G G Ku Ts28 G Kf Kf (q00 G) ?_;intro w H;refine NA (q0f Kr ?_);exact MP ⟨_,G,(H.pick (L':=[.blk Z (.cells #[Value.slice none 0 0,Value.slice none 0 0,Value.slice none 0 0] 39), .blk a0 (.cells #[I n1,I n2] 28)]) Kp),E,J,V,u,Y⟩
  rintro e w ⟨M,rfl,H,E,J,V,u,Y⟩;refine TN (RT ?_);obtain rfl:=oI h;exact q0r G ⟨_,G,H.loadAgg Km Ta39 Ts39 Kf⟩ ⟨_,G,H.loadAgg Km Ta28 Ts28 Kf⟩ H.ext (⟨_,_,_,G,(q1a _ _ (fun _=>G)),q0U _ _,q1F⟩)
 subst ae;rw[l00 l03] at h;refine KQ (RG (ST (q0t [I 0,I 0,I 0] Tu59 Tryz.zeroValue59 (xplaces59 Tu59) G G) G (q0D [_,_,_] H G G (q00 G) G ?_)));intro ao w H;refine AQ G G ?_;obtain⟨⟨⟨l7,l8,l9⟩,ak,a7⟩,ap,h⟩:=bnd h;try dsimp only at h
 refine RM G G (ST (q01 Tu25 G Ts22 Dc G) G (ST (XL H Ta22) G ?_));refine ST (q01 Tu25 G Ts23 Dc G) G (ST (XL H Ta23) G ?_);refine XC (A:=[.blk ao (.cells #[I 0,I 0,I 0] 59)]) H (Y5O ap) G ⟨E,J,V,u,Y,a1,a2⟩ (q00 G) G Kt ?_;intro b6 M w its H K hR;have E:=E.mono K;have J:=J.mono K;have V:=V.mono K;have u:=u.mono K;have Y:=Y.mono K;try dsimp only at hR
 obtain⟨a3,a4,a5,rfl,N,O,U,rfl⟩:=hR;simp only[l09,l07] at H;refine MV G G (ST (q05 G G) G (ST (q05 G G) G (q09 [_,_,_] H Tz39 G (q00 G) G ?_)));intro b7 w H;refine q04 [_,_,_] H G G G Ku Ts39 G Kf (by simp only[l0i,l0u,(N).one.2,(O).one.2,(U).one.2];rfl) (q00 G) ?_;intro w H;refine AQ G G (SM G G (ST (q0w G) G (NT ?_)));refine q0a G (fun a6=>?_) (fun a6=>?_)
 .
  replace a6:ak=false:=by simpa using a6
  subst a6;rw[l00 l03] at h;refine SQ ?_;refine q0V (fun e w =>∃  (M:Mem),e=[(2,ptr Z 0),(3,ptr a0 0)]/\St w0 M0 M [.blk Z (.cells #[Value.slice none 0 0,Value.slice none 0 0,Value.slice none 0 0] 39), .blk a0 (.cells #[I a7.2.1,I a7.2.2] 28)] w/\Gv2 M/\Gv1 M/\Gv3 M/\Gv0 M/\Tabs M) ?_ ?_
  .
   refine q0v (m:=7) G G H ?_;intro w H;refine TK 0 G (fun _=>q0t [Value.slice none 0 0,Value.slice none 0 0,Value.slice none 0 0] Tu39 Tz39 (xplaces39 Tu39) G G) G (TK 1 G (fun _=>q06 G) G (TK 2 G (fun _=>q0S G) G (TK 3 G (fun _=>q01 Tu59 G Ts28 Dc G) G ?_)));refine q0C (i:=4) (j:=5) Kr G G ?_ ?_
   .
    refine ST (Ex.loadAggP (us:=[_,_]) H G Km Ta28 Ts28 G G) G ?_;refine NA (q0k (fuel:=0) [5,6] G Kr (q04 [_,_,_] H G G G Ku Ts39 G Kf Kf (q00 G) ?_));intro w H;refine q04 [_,_] H G G G Ku Ts28 G Kf Kf (q00 G) ?_;intro w H;refine NA (q0f Kr ?_);exact MP ⟨_,G,(H.pick (L':=[.blk Z (.cells #[Value.slice none 0 0,Value.slice none 0 0,Value.slice none 0 0] 39), .blk a0 (.cells #[I a7.2.1,I a7.2.2] 28)]) Kp),E,J,V,u,Y⟩
   refine q04 [_,_,_] H G G G Ku Ts39 G Kf Kf (q00 G) ?_;intro w H;refine NA (q0k (fuel:=0) [4,6] G Kr (ST (Ex.loadAggP (us:=[_,_]) H G Km Ta28 Ts28 G G) G ?_));refine q04 [_,_] H G G G Ku Ts28 G Kf Kf (q00 G) ?_;intro w H;refine NA (q0f Kr ?_);exact MP ⟨_,G,(H.pick (L':=[.blk Z (.cells #[Value.slice none 0 0,Value.slice none 0 0,Value.slice none 0 0] 39), .blk a0 (.cells #[I a7.2.1,I a7.2.2] 28)]) Kp),E,J,V,u,Y⟩
  rintro e w ⟨M,rfl,H,E,J,V,u,Y⟩;refine TN (RT ?_);obtain rfl:=oI h;exact q0r G ⟨_,G,H.loadAgg Km Ta39 Ts39 Kf⟩ ⟨_,G,H.loadAgg Km Ta28 Ts28 Kf⟩ H.ext (⟨_,_,_,G,(q1a _ _ (fun _=>G)),q0U _ _,q1F⟩)
 replace a6:ak=true:=by simpa using a6
 subst a6;rw[l01 rfl] at h;refine KQ (SQ ?_);obtain⟨⟨b8,b9⟩,aq,h⟩:=bnd h;try dsimp only at h
 refine RG (ST (q08 H G Km Ta39 Ts39 Kf) G ?_);refine q02 H (Y5q aq) G ⟨E,J,V,u,Y,N,O,U⟩ (q00 G) G ?_;intro ba M w H K hR;have E:=E.mono K;have J:=J.mono K;have V:=V.mono K;have u:=u.mono K;have Y:=Y.mono K;have N:=N.mono K;have O:=O.mono K;have U:=U.mono K;try dsimp only at hR
 obtain rfl:=hR;refine q09 [_,_] H Tz28 G (q00 G) G ?_;intro bb w H;refine q04 [_,_] H G G G Ku Ts28 G Kf Kf (q00 G) ?_;intro w H;refine NQ ?_;obtain⟨bc,ar,h⟩:=bnd h;refine RG (ST (q08 H G Km Ta28 Ts28 Kf) G ?_);refine q02 H (Y06 ar) G trivial (q00 G) G ?_;intro bd M w H K hR;have E:=E.mono K;have J:=J.mono K;have V:=V.mono K;have u:=u.mono K;have Y:=Y.mono K;have N:=N.mono K;have O:=O.mono K;have U:=U.mono K;obtain rfl:=hR;refine NT ?_;refine q0a G (fun a8=>?_) (fun a8=>?_)
 .
  subst a8;rw[l01 rfl] at h;refine SQ ?_;obtain⟨⟨be,bg⟩,au,h⟩:=bnd h;try dsimp only at h
  refine RG (ST (q0t [Value.slice none 0 0,Value.slice none 0 0,Value.slice none 0 0] Tu39 Tz39 (xplaces39 Tu39) G G) G (ST (q01 Tu28 G Ts3 Dc G) G (ST (XL H Ta3) G ?_)));refine q02 H (Y02 au) G trivial (q00 G) G ?_;intro bh M w H K hR;try dsimp only at hR
  obtain rfl:=hR;refine q04 [_,_,_] H G G G Ku Ts39 G Kf Kf (q00 G) ?_;intro w H;refine q04 [_,_] H G G G Ku Ts28 G Kf Kf (q00 G) ?_;intro w H;refine NR ?_;obtain rfl:=oI h;exact q0r G ⟨_,G,H.loadAgg Km Ta39 Ts39 Kf⟩ ⟨_,G,H.loadAgg Km Ta28 Ts28 Kf⟩ H.ext (⟨_,_,_,G,(q1a _ _ (fun _=>G)),q0U _ _,q1F⟩)
 subst a8;rw[l00 l03] at h;refine KQ ?_;obtain⟨⟨ah,ai⟩,aj,h⟩:=bnd h;try dsimp only at h
 refine q0V (fun e w =>∃  (M:Mem),e=[(2,ptr Z 0),(3,ptr a0 0)]/\St w0 M0 M [.blk Z (.cells #[a3,a4,a5] 39), .blk a0 (.cells #[I ah,I ai] 28)] w/\Gv2 M/\Gv1 M/\Gv3 M/\Gv0 M/\Tabs M/\SlS M 2 xenc46 a3 l7/\Sl M encB a4 l8/\SlR xrl39 M a5 l9) ?_ ?_
 .
  refine q0v (m:=4) G G H ?_;intro w H;refine q0C (i:=0) (j:=1) Kr G G ?_ ?_
  .
   refine ST (q08 H G Km Ta39 Ts39 Kf) G ?_;refine NA (q0k (fuel:=0) [1,2,3] G Kr (q02 H (Y07 aj) G trivial (q00 G) G ?_));intro ax M w H K hR;have E:=E.mono K;have J:=J.mono K;have V:=V.mono K;have u:=u.mono K;have Y:=Y.mono K;have N:=N.mono K;have O:=O.mono K;have U:=U.mono K;try dsimp only at hR
   obtain rfl:=hR;refine q04 [_,_,_] H G G G Ku Ts39 G Kf (by simp only[l0i,l0u,(N).one.2,(O).one.2,(U).one.2];rfl) (q00 G) ?_;intro w H;refine q04 [_,_] H G G G Ku Ts28 G Kf Kf (q00 G) ?_;intro w H;refine NA (q0f Kr ?_);exact MP ⟨_,G,(H.pick (L':=[.blk Z (.cells #[a3,a4,a5] 39), .blk a0 (.cells #[I ah,I ai] 28)]) Kp),E,J,V,u,Y,N,O,U⟩
  refine q02 H (Y07 aj) G trivial (q00 G) G ?_;intro ax M w H K hR;have E:=E.mono K;have J:=J.mono K;have V:=V.mono K;have u:=u.mono K;have Y:=Y.mono K;have N:=N.mono K;have O:=O.mono K;have U:=U.mono K;try dsimp only at hR
  obtain rfl:=hR;refine NA (q0k (fuel:=0) [0,2,3] G Kr (ST (q08 H G Km Ta39 Ts39 Kf) G ?_));refine q04 [_,_,_] H G G G Ku Ts39 G Kf (by simp only[l0i,l0u,(N).one.2,(O).one.2,(U).one.2];rfl) (q00 G) ?_;intro w H;refine q04 [_,_] H G G G Ku Ts28 G Kf Kf (q00 G) ?_;intro w H;refine NA (q0f Kr ?_);exact MP ⟨_,G,(H.pick (L':=[.blk Z (.cells #[a3,a4,a5] 39), .blk a0 (.cells #[I ah,I ai] 28)]) Kp),E,J,V,u,Y,N,O,U⟩
 rintro e w ⟨M,rfl,H,E,J,V,u,Y,N,O,U⟩;refine TN (RT ?_);obtain rfl:=oI h;exact q0r G ⟨_,G,H.loadAgg Km Ta39 Ts39 Kf⟩ ⟨_,G,H.loadAgg Km Ta28 Ts28 Kf⟩ H.ext (⟨_,_,_,G,N,O,U⟩)
theorem Y8A {p0:Z0f}{K:Value}{N:Value}{O:Value}{r:Z0f}(h:Y65 p0=some r):Ct Tryz.prog 29 [Value.agg #[K,N,O]] (fun M=>SlS M 2 xenc46 K p0.1/\Sl M encB N p0.2.1/\SlR xrl39 M O p0.2.2) (fun v M =>∃U x0_0c_0 x0_0c_1 x0_0c_2,v=(Value.func (.func 57) #[] #[ptr U 0])/\PtM M U (.cells #[x0_0c_0,x0_0c_1,x0_0c_2] 39)/\SlS M 2 xenc46 x0_0c_0 r.1/\Sl M encB x0_0c_1 r.2.1/\SlR xrl39 M x0_0c_2 r.2.2):=by
 refine Ct.of Tryz.func29 (enters Tryz.func29 Kr G) G G G ?_;intro w0 M0 H hp;obtain⟨u,E,J⟩:=hp;unfold Y65 at h;refine SR (q0D [_,_,_] H G G (q00 G) G ?_);intro Y w H;refine AQ G G (RG ?_);obtain⟨M,V,Z,H⟩:=H.freezeVar (b:=Y) Kv;have u:=u.mono V;have E:=E.mono V;have J:=J.mono V;refine ST (q1t G) G (AR G G ?_);obtain rfl:=oI h;exact q07 G G H.ext (⟨_,_,_,_,G,Z,u,E,J⟩)
theorem Y5d {p0:Ls}{K:Ls}{r:Ls}(h:Y13 p0 K=some r):Ct Tryz.prog 134 [S p0,S K] (fun M=>True) (fun v M=>v=S r):=by
 refine Ct.of Tryz.func134 (enters Tryz.func134 Kr G) G G G ?_;intro U M0 H hp;unfold Y13 at h;refine SR (AQ G G (SQ ?_));obtain⟨V,N,h⟩:=bnd h;refine RM G G (MV G G (q02 H (Y2N N) G trivial (q00 G) G ?_));intro Y M w H O hR;obtain rfl:=hR;refine NT ?_;refine q0a G (fun u=>?_) (fun u=>?_)
 .
  subst u;rw[l01 rfl] at h;refine SQ ?_;obtain⟨Z,E,h⟩:=bnd h;obtain⟨s5,J,h⟩:=bnd h;refine RM G G (MV G G (ST (q0g Tu9 G) G (MV G G (ST (q0g Tu9 G) G (ST (q0I G G E) G (ST (q1z Tu9 G G J) G (AR G G ?_)))))));obtain rfl:=oI h;exact q07 G G H.ext G
 subst u;rw[l00 l03] at h;refine SK (TN (SM G G (AR G G ?_)));obtain rfl:=oI h;exact q07 G G H.ext G
theorem Y5W {p0:Ls}{u:Ls}{r:Ls}(h:Y1D p0 u=some r):Ct Tryz.prog 96 [S p0,S u] (fun M=>True) (fun v M=>v=S r):=by
 refine Ct.of Tryz.func96 (enters Tryz.func96 Kr G) G G G ?_;intro K M0 H hp;unfold Y1D at h;refine SR (AQ G G ?_);obtain⟨N,E,h⟩:=bnd h;refine RM G G (MV G G (q02 H (Y5d E) G trivial (q00 G) G ?_));intro O M w H J hR;obtain rfl:=hR;refine AR G G ?_;obtain rfl:=oI h;exact q07 G G H.ext G
theorem Y3n {p0:Ls}{r:Ls}(h:Y1Z p0=some r):Ct Tryz.prog 59 [S p0] (fun M=>True) (fun v M=>v=S r):=by
 refine Ct.of Tryz.func59 (enters Tryz.func59 Kr G) G G G ?_;intro w0 M0 H hp;unfold Y1Z at h;refine SR (AQ G G (RG (AQ G G (SM G G (ST (q0g Tu9 G) G (MV G G (NT ?_)))))));obtain⟨o1,u,h⟩:=bnd h;refine q0c (fun e w =>∃(l4:Ls) (v5:Value) (M:Mem),e=[(3,v5)]/\St w0 M0 M [RowI 5 encB v5 l4] w/\some l4=some o1) [] ?_ ?_ (trivial)
 .
  refine BL ?_;replace H:=H.newRow 5 encB;refine q0l (fun m e w =>∃(N:Ls) (O:Value) (K:Int) (M:Mem),e=[(0,S p0),(3,O),(8,I (p0.length:Int)),(9,I K)]/\St w0 M0 M [RowI 5 encB O N] w/\Y0q p0 m N K=some o1) FU [(0,_),(3,_),(8,_),(9,_)] ⟨rfl,rfl,rfl,rfl,trivial⟩ ⟨_,_,_,_,rfl,H,u⟩ ?_;rintro a0 e w ⟨N,O,K,M,rfl,H,u⟩;rcases a0 with _|a0
  . rw[Y0q] at u;cases u
  rw[Y0q] at u;refine SR (ST (q0m G G) G (NQ ?_));refine CB (p:=K<(p0.length:Int)) G (fun V=>?_) fun V=>?_
  .
   rw[l01 V] at u;refine KQ (BL (SM G G (AQ G G ?_)));obtain⟨au,a7,u⟩:=bnd u;refine RM G G (MV G G (ST (q0p Tu9 G G a7) G (AQ G G (SQ ?_))));obtain⟨av,ae,u⟩:=bnd u;refine RM G G (q02 H (Y33 ae) G trivial (q00 G) G ?_);intro aw M w H a4 hR;obtain rfl:=hR;refine NT ?_;obtain⟨ac,E,u⟩:=bnd u;refine q0c (fun e w =>∃(a1:UInt8) (M:Mem),e=[(0,S p0),(3,O),(5,encB a1),(8,I (p0.length:Int)),(9,I K)]/\St w0 M0 M [RowI 5 encB O N] w/\some (.inl a1)=some ac) [(1,fun e w =>∃  (M:Mem),e=[(0,S p0),(3,O),(8,I (p0.length:Int)),(9,I K)]/\St w0 M0 M [RowI 5 encB O N] w/\some (.inr ())=some ac)] ?_ ?_ (⟨?_,trivial⟩)
   .
    refine q0a G (fun Y=>?_) (fun Y=>?_)
    .
     subst Y;rw[l01 rfl] at E;refine SR (AN G G (SM G G (ST (q1x (l:=N) Tu23 H Km G) G ?_)));refine AQ G G ?_;obtain⟨am,J,E⟩:=bnd E;refine q0c (fun e w =>∃(a5:Bool) (M:Mem),e=[(0,S p0),(3,O),(5,encB 32),(8,I (p0.length:Int)),(9,I K),(28,Value.bool a5)]/\St w0 M0 M [RowI 5 encB O N] w/\some a5=some am) [] ?_ ?_ (trivial)
     .
      by_cases U:(0:Int)<(N.length:Int)
      .
       rw[l01 U] at J;obtain⟨ax,a8,J⟩:=bnd J;obtain⟨an,a2,J⟩:=bnd J;refine RM G G (DT U (q0A G G) G (MV G G (SG (q06 G) G G G (SG (q06 G) G G G (SG (q0I G G a8) G G G (WR.idxRowC (l:=N) H Tu23 Ts5 Km G G a2 (q0h G G G) G ?_))))));intro ay ah;refine SG (Ex.loadRowC H G ah Km a2 Ta5) G G G ?_;refine SG (q0J (c:=an) (d:=32) G G) G G G (PT G G G (NL ?_));exact MN ⟨_,_,G,H,J⟩
      rw[l00 U] at J;refine RM G G (DF U (q0A G G) G (MV G G (q0i 6 G G (PF G G G (NL ?_)))));exact MN ⟨_,_,G,H,J⟩
     rintro e w ⟨a5,M,rfl,H,ao⟩;obtain rfl:=oI ao;refine TN ?_;refine q0a G (fun Z=>?_) (fun Z=>?_)
     .
      subst Z;rw[l01 rfl] at E;refine q0j ?_;exact WQ.meetX G [(0,_),(3,_),(8,_),(9,_)] ⟨G,G,G,G,trivial⟩ ⟨_,G,H,E⟩
     subst Z;rw[l00 l03] at E;refine SK ?_;exact MN ⟨_,_,G,H,E⟩
    subst Y;rw[l00 l03] at E;refine SK ?_;exact MN ⟨_,_,G,H,E⟩
   .
    rintro e w ⟨a1,M,rfl,H,ap⟩;obtain rfl:=oI ap;try dsimp only at u
    refine TN ?_;obtain⟨az,a9,u⟩:=bnd u;refine RM G G (MV G G (q0M (enc:=encB) xty23 ([a1]:Ls) H G Kf (fun _=>G) G G (q00 G) G ?_));intro b0 M w H a4 ai;refine q0F (l:=N) xty23 G (fun _=>G) H G Ud G (ai) a9 (q00 G) G ?_;intro b1 w H;refine AS G G (NL (IB (TN ?_)));obtain⟨b2,aa,u⟩:=bnd u;refine RG (ST (q0e G G aa) G (MV G G (NL ?_)));exact AG a0 ⟨_,_,_,_,G,H,u⟩ (l0a _)
   rintro e w ⟨M,rfl,H,aq⟩;obtain rfl:=oI aq;try dsimp only at u
   refine q03 (q0b (TN ?_));obtain⟨b3,ab,u⟩:=bnd u;refine RG (ST (q0e G G ab) G (MV G G (NL ?_)));exact AG a0 ⟨_,_,_,_,G,H,u⟩ (l0a _)
  rw[l00 V] at u;refine q0j (q03 (q03 (q0b ?_)));exact MN ⟨_,_,_,G,H,u⟩
 rintro e w ⟨l4,v5,M,rfl,H,ar⟩;obtain rfl:=oI ar;refine TN (SQ ?_);obtain⟨b4,aj,h⟩:=bnd h;refine RM G G ?_;obtain⟨M,a4,ak,H⟩:=H.freezeRow (v:=v5) (enc:=encB) (t:=5) Kv;refine ST (q0Y Tu23 Tu5 Tu9 H (ak) G) G (q02 H (Y5W aj) G trivial (q00 G) G ?_);intro b5 M w H a4 hR;obtain rfl:=hR;refine AR G G ?_;obtain rfl:=oI h;exact q07 G G H.ext G
theorem Y6K {p0:Z00}{r:Ls}(h:Y3l p0=some r):Ct Tryz.prog 31 [Value.agg #[S p0.1,S p0.2]] (fun M=>True) (fun v M=>v=S r):=by
 refine Ct.of Tryz.func31 (enters Tryz.func31 Kr G) G G G ?_;intro U M0 H hp;unfold Y3l at h;refine SR (q0D [_,_] H G G (q00 G) G ?_);intro a0 w H;refine AQ G G ?_;obtain⟨s1,N,h⟩:=bnd h;obtain⟨s3,u,h⟩:=bnd h;obtain⟨s4,O,h⟩:=bnd h;obtain⟨s6,E,h⟩:=bnd h;obtain⟨V,J,h⟩:=bnd h;refine q0V (fun e w =>∃  (M:Mem),e=[(2,S V)]/\St U M0 M [] w) ?_ ?_
 .
  refine q0v (m:=10) G G H ?_;intro w H;refine TK 0 G (fun _=>q01 Tu46 G Ts9 Dc G) G (TK 4 G (fun _=>q01 Tu46 G Ts9 Dc G) G (q1i (i:=1) [5] G Kr Kr Kr (XL H Ta9) (q00 G) G G (fun _ _=>G) ?_));refine q0C (i:=2) (j:=5) Kr G G ?_ ?_
  .
   refine q02 H (Y4a N) G trivial (q00 G) G ?_;intro Y M w H K hR;obtain rfl:=hR;refine NA (TK 3 G (fun _=>q0d G G u) G (q0k (fuel:=0) [5,6,7,8,9] G Kr (ST (XL H Ta9) G ?_)));refine q02 H (Y3n O) G trivial (q00 G) G ?_;intro Z M w H K hR;obtain rfl:=hR;refine ST (q0d G G E) G (ST (q0d G G J) G (AS G G (NA (q0f Kr ?_))));exact MP ⟨_,G,(H.pick (L':=[]) Kp)⟩
  refine ST (XL H Ta9) G ?_;refine NA (ON 2 Kr G (q02 H (Y4a N) G trivial (q00 G) G ?_));intro Y M w H K hR;obtain rfl:=hR;refine NA (TK 3 G (fun _=>q0d G G u) G (q0k (fuel:=0) [6,7,8,9] G Kr (q02 H (Y3n O) G trivial (q00 G) G ?_)));intro Z M w H K hR;obtain rfl:=hR;refine ST (q0d G G E) G (ST (q0d G G J) G (AS G G (NA (q0f Kr ?_))));exact MP ⟨_,G,(H.pick (L':=[]) Kp)⟩
 rintro e w ⟨M,rfl,H⟩;refine TN (RT ?_);obtain rfl:=oI h;exact q07 G G H.ext G
theorem Y7E {p0:Z0f}{N:Value}{O:Value}{U:Value}{r:Ls}(h:Y3R p0=some r):Ct Tryz.prog 33 [Value.agg #[N,O,U]] (fun M=>SlS M 2 xenc46 N p0.1/\Sl M encB O p0.2.1/\SlR xrl39 M U p0.2.2) (fun v M=>Sl M encB v r):=by
 refine Ct.of Tryz.func33 (enters Tryz.func33 Kr G) G G G ?_;intro w0 M0 H hp;obtain⟨u,E,J⟩:=hp;unfold Y3R at h;refine SR (q0D [_,_,_] H G G (q00 G) G ?_);intro a0 w H;refine AQ G G (SR (ST (q01 Tu39 G Ts22 Dc G) G (ST (XL H Ta22) G ?_)));refine ST (q0L Tu22 u G) G (MV G G (NT ?_));obtain⟨o1,K,h⟩:=bnd h;refine q0c (fun e w =>∃  (M:Mem),e=[(1,ptr a0 0)]/\St w0 M0 M [.blk a0 (.cells #[N,O,U] 39)] w/\SlS M 2 xenc46 N p0.1/\Sl M encB O p0.2.1/\SlR xrl39 M U p0.2.2/\some (.inl ())=some o1) [] ?_ ?_ (trivial)
 .
  refine BL (q0l (fun m e w =>∃(n3:Int) (M:Mem),e=[(1,ptr a0 0),(10,N),(11,I (p0.1.length:Int)),(12,I n3)]/\St w0 M0 M [.blk a0 (.cells #[N,O,U] 39)] w/\SlS M 2 xenc46 N p0.1/\Sl M encB O p0.2.1/\SlR xrl39 M U p0.2.2/\Y0S p0 m n3=some o1) FU [(1,_),(10,_),(11,_),(12,_)] ⟨rfl,rfl,rfl,rfl,trivial⟩ ⟨_,_,rfl,H,u,E,J,K⟩ ?_);rintro m4 e w ⟨n3,M,rfl,H,u,E,J,K⟩;rcases m4 with _|m4
  . rw[Y0S] at K;cases K
  rw[Y0S] at K;refine SR (ST (q0m G G) G (NQ ?_));refine CB (p:=n3<(p0.1.length:Int)) G (fun a1=>?_) fun a1=>?_
  .
   rw[l01 a1] at K;refine KQ (BL (SQ ?_));obtain⟨a6,aa,K⟩:=bnd K;obtain⟨ao,ap,ab,ac⟩:=u.atC aa;refine RG (ST (q0q ab Tu22 Ts46 G G) G (ST (q0E H G ac Ta46 Ts46 Kf) G ?_));refine q09 [_,_] H Tz46 G (q00 G) G ?_;intro aq w H;refine q04 [_,_] H G G G Ku Ts46 G Kf Kf (q00 G) ?_;intro w H;refine NQ (SQ ?_);obtain⟨b7,ak,K⟩:=bnd K;refine RG (ST (q01 Tu46 G Ts9 Dc G) G (ST (XL H Ta9) G ?_));refine q02 H (Y1g ak) G trivial (q00 G) G ?_;intro ar M w H Y hR;have u:=u.mono Y;have E:=E.mono Y;have J:=J.mono Y;obtain rfl:=hR;refine ST (q0w G) G (NT ?_);refine q0a G (fun Z=>?_) (fun Z=>?_)
   .
    replace Z:b7=false:=by simpa using Z
    subst Z;rw[l00 l03] at K;refine q0j (q03 (q0b (TN ?_)));obtain⟨au,a4,K⟩:=bnd K;refine RG (ST (q0e G G a4) G (MV G G (NL ?_)));exact AG m4 ⟨_,_,G,(H.pick (L':=[.blk a0 (.cells #[N,O,U] 39)]) Kp),u,E,J,K⟩ (l0a _)
   replace Z:b7=true:=by simpa using Z
   subst Z;rw[l01 rfl] at K;refine KQ ?_;obtain⟨⟨av,⟨a9,aw⟩⟩,ad,K⟩:=bnd K;try dsimp only at K
   refine RG (ST (q01 Tu39 G Ts23 Dc G) G (ST (XL H Ta23) G ?_));refine ST (q01 Tu46 G Ts9 Dc G) G (ST (XL H Ta9) G ?_);refine q02 H (Y51 ad) G (E) (q00 G) G ?_;intro ax M w H Y hR;have u:=u.mono Y;have E:=E.mono Y;have J:=J.mono Y;try dsimp only at hR
   obtain⟨am,rfl,a5⟩:=hR;refine MV G G (ST (q05 G G) G (ST (q05 G G) G (q09 [_,_] H Tz28 G (q00 G) G ?_)));intro ay w H;refine AS G G (q04 [_,_] H G G G Ku Ts28 G Kf Kf (q00 G) ?_);intro w H;refine NQ (RG (ST (q01 Tu28 G Ts3 Dc G) G (ST (XL H Ta3) G ?_)));refine ST (q1j G G) G (NT ?_);refine q0a G (fun V=>?_) (fun V=>?_)
   .
    replace V :¬(a9=(18:Int)):=of_not_decide V;rw[l00 V] at K;refine SM G G (AR G G ?_);obtain rfl:=oI K;try dsimp only at h
    obtain rfl:=oI h;exact q07 G G H.ext a5
   replace V:a9=(18:Int):=of_not_decide' V;rw[l01 V] at K;refine SK (IB (TN ?_));obtain⟨az,a7,K⟩:=bnd K;refine RG (ST (q0e G G a7) G (MV G G (NL ?_)));exact AG m4 ⟨_,_,G,(H.pick (L':=[.blk a0 (.cells #[N,O,U] 39)]) Kp),u,E,J,K⟩ (l0a _)
  rw[l00 a1] at K;refine q0j (q03 (q03 (q0b ?_)));exact MN ⟨_,G,H,u,E,J,K⟩
 rintro e w ⟨M,rfl,H,u,E,J,al⟩;obtain rfl:=oI al;try dsimp only at h
 refine TN (SQ ?_);obtain⟨⟨b0,⟨b1,b2⟩⟩,ae,h⟩:=bnd h;try dsimp only at h
 refine RG (ST (q01 Tu39 G Ts23 Dc G) G (ST (XL H Ta23) G ?_));refine q02 H (Y51 ae) G (E) (q00 G) G ?_;intro b3 M w H Y hR;try dsimp only at hR
 obtain⟨an,rfl,a8⟩:=hR;refine MV G G (ST (q05 G G) G (ST (q05 G G) G (q09 [_,_] H Tz28 G (q00 G) G ?_)));intro b4 w H;refine AS G G (q04 [_,_] H G G G Ku Ts28 G Kf Kf (q00 G) ?_);intro w H;refine NT (SM G G (AR G G ?_));obtain rfl:=oI h;exact q07 G G H.ext a8
theorem Y6B {p1:Ls}{p2:Ls}{p3:Int}{a1:Nat}{U:Value}{V:Nat}{ai:Value}{a2:Nat}:ItR Tryz.prog 135 [ptr a1 0,ptr V 0,ptr a2 0] [.blk a1 (.cells #[U] 23), .blk V (.cells #[ai] 23), .blk a2 (.cells #[I p3] 3)] (fun M=>Gv3 M/\Sl M encB U p1/\Sl M encB ai p2) (fun v M x=>Sl M encB v x) (Y3H p1 p2 p3):=by
 refine ItR.of Tryz.func135 (enters Tryz.func135 Kr G) G G G ?_;intro lid σ Y Z C hY s0 r L0 w0 M0 h hzz H hp;simp only[l09,l07] at H;obtain⟨gM,J,ax⟩:=hp;unfold Y3H at h;refine SQ (SR (ST (XL H Ta23) G ?_));refine ST (q0o Tu23 J G) G (ST (q0s G G) G (NT ?_));refine CB (p:=(p1.length:Int)=(0:Int)) G (fun a7=>?_) fun a7=>?_
 .
  rw[l01 a7] at h;cases h
 rw[l00 a7] at h;refine KQ ?_;obtain⟨o2,u,h⟩:=bnd h;refine q0c (fun e w =>∃(l4:Ls) (v5:Value) (s7:σ) (Lc:List Ph.Item) (M:Mem),e=[(0,(yv lid)),(2,ptr V 0)]/\StX C w0 M0 M (.blk V (.cells #[v5] 23) :: .blk a1 (.cells #[U] 23) :: .blk a2 (.cells #[I p3] 3)::Lc) w/\Gv3 M/\Sl M encB v5 l4/\Sl M encB U p1/\ZH Z s7 Lc M/\some (.inl (l4,s7))=some o2) [] ?_ ?_ (trivial)
 .
  refine BL (q0l (fun m e w =>∃(l8:Ls) (v9:Value) (a8:σ) (Lc:List Ph.Item) (M:Mem),e=[(0,(yv lid)),(1,ptr a1 0),(2,ptr V 0),(3,ptr a2 0)]/\StX C w0 M0 M (.blk a1 (.cells #[U] 23) :: .blk V (.cells #[v9] 23) :: .blk a2 (.cells #[I p3] 3)::Lc) w/\Gv3 M/\Sl M encB U p1/\Sl M encB v9 l8/\ZH Z a8 Lc M/\Y0Q Y p1 p3 m l8 a8=some o2) FU [(0,_),(1,_),(2,_),(3,_)] ⟨rfl,rfl,rfl,rfl,trivial⟩ ⟨_,_,_,_,_,rfl,H,gM,J,ax,hzz,u⟩ ?_);rintro a9 e w ⟨l8,v9,a8,Lc,M,rfl,H,gM,J,E,hzz,u⟩;rcases a9 with _|a9
  . rw[Y0Q] at u;cases u
  rw[Y0Q] at u;refine BL (SQ ?_);obtain⟨az,ao,u⟩:=bnd u;refine RG (ST (XL H Ta23) G ?_);refine ST (XL H Ta23) G ?_;refine q02 H (Y6l ao) G ⟨gM,E,J⟩ (q00 G) G ?_;intro b1 M w H N hR;have gM:=gM.mono N;have hzz:=hzz.mono N;have J:=J.mono N;have E:=E.mono N;obtain rfl:=hR;refine AQ G G (SM G G (ST (q0m G G) G (NT ?_)));refine CB (p:=az<(0:Int)) G (fun a4=>?_) fun a4=>?_
  .
   rw[l01 a4] at u;refine q0j (q03 (q1s G (q03 (q0b ?_))));exact MN ⟨_,_,_,_,_,G,(H.pick (L':=(.blk V (.cells #[v9] 23) :: .blk a1 (.cells #[U] 23) :: .blk a2 (.cells #[I p3] 3)::Lc)) (by repeat(first|refine Pick.cons Kv ?_|exact q1B (by repeat(first|exact List.Sublist.refl _|apply List.Sublist.cons))))),gM,E,J,hzz,u⟩
  rw[l00 a4] at u;refine KQ ?_;obtain⟨b2,ac,u⟩:=bnd u;obtain⟨b3,O,u⟩:=bnd u;refine RG (ST (XL H Ta23) G ?_);refine MV G G (ST (XL H Ta3) G ?_);refine ST (q0e G G ac) G (ST (q1K Tu23 Ts5 (E) G G O) G (AQ G G (SQ ?_)));obtain⟨b4,ad,u⟩:=bnd u;obtain⟨⟨b5,aj⟩,ap,u⟩:=bnd u;try dsimp only at u
  refine RM G G (MV G G (MV G G (ST (q0o Tu23 (E.subV O) G) G (MV G G (ST (q0o Tu23 (E.subV O) G) G (WR.slice3C Tu23 Ts5 ((E.subV O)) G G G ad (q00 G) G ?_))))));intro b6 aq;refine WR.yieldR H (.right (.right (.right (q1p _)))) hY hzz ap G G (aq) (q00 G) G ?_;intro w M Lc H N hzz;simp only[l09,l07] at H;have gM:=gM.mono N;have E:=E.mono N;have J:=J.mono N;refine ST (q0w G) G (NT ?_);refine q0a G (fun K=>?_) (fun K=>?_)
  .
   replace K:aj=false:=by simpa using K
   subst K;rw[l00 l03] at u;refine RT ?_;obtain rfl:=oI u;try dsimp only at h
   obtain rfl:=oI h;exact WQ.retZ G H (by repeat(first|exact List.Sublist.refl _|apply List.Sublist.cons)) hzz G
  replace K:aj=true:=by simpa using K
  subst K;rw[l01 rfl] at u;refine SK (TN ?_);obtain⟨b7,ae,u⟩:=bnd u;obtain⟨b8,a3,u⟩:=bnd u;refine RG (ST (XL H Ta23) G ?_);refine MV G G (ST (XL H Ta23) G ?_);refine ST (q0o Tu23 J G) G (ST (q0e G G ae) G (ST (q1E Tu23 Ts5 (E) G G a3) G (q0O [_] H G G ((E.subV a3).one) Ku Kf Ts23 (by first|decide|(simp;done)|(simp;omega)) (q00 G) ?_)));intro w H;refine NL (IB ?_);exact AG a9 ⟨_,_,_,_,_,G,H,gM,J,(E.subV a3),hzz,u⟩ (l0a _)
 rintro e w ⟨l4,v5,s7,Lc,M,rfl,H,gM,aa,J,hzz,b0⟩;obtain rfl:=oI b0;try dsimp only at h
 refine TN ?_;obtain⟨b9,ah,h⟩:=bnd h;obtain⟨⟨ba,bb⟩,ar,h⟩:=bnd h;try dsimp only at h
 refine RM G G (ST (XL H Ta23) G ?_);refine ST (XL H Ta23) G ?_;refine ST (q0o Tu23 aa G) G (ST (XL H Ta23) G ?_);refine ST (q0o Tu23 aa G) G (WR.slice3C Tu23 Ts5 (aa) G G G ah (q00 G) G ?_);intro bc au;refine WR.yieldR H (.right (.right (.right (q1p _)))) hY hzz ar G G (au) (q00 G) G ?_;intro w M Lc H N hzz;simp only[l09,l07] at H;refine NL ?_;obtain rfl:=oI h;exact WQ.endZ G H (by repeat(first|exact List.Sublist.refl _|apply List.Sublist.cons)) hzz G
theorem Y6Z {p0:Ls}{a1:Value}{r:Ls}(h:Y32 p0=some r):Ct Tryz.prog 32 [a1] (fun M=>Gv3 M/\Sl M encB a1 p0) (fun v M=>Sl M encB v r):=by
 refine Ct.ofM Tryz.func32 (enters Tryz.func32 Kr G) G G G ?_;intro w0 M0 H hp;obtain⟨K,N⟩:=hp;unfold Y32 at h;refine SR (AQ G G (RG (q09 [_] H Tz23 G (q00 G) G ?_)));intro a2 w H;refine NQ (RG (q09 [_] H Tz3 G (q00 G) G ?_));intro a3 w H;refine q04 [_] H G G G Ku Ts3 G Kf Kf (q00 G) ?_;intro w H;refine NQ (SM G G (WR.litC xty23 Tu5 ([13,10]:Ls) H G Kf G G (q00 G) G (fun _=>q00 G) G ?_));intro v9 M w H u a4;have K:=K.mono u;have N:=N.mono u;refine q0R (A:=[]) (B:=[.blk a3 (.cells #[I 0] 3), .blk a2 (.cells #[Value.slice none 0 0] 23)]) H (Y6V (N).cells1 (a4).cells1) (q0P _) G trivial (q00 G) G ?_;intro an M w its H u hR;have K:=K.mono u;have N:=N.mono u;have a4:=a4.mono u;obtain⟨O,U,V,rfl,rfl⟩:=hR;simp only[l09,l07] at H;refine NT (BL ?_);replace H:=H.newRow 5 encB;obtain⟨o7,e8,h⟩:=bnd h;refine WC.rangeR (A:=[.blk O (.cells #[v9] 23), .blk U (.cells #[a1] 23), .blk V (.cells #[I 0] 3)]) (L:=[.blk a2 (.cells #[(Value.slice none 0 0)] 23),RowI 5 encB (Value.slice none 0 0) [], .blk a3 (.cells #[I 0] 3)]) (B:=[]) (H.pick (L':=[.blk O (.cells #[v9] 23), .blk U (.cells #[a1] 23), .blk V (.cells #[I 0] 3), .blk a2 (.cells #[(Value.slice none 0 0)] 23),RowI 5 encB (Value.slice none 0 0) [], .blk a3 (.cells #[I 0] 3)]) Kp) rfl Y6B (.left (.left (.left (.left (.left (.left (q0P _))))))) ⟨K,a4,N⟩ rfl (fun s L M =>∃(l2:Ls) (Y:Value) (n4:Int),s=(l2,n4)/\L=[.blk a2 (.cells #[Y] 23),RowI 5 encB Y l2, .blk a3 (.cells #[I n4] 3)]/\Gv3 M) (fun _=>none) goOn (fun _=>rfl) (Y1N) ([],0) o7 e8 (by rintro s L M M' ⟨l2,Y,n4,rfl,rfl,K⟩ u;exact ⟨_,_,_,rfl,rfl,K.mono u⟩) rfl ⟨_,_,_,rfl,rfl,K⟩ ?_ ?_ ?_
 .
  rintro am ao Z s ap aq ar L au Mb5 hE J ⟨l2,Y,n4,rfl,rfl,K⟩ hs5x H;unfold Y1N at J;try dsimp only at J
  refine RG (AS G G (NL (WQ.begin Z H Ku ?_)));intro w H;refine BL (SQ ?_);obtain⟨aa,ab,J⟩:=bnd J;refine RM G G (ST (q0Y Tu23 Tu5 Tu9 H (hs5x) G) G (q02 H (Y3n ab) G trivial (q00 G) G ?_));intro av M w H u hR;have K:=K.mono u;obtain rfl:=hR;refine AQ G G (SM G G (ST (q0z G G) G (NT ?_)));refine CB (p:=aa=[]) G (fun a0=>?_) fun a0=>?_
  .
   rw[l01 a0] at J;refine SQ ?_;obtain⟨aw,a6,J⟩:=bnd J;refine RG (ST (XL H Ta3) G ?_);refine ST (q0e G G a6) G (q04 [_] H G G G Ku Ts3 G Kf Kf (q00 G) ?_);intro w H;refine NT (q0j (q03 (q0b ?_)));obtain rfl:=oI J;exact WQ.rsOn Z H G ⟨_,_,_,G,G,K⟩
  rw[l00 a0] at J;refine KQ ?_;obtain⟨ah,ac,J⟩:=bnd J;obtain⟨ai,a7,J⟩:=bnd J;obtain⟨aj,a8,J⟩:=bnd J;obtain⟨ax,a9,J⟩:=bnd J;refine WC.sub (e':=[(3,_),(4,_),(6,_)]) ⟨G,G,G,trivial⟩ (q0v (m:=8) G G H ?_);intro w H;refine WA.conf (c:=6) [(19,Y,[]),(20,I n4,[]),(21,S ah,[1]),(22,S aa,[]),(23,S ai,[2,3]),(24,S aj,[4])] G G Kr G G H ⟨⟨_,G,fun E w M H u Qk kk=>?_⟩,⟨_,G,fun E w M H u Qk kk=>?_⟩,⟨_,G,fun E w M H u Qk kk=>?_⟩,⟨_,G,fun E w M H u Qk kk=>?_⟩,⟨_,G,fun E w M H u Qk kk=>?_⟩,⟨_,G,fun E w M H u Qk kk=>?_⟩,trivial⟩ ?_
  .
   refine ST (XL H Ta23) G ?_;exact q1k (kk _ _ H (Mem.le.refl _))
  .
   refine ST (XL H Ta3) G ?_;exact q1k (kk _ _ H (Mem.le.refl _))
  .
   refine q02 H (Y6T ac) G trivial (q00 G) G ?_;intro ay M w H u hR;obtain rfl:=hR;exact q1k (kk _ _ H u)
  .
   refine MV G G ?_;exact q1k (kk _ _ H (Mem.le.refl _))
  .
   refine ST (q0d G G a7) G ?_;exact q1k (kk _ _ H (Mem.le.refl _))
  .
   refine ST (q0d G G a8) G ?_;exact q1k (kk _ _ H (Mem.le.refl _))
  intro w M H u;have K:=K.mono u;refine q0k (fuel:=0) [6,7] G Kr (q1D (l:=l2) xty23 Tu9 H G Ud G a9 (q00 G) G ?_);intro az w H;refine q0O [_] H G G (H.rowOne Km) Ku Kf Ts23 (by first|decide|(simp;done)|(simp;omega)) (q00 G) ?_;intro w H;refine NA (q0f Kr (TN (RG (q04 [_] H G G G Ku Ts3 G Kf Kf (q00 G) ?_))));intro w H;refine NL (IB ?_);obtain rfl:=oI J;exact WQ.rsOn Z H G ⟨_,_,_,G,G,K⟩
 .
  rintro Dm5 w M L H u hE ⟨l2,Y,n4,rfl,rfl,K⟩;simp only[l09,l07,l0m] at H;try dsimp only at h
  refine IB (TN (SR (ST (XL H Ta23) G ?_)));refine AR G G ?_;obtain⟨M,u,ad,H⟩:=H.freezeRow (v:=Y) (enc:=encB) (t:=5) Kv;obtain rfl:=oI h;exact WQ.nret1 G H Kv (fun w H=>G) ad
 intro Dm w M L c H u hE;cases hE
theorem Y2O {p0:Z0h}{aq:Value}{ar:Value}{r:Z0j}(h:Y1c p0=some r):Ct Tryz.prog 12 [Value.agg #[aq,ar]] (fun M=>Gv2 M/\Gv1 M/\Gv3 M/\Gv0 M/\Tabs M/\SlS M 2 xenc46 aq p0.1/\Sl M encB ar p0.2) (fun v M =>∃x0,v=Value.tuple #[x0,Value.agg #[I r.2.1,I r.2.2]]/\Sl M encB x0 r.1):=by
 refine Ct.ofM Tryz.func12 (enters Tryz.func12 Kr G) G G G ?_;intro w0 M0 H hp;obtain⟨E,J,O,u,U,b6,b8⟩:=hp;unfold Y1c at h;refine SR (q0D [_,_] H G G (q00 G) G ?_);intro cx w H;refine AS G G (q09 [_,_] H Tz28 G (q00 G) G ?_);intro Y w H;refine NQ ?_;obtain⟨⟨⟨l1,l2,l3⟩,⟨n4,n5⟩⟩,ca,h⟩:=bnd h;try dsimp only at h
 refine RG (ST (q08 H G Km Ta25 Ts25 Kf) G ?_);refine q02 H (Y5c ca) G ⟨E,J,O,u,U,b6,b8⟩ (q00 G) G ?_;intro cy M w H K hR;have E:=E.mono K;have J:=J.mono K;have O:=O.mono K;have u:=u.mono K;have U:=U.mono K;try dsimp only at hR
 obtain⟨c6,c7,c8,rfl,a7,a8,a9⟩:=hR;refine MV G G (ST (q05 G G) G (ST (q05 G G) G (q09 [_,_,_] H Tz39 G (q00 G) G ?_)));intro cz w H;refine q09 [_,_] H Tz28 G (q00 G) G ?_;intro d0 w H;refine q04 [_,_,_] H G G G Ku Ts39 G Kf (by simp only[l0i,l0u,(a7).one.2,(a8).one.2,(a9).one.2];rfl) (q00 G) ?_;intro w H;refine q04 [_,_] H G G G Ku Ts28 G Kf Kf (q00 G) ?_;intro w H;refine NQ (SQ ?_);obtain⟨b7,cb,h⟩:=bnd h;refine RG (ST (q08 H G Km Ta28 Ts28 Kf) G ?_);refine q02 H (Y06 cb) G trivial (q00 G) G ?_;intro d1 M w H K hR;have E:=E.mono K;have J:=J.mono K;have O:=O.mono K;have u:=u.mono K;have U:=U.mono K;have a7:=a7.mono K;have a8:=a8.mono K;have a9:=a9.mono K;obtain rfl:=hR;refine NT ?_;refine q0a G (fun az=>?_) (fun az=>?_)
 .
  subst az;rw[l01 rfl] at h;refine SQ (q0v (m:=3) G G H ?_);intro w H;refine TK 1 G (fun _=>q1v G) G (q0k (fuel:=0) [0,2] G Kr (ST (q08 H G Km Ta28 Ts28 Kf) G ?_));refine q04 [_,_] H G G G Ku Ts28 G Kf Kf (q00 G) ?_;intro w H;refine NA (q0f Kr (TN (RT ?_)));obtain rfl:=oI h;exact WQ.mret2 G G ⟨_,G,H.loadAgg Km Ta28 Ts28 Kf⟩ H.ext (⟨_,G,q0U _ _⟩)
 subst az;rw[l00 l03] at h;refine KQ (RG (q09 [_] H Tz23 G (q00 G) G ?_));intro a2 w H;refine NQ (SQ ?_);obtain⟨⟨d2,d3,d4⟩,bs,h⟩:=bnd h;try dsimp only at h
 refine RG (ST (q08 H G Km Ta39 Ts39 Kf) G ?_);refine q02 H (Y8A bs) G ⟨a7,a8,a9⟩ (q00 G) G ?_;intro d5 M w H K hR;have E:=E.mono K;have J:=J.mono K;have O:=O.mono K;have u:=u.mono K;have U:=U.mono K;try dsimp only at hR
 obtain⟨bt,x23_0_0c_0,x23_0_0c_1,x23_0_0c_2,rfl,ay,f23_0_0c_0,f23_0_0c_1,f23_0_0c_2⟩:=hR;refine NT (BL ?_);replace H:=H.newRow 5 encB;obtain⟨cc,cd,h⟩:=bnd h;refine WC.rangeW (A:=[]) (L:=[.blk Y (.cells #[I 0,I 0] 28), .blk a2 (.cells #[(Value.slice none 0 0)] 23),RowI 5 encB (Value.slice none 0 0) []]) (B:=[]) (H.pick (L':=[.blk Y (.cells #[I 0,I 0] 28), .blk a2 (.cells #[(Value.slice none 0 0)] 23),RowI 5 encB (Value.slice none 0 0) []]) Kp) rfl Y7q (.left (.left (.left (q0P _)))) ⟨ay,f23_0_0c_0,f23_0_0c_1,f23_0_0c_2⟩ rfl rfl (fun s L M =>∃(a1:Ls) (N:Value),a1=s/\L=[.blk Y (.cells #[I 0,I 0] 28), .blk a2 (.cells #[N] 23),RowI 5 encB N a1]/\Gv2 M/\Gv1 M/\Gv3 M/\Gv0 M/\Tabs M) (fun _=>none) goOn (fun _=>rfl) (Y0w) [] cc cd (by rintro s L M M' ⟨a1,N,rfl,rfl,E,J,O,u,U⟩ K;exact ⟨_,_,rfl,rfl,E.mono K,J.mono K,O.mono K,u.mono K,U.mono K⟩) rfl ⟨_,_,rfl,rfl,E,J,O,u,U⟩ ?_ ?_ ?_
 .
  rintro Z a3 au s ⟨d6,⟨aa,av,al⟩⟩ ct cu cv L aj Mb18 hE V ⟨a1,N,rfl,rfl,E,J,O,u,U⟩ ⟨xZ18_0_0,xZ18_0_1,xZ18_0_2,rfl,rfl,fZ18_0_0,fZ18_0_1,fZ18_0_2⟩ H;unfold Y0w at V;try dsimp only at V
  refine RG (q09 [_,_,_] H Tz39 G (q00 G) G ?_);intro a5 w H;refine q04 [_,_,_] H G G G Ku Ts39 G Kf (by simp only[l0i,l0u,(fZ18_0_0).one.2,(fZ18_0_1).one.2,(fZ18_0_2).one.2];rfl) (q00 G) ?_;intro w H;refine NL (WQ.begin au H Ku ?_);intro w H;refine BL (SR (AS G G (AQ G G (SR (ST (q01 Tu39 G Ts22 Dc G) G (ST (XL H Ta22) G ?_))))));refine ST (q0L Tu22 fZ18_0_0 G) G (MV G G (NT ?_));obtain⟨bq,a0,V⟩:=bnd V;refine q0c (fun e w =>∃(aw:Ls) (ah:Value) (M:Mem),e=[(3,ptr Y 0),(6,ptr a2 0),(8,ptr a5 0),(9,ah),(10,Value.slice none 0 0)]/\StX (feet (.blk Z (.loop (a3 .ready none))::[.blk Y (.cells #[I 0,I 0] 28), .blk a2 (.cells #[N] 23),RowI 5 encB N a1])) aj Mb18 M [.blk Y (.cells #[I 0,I 0] 28), .blk a2 (.cells #[N] 23),RowI 5 encB N a1, .blk a5 (.cells #[xZ18_0_0,xZ18_0_1,xZ18_0_2] 39),RowI 5 encB ah aw, .blk Z (.loop (a3 .busy none))] w/\Gv2 M/\Gv1 M/\Gv3 M/\Gv0 M/\Tabs M/\SlS M 2 xenc46 xZ18_0_0 aa/\Sl M encB xZ18_0_1 av/\SlR xrl39 M xZ18_0_2 al/\some aw=some bq) [] ?_ ?_ (trivial)
  .
   refine BL ?_;replace H:=H.newRow 5 encB;refine q0l (fun m e w =>∃(ab:Ls) (ac:Value) (am:Int) (M:Mem),e=[(3,ptr Y 0),(6,ptr a2 0),(8,ptr a5 0),(9,ac),(10,Value.slice none 0 0),(27,xZ18_0_0),(28,I (aa.length:Int)),(29,I am)]/\StX (feet (.blk Z (.loop (a3 .ready none))::[.blk Y (.cells #[I 0,I 0] 28), .blk a2 (.cells #[N] 23),RowI 5 encB N a1])) aj Mb18 M [.blk Y (.cells #[I 0,I 0] 28), .blk a2 (.cells #[N] 23),RowI 5 encB N a1, .blk a5 (.cells #[xZ18_0_0,xZ18_0_1,xZ18_0_2] 39),RowI 5 encB ac ab, .blk Z (.loop (a3 .busy none))] w/\Gv2 M/\Gv1 M/\Gv3 M/\Gv0 M/\Tabs M/\SlS M 2 xenc46 xZ18_0_0 aa/\Sl M encB xZ18_0_1 av/\SlR xrl39 M xZ18_0_2 al/\Y0C aa m ab am=some bq) FU [(3,_),(6,_),(8,_),(9,_),(10,_),(27,_),(28,_),(29,_)] ⟨rfl,rfl,rfl,rfl,rfl,rfl,rfl,rfl,trivial⟩ ⟨_,_,_,_,rfl,(H.pick (L':=[.blk Y (.cells #[I 0,I 0] 28), .blk a2 (.cells #[N] 23),RowI 5 encB N a1, .blk a5 (.cells #[xZ18_0_0,xZ18_0_1,xZ18_0_2] 39),RowI 5 encB (Value.slice none 0 0) [], .blk Z (.loop (a3 .busy none))]) Kp),E,J,O,u,U,fZ18_0_0,fZ18_0_1,fZ18_0_2,a0⟩ ?_;rintro ax e w ⟨ab,ac,am,M,rfl,H,E,J,O,u,U,fZ18_0_0,fZ18_0_1,fZ18_0_2,a0⟩;rcases ax with _|ax
   . rw[Y0C] at a0;cases a0
   rw[Y0C] at a0;refine SR (ST (q0m G G) G (NQ ?_));refine CB (p:=am<(aa.length:Int)) G (fun an=>?_) fun an=>?_
   .
    rw[l01 an] at a0;refine KQ (BL (SQ ?_));obtain⟨ai,b9,a0⟩:=bnd a0;obtain⟨cw,d7,bu,bv⟩:=fZ18_0_0.atC b9;refine RG (ST (q0q bu Tu22 Ts46 G G) G (ST (q0E H G bv Ta46 Ts46 Kf) G ?_));refine q09 [_,_] H Tz46 G (q00 G) G ?_;intro ak w H;refine q04 [_,_] H G G G Ku Ts46 G Kf Kf (q00 G) ?_;intro w H;refine NQ ?_;obtain⟨ce,ad,a0⟩:=bnd a0;refine q0c (fun e w =>∃(b0:Bool) (M:Mem),e=[(3,ptr Y 0),(6,ptr a2 0),(8,ptr a5 0),(9,ac),(10,Value.slice none 0 0),(12,ptr ak 0),(27,xZ18_0_0),(28,I (aa.length:Int)),(29,I am),(42,Value.bool b0)]/\StX (feet (.blk Z (.loop (a3 .ready none))::[.blk Y (.cells #[I 0,I 0] 28), .blk a2 (.cells #[N] 23),RowI 5 encB N a1])) aj Mb18 M [.blk Y (.cells #[I 0,I 0] 28), .blk a2 (.cells #[N] 23),RowI 5 encB N a1, .blk a5 (.cells #[xZ18_0_0,xZ18_0_1,xZ18_0_2] 39),RowI 5 encB ac ab, .blk ak (.cells #[S ai.1,S ai.2] 46), .blk Z (.loop (a3 .busy none))] w/\Gv2 M/\Gv1 M/\Gv3 M/\Gv0 M/\Tabs M/\SlS M 2 xenc46 xZ18_0_0 aa/\Sl M encB xZ18_0_1 av/\SlR xrl39 M xZ18_0_2 al/\some b0=some ce) [] ?_ ?_ (trivial)
    .
     obtain⟨cf,bw,ad⟩:=bnd ad;refine RG (ST (q01 Tu46 G Ts9 Dc G) G (ST (XL H Ta9) G ?_));refine q02 H (Y1g bw) G trivial (q00 G) G ?_;intro d8 M w H K hR;have E:=E.mono K;have J:=J.mono K;have O:=O.mono K;have u:=u.mono K;have U:=U.mono K;have fZ18_0_0:=fZ18_0_0.mono K;have fZ18_0_1:=fZ18_0_1.mono K;have fZ18_0_2:=fZ18_0_2.mono K;obtain rfl:=hR;refine ST (q0w G) G (MV G G ?_);rcases cf with _|_
     .
      rw[l00 l03] at ad;obtain⟨d9,bx,ad⟩:=bnd ad;refine SG (q01 Tu46 G Ts9 Dc G) G G G (SG (XL H Ta9) G G G ?_);refine q02 H (Y1g bx) G trivial (q0h G G G) G ?_;intro da M w H K hR;have E:=E.mono K;have J:=J.mono K;have O:=O.mono K;have u:=u.mono K;have U:=U.mono K;have fZ18_0_0:=fZ18_0_0.mono K;have fZ18_0_1:=fZ18_0_1.mono K;have fZ18_0_2:=fZ18_0_2.mono K;obtain rfl:=hR;refine SG (q0w G) G G G (PT G G G (NL ?_));exact MN ⟨_,_,G,(H.pick (L':=[.blk Y (.cells #[I 0,I 0] 28), .blk a2 (.cells #[N] 23),RowI 5 encB N a1, .blk a5 (.cells #[xZ18_0_0,xZ18_0_1,xZ18_0_2] 39),RowI 5 encB ac ab, .blk ak (.cells #[S ai.1,S ai.2] 46), .blk Z (.loop (a3 .busy none))]) Kp),E,J,O,u,U,fZ18_0_0,fZ18_0_1,fZ18_0_2,ad⟩
     rw[l01 rfl] at ad;refine q0i 4 G G (PF G G G (NL ?_));exact MN ⟨_,_,G,(H.pick (L':=[.blk Y (.cells #[I 0,I 0] 28), .blk a2 (.cells #[N] 23),RowI 5 encB N a1, .blk a5 (.cells #[xZ18_0_0,xZ18_0_1,xZ18_0_2] 39),RowI 5 encB ac ab, .blk ak (.cells #[S ai.1,S ai.2] 46), .blk Z (.loop (a3 .busy none))]) Kp),E,J,O,u,U,fZ18_0_0,fZ18_0_1,fZ18_0_2,ad⟩
    rintro e w ⟨b0,M,rfl,H,E,J,O,u,U,fZ18_0_0,fZ18_0_1,fZ18_0_2,cg⟩;obtain rfl:=oI cg;refine TN ?_;refine q0a G (fun ao=>?_) (fun ao=>?_)
    .
     subst ao;rw[l01 rfl] at a0;obtain⟨db,bz,a0⟩:=bnd a0;obtain⟨ch,ba,a0⟩:=bnd a0;refine RM G G (ST (q08 H G Km Ta46 Ts46 Kf) G ?_);refine q02 H (Y6K bz) G trivial (q00 G) G ?_;intro dc M w H K hR;have E:=E.mono K;have J:=J.mono K;have O:=O.mono K;have u:=u.mono K;have U:=U.mono K;have fZ18_0_0:=fZ18_0_0.mono K;have fZ18_0_1:=fZ18_0_1.mono K;have fZ18_0_2:=fZ18_0_2.mono K;obtain rfl:=hR;refine q1D (l:=ab) xty23 Tu9 H G Ud G ba (q00 G) G ?_;intro ci w H;refine AS G G (NL (IB (TN ?_)));obtain⟨dd,bb,a0⟩:=bnd a0;refine RG (ST (q0e G G bb) G (MV G G (NL ?_)));exact AG ax ⟨_,_,_,_,G,(H.pick (L':=[.blk Y (.cells #[I 0,I 0] 28), .blk a2 (.cells #[N] 23),RowI 5 encB N a1, .blk a5 (.cells #[xZ18_0_0,xZ18_0_1,xZ18_0_2] 39),RowI 5 encB ci ch, .blk Z (.loop (a3 .busy none))]) Kp),E,J,O,u,U,fZ18_0_0,fZ18_0_1,fZ18_0_2,a0⟩ (l0a _)
    subst ao;rw[l00 l03] at a0;refine SK (IB (TN ?_));obtain⟨de,bc,a0⟩:=bnd a0;refine RG (ST (q0e G G bc) G (MV G G (NL ?_)));exact AG ax ⟨_,_,_,_,G,(H.pick (L':=[.blk Y (.cells #[I 0,I 0] 28), .blk a2 (.cells #[N] 23),RowI 5 encB N a1, .blk a5 (.cells #[xZ18_0_0,xZ18_0_1,xZ18_0_2] 39),RowI 5 encB ac ab, .blk Z (.loop (a3 .busy none))]) Kp),E,J,O,u,U,fZ18_0_0,fZ18_0_1,fZ18_0_2,a0⟩ (l0a _)
   rw[l00 an] at a0;refine q0j (q03 (q03 (q0b ?_)));exact MN ⟨_,_,_,G,H,E,J,O,u,U,fZ18_0_0,fZ18_0_1,fZ18_0_2,a0⟩
  rintro e w ⟨aw,ah,M,rfl,H,E,J,O,u,U,fZ18_0_0,fZ18_0_1,fZ18_0_2,cj⟩;obtain rfl:=oI cj;refine TN (SQ (SR (ST (q01 Tu39 G Ts37 Dc G) G (ST (XL H Ta37) G ?_))));refine ST (q1e Tu37 fZ18_0_2 G) G (ST (q0s G G) G (NT ?_));obtain⟨ck,ae,V⟩:=bnd V;refine q0c (fun e w =>∃(b1:Ls) (b2:Value) (M:Mem),e=[(3,ptr Y 0),(6,ptr a2 0),(8,ptr a5 0),(9,ah),(10,b2)]/\StX (feet (.blk Z (.loop (a3 .ready none))::[.blk Y (.cells #[I 0,I 0] 28), .blk a2 (.cells #[N] 23),RowI 5 encB N a1])) aj Mb18 M [.blk Y (.cells #[I 0,I 0] 28), .blk a2 (.cells #[N] 23),RowI 5 encB N a1, .blk a5 (.cells #[xZ18_0_0,xZ18_0_1,xZ18_0_2] 39),RowI 5 encB ah aw, .blk Z (.loop (a3 .busy none))] w/\Gv2 M/\Gv1 M/\Gv3 M/\Gv0 M/\Tabs M/\SlS M 2 xenc46 xZ18_0_0 aa/\Sl M encB xZ18_0_1 av/\SlR xrl39 M xZ18_0_2 al/\Sl M encB b2 b1/\some b1=some ck) [] ?_ ?_ (trivial)
  .
   refine CB (p:=(al.length:Int)=(0:Int)) G (fun ap=>?_) fun ap=>?_
   .
    rw[l01 ap] at ae;obtain⟨df,c0,ae⟩:=bnd ae;obtain⟨dh,c1,ae⟩:=bnd ae;refine RG (ST (q08 H G Km Ta39 Ts39 Kf) G ?_);refine q02 H (Y7E c0) G ⟨fZ18_0_0,fZ18_0_1,fZ18_0_2⟩ (q00 G) G ?_;intro di M w H K hR;have E:=E.mono K;have J:=J.mono K;have O:=O.mono K;have u:=u.mono K;have U:=U.mono K;have fZ18_0_2:=fZ18_0_2.mono K;have fZ18_0_0:=fZ18_0_0.mono K;have fZ18_0_1:=fZ18_0_1.mono K;have bd:=hR;refine q02 H (Y6Z c1) G ⟨O,bd⟩ (q00 G) G ?_;intro dj M w H K hR;have E:=E.mono K;have J:=J.mono K;have O:=O.mono K;have u:=u.mono K;have U:=U.mono K;have fZ18_0_2:=fZ18_0_2.mono K;have fZ18_0_0:=fZ18_0_0.mono K;have fZ18_0_1:=fZ18_0_1.mono K;have be:=hR;refine AS G G (NL ?_);exact MN ⟨_,_,_,G,H,E,J,O,u,U,fZ18_0_0,fZ18_0_1,fZ18_0_2,be,ae⟩
   rw[l00 ap] at ae;refine SK ?_;exact MN ⟨_,_,_,G,H,E,J,O,u,U,fZ18_0_0,fZ18_0_1,fZ18_0_2,q0U _ _,ae⟩
  rintro e w ⟨b1,b2,M,rfl,H,E,J,O,u,U,fZ18_0_0,fZ18_0_1,fZ18_0_2,a4,cm⟩;obtain rfl:=oI cm;refine TN (SQ ?_);obtain⟨M,K,a6,H⟩:=H.freezeRowR (v:=ah) (enc:=encB) (t:=5) Kv ⟨⟨_,Km⟩,⟨_,Km⟩,⟨_,Km⟩,Km,trivial⟩;have E:=E.mono K;have J:=J.mono K;have O:=O.mono K;have u:=u.mono K;have U:=U.mono K;have a4:=a4.mono K;have fZ18_0_2:=fZ18_0_2.mono K;obtain⟨dk,c2,V⟩:=bnd V;obtain⟨dl,bg,V⟩:=bnd V;obtain⟨dm,c3,V⟩:=bnd V;obtain⟨dn,bh,V⟩:=bnd V;obtain⟨dp,bi,V⟩:=bnd V;obtain⟨dq,c4,V⟩:=bnd V;obtain⟨ds,bj,V⟩:=bnd V;obtain⟨dt,bm,V⟩:=bnd V;refine RG (ST (q01 Tu39 G Ts37 Dc G) G (ST (XL H Ta37) G ?_));refine ST (q1e Tu37 fZ18_0_2 G) G (q02 H (Y2n c2) G (u) (q00 G) G ?_);intro du M w H K hR;have E:=E.mono K;have J:=J.mono K;have O:=O.mono K;have u:=u.mono K;have U:=U.mono K;have a6:=a6.mono K;have a4:=a4.mono K;obtain rfl:=hR;refine ST (q0d G G bg) G (MV G G (ST (q0o Tu23 a6 G) G (q02 H (Y2n c3) G (u) (q00 G) G ?_)));intro dw M w H K hR;have E:=E.mono K;have J:=J.mono K;have O:=O.mono K;have u:=u.mono K;have U:=U.mono K;have a6:=a6.mono K;have a4:=a4.mono K;obtain rfl:=hR;refine ST (q0d G G bh) G (ST (q0d G G bi) G (MV G G (ST (q0o Tu23 a4 G) G (q02 H (Y2n c4) G (u) (q00 G) G ?_))));intro dx M w H K hR;have E:=E.mono K;have J:=J.mono K;have O:=O.mono K;have u:=u.mono K;have U:=U.mono K;have a6:=a6.mono K;have a4:=a4.mono K;obtain rfl:=hR;refine ST (q0d G G bj) G (ST (q0d G G bm) G (AN G G ?_));obtain⟨cn,bn,V⟩:=bnd V;obtain⟨co,bo,V⟩:=bnd V;obtain⟨cp,bp,V⟩:=bnd V;refine RG (ST (XL H Ta23) G ?_)
  refine MV G G (q1D (l:=a1) xty23 Tu9 H G Ud G bn (q00 G) G ?_);intro dy w H;refine MV G G (q0F (l:=cn) xty23 G (fun _=>G) H G Ud G (a6) bo (q00 G) G ?_);intro dz w H;refine MV G G (q0F (l:=co) xty23 G (fun _=>G) H G Ud G (a4) bp (q00 G) G ?_);intro br w H;refine q0O [_] H G G (H.rowOne Km) Ku Kf Ts23 (by first|decide|(simp;done)|(simp;omega)) (q00 G) ?_;intro w H;refine NL (IB ?_);obtain rfl:=oI V;exact WQ.rsOn au (H.pick (L':=[.blk Z (.loop (a3 .busy none)), .blk Y (.cells #[I 0,I 0] 28), .blk a2 (.cells #[br] 23),RowI 5 encB br cp]) Kp) G ⟨_,_,G,G,E,J,O,u,U⟩
 .
  rintro Dm18 w M L H K hE ⟨a1,N,rfl,rfl,E,J,O,u,U⟩;simp only[l09,l07,l0m] at H;try dsimp only at h
  refine IB (TN (SQ ?_));obtain⟨⟨b3,b4⟩,b5,h⟩:=bnd h;try dsimp only at h
  refine q0V (fun e w =>∃  (M:Mem),e=[(2,N),(3,ptr Y 0)]/\St w0 M0 M [RowI 5 encB N a1, .blk Y (.cells #[I b3,I b4] 28), .blk Dm18 (.deferred (some []))] w/\Gv2 M/\Gv1 M/\Gv3 M/\Gv0 M/\Tabs M) ?_ ?_
  .
   refine q0v (m:=4) G G H ?_;intro w H;refine q0C (i:=0) (j:=1) Kr G G ?_ ?_
   .
    refine ST (XL H Ta23) G ?_;refine NA (q0k (fuel:=0) [1,2,3] G Kr (q02 H (Y07 b5) G trivial (q00 G) G ?_));intro cq M w H K hR;have E:=E.mono K;have J:=J.mono K;have O:=O.mono K;have u:=u.mono K;have U:=U.mono K;try dsimp only at hR
    obtain rfl:=hR;refine AS G G (q04 [_,_] H G G G Ku Ts28 G Kf Kf (q00 G) ?_);intro w H;refine NA (q0f Kr ?_);exact MP ⟨_,G,(H.pick (L':=[RowI 5 encB N a1, .blk Y (.cells #[I b3,I b4] 28), .blk Dm18 (.deferred (some []))]) Kp),E,J,O,u,U⟩
   refine q02 H (Y07 b5) G trivial (q00 G) G ?_;intro cq M w H K hR;have E:=E.mono K;have J:=J.mono K;have O:=O.mono K;have u:=u.mono K;have U:=U.mono K;try dsimp only at hR
   obtain rfl:=hR;refine NA (q0k (fuel:=0) [0,2,3] G Kr (ST (XL H Ta23) G ?_));refine AS G G (q04 [_,_] H G G G Ku Ts28 G Kf Kf (q00 G) ?_);intro w H;refine NA (q0f Kr ?_);exact MP ⟨_,G,(H.pick (L':=[RowI 5 encB N a1, .blk Y (.cells #[I b3,I b4] 28), .blk Dm18 (.deferred (some []))]) Kp),E,J,O,u,U⟩
  rintro e w ⟨M,rfl,H,E,J,O,u,U⟩;refine TN (RT ?_);obtain⟨M,K,c5,H⟩:=H.freezeRow (v:=N) (enc:=encB) (t:=5) Kv;obtain rfl:=oI h;exact WQ.nret2 G H Kv (fun w H=>⟨G,⟨_,G,H.loadAgg Km Ta28 Ts28 Kf⟩⟩) (⟨_,G,c5⟩)
 intro Dm w M L c H K hE;cases hE
theorem Y70 {p0:Z0h}{p1:Z0h}{Z:Value}{a0:Value}{a1:Value}{a2:Value}{r:(Bool × Z02)}(h:Y56 p0 p1=some r):Ct Tryz.prog 14 [Value.agg #[Z,a0],Value.agg #[a1,a2]] (fun M=>Gv2 M/\Gv1 M/\Gv3 M/\Gv0 M/\Tabs M/\SlS M 2 xenc46 Z p0.1/\Sl M encB a0 p0.2/\SlS M 2 xenc46 a1 p1.1/\Sl M encB a2 p1.2) (fun v M=>v=Value.tuple #[Value.bool r.1,Value.agg #[I r.2.1,I r.2.2]]):=by
 refine Ct.of Tryz.func14 (enters Tryz.func14 Kr G) G G G ?_;intro w0 M0 H hp;obtain⟨J,K,gM,E,gT,a6,a7,O,U⟩:=hp;unfold Y56 at h;refine SR (q0D [_,_] H G G (q00 G) G ?_);intro ak w H;refine q0D [_,_] H G G (q00 G) G ?_;intro al w H;refine AS G G (q09 [_,_] H Tz28 G (q00 G) G ?_);intro am w H;refine NQ ?_;obtain⟨⟨l1,⟨n2,n3⟩⟩,ae,h⟩:=bnd h;try dsimp only at h
 refine RG (ST (q08 H G Km Ta25 Ts25 Kf) G ?_);refine q02 H (Y2O ae) G ⟨J,K,gM,E,gT,a6,a7⟩ (q00 G) G ?_;intro an M w H u hR;have J:=J.mono u;have K:=K.mono u;have gM:=gM.mono u;have E:=E.mono u;have gT:=gT.mono u;have O:=O.mono u;have U:=U.mono u;try dsimp only at hR
 obtain⟨ai,rfl,N⟩:=hR;refine MV G G (ST (q05 G G) G (ST (q05 G G) G (q09 [_,_] H Tz28 G (q00 G) G ?_)));intro ao w H;refine AS G G (q04 [_,_] H G G G Ku Ts28 G Kf Kf (q00 G) ?_);intro w H;refine NQ (SQ ?_);obtain⟨b5,ah,h⟩:=bnd h;refine RG (ST (q08 H G Km Ta28 Ts28 Kf) G ?_);refine q02 H (Y06 ah) G trivial (q00 G) G ?_;intro ap M w H u hR;have J:=J.mono u;have K:=K.mono u;have gM:=gM.mono u;have E:=E.mono u;have gT:=gT.mono u;have O:=O.mono u;have U:=U.mono u;have N:=N.mono u;obtain rfl:=hR;refine NT ?_;refine q0a G (fun a5=>?_) (fun a5=>?_)
 .
  subst a5;rw[l01 rfl] at h;refine SQ (q0v (m:=3) G G H ?_);intro w H;refine TK 1 G (fun _=>q1v G) G (q0k (fuel:=0) [0,2] G Kr (ST (q08 H G Km Ta28 Ts28 Kf) G ?_));refine q04 [_,_] H G G G Ku Ts28 G Kf Kf (q00 G) ?_;intro w H;refine NA (q0f Kr (TN (RT ?_)));obtain rfl:=oI h;exact q0r G G ⟨_,G,H.loadAgg Km Ta28 Ts28 Kf⟩ H.ext G
 subst a5;rw[l00 l03] at h;refine KQ ?_;obtain⟨⟨l8,⟨n9,aq⟩⟩,a9,h⟩:=bnd h;try dsimp only at h
 refine RG (ST (q08 H G Km Ta25 Ts25 Kf) G ?_);refine q02 H (Y2O a9) G ⟨J,K,gM,E,gT,O,U⟩ (q00 G) G ?_;intro ar M w H u hR;have N:=N.mono u;try dsimp only at hR
 obtain⟨aj,rfl,V⟩:=hR;refine MV G G (ST (q05 G G) G (ST (q05 G G) G (AS G G (q04 [_,_] H G G G Ku Ts28 G Kf Kf (q00 G) ?_))));intro w H;refine NQ (SQ ?_);obtain⟨au,aa,h⟩:=bnd h;refine RG (ST (q08 H G Km Ta28 Ts28 Kf) G ?_);refine q02 H (Y06 aa) G trivial (q00 G) G ?_;intro av M w H u hR;have N:=N.mono u;have V:=V.mono u;obtain rfl:=hR;refine NT ?_;refine q0a G (fun Y=>?_) (fun Y=>?_)
 .
  subst Y;rw[l01 rfl] at h;refine SQ ?_;obtain⟨⟨aw,ax⟩,ab,h⟩:=bnd h;try dsimp only at h
  refine RG (ST (q01 Tu28 G Ts3 Dc G) G (ST (XL H Ta3) G ?_));refine q02 H (Y02 ab) G trivial (q00 G) G ?_;intro ay M w H u hR;try dsimp only at hR
  obtain rfl:=hR;refine AS G G (q04 [_,_] H G G G Ku Ts28 G Kf Kf (q00 G) ?_);intro w H;refine NR ?_;obtain rfl:=oI h;exact q0r G G ⟨_,G,H.loadAgg Km Ta28 Ts28 Kf⟩ H.ext G
 subst Y;rw[l00 l03] at h;refine KQ ?_;obtain⟨az,ac,h⟩:=bnd h;obtain⟨⟨b0,b1⟩,ad,h⟩:=bnd h;try dsimp only at h
 refine RM G G (MV G G (q02 H (Y6n ac) G ⟨N,V⟩ (q00 G) G ?_));intro b2 M w H u hR;obtain rfl:=hR;refine q02 H (Y07 ad) G trivial (q00 G) G ?_;intro b3 M w H u hR;try dsimp only at hR
 obtain rfl:=hR;refine AS G G (q04 [_,_] H G G G Ku Ts28 G Kf Kf (q00 G) ?_);intro w H;refine NR ?_;obtain rfl:=oI h;exact q0r G G ⟨_,G,H.loadAgg Km Ta28 Ts28 Kf⟩ H.ext G
theorem Y5G  {r:Bool} (h:Y3W=some r):Ct Tryz.prog 5 [] (fun M=>Gv2 M/\Gv1 M/\Gv3 M/\Gv0 M/\Tabs M) (fun v M=>v=Value.bool r):=by
 refine Ct.of Tryz.func5 (enters Tryz.func5 Kr G) G G G ?_;intro w0 M0 H hp;obtain⟨E,J,U,u,V⟩:=hp;unfold Y3W at h;refine SR (AQ G G (RG (ST (q0t [S [65],S [98]] Tu46 Tz46 (xplaces46 Tu46) G G) G (q1u (enc:=xenc46) xty22 ([([65],[98])]:List Z00) H (fun _=>G) G Kr G G G (q00 G) G ?_))));intro v9 M w H K a0;have E:=E.mono K;have J:=J.mono K;have U:=U.mono K;have u:=u.mono K;have V:=V.mono K;refine WR.litC xty23 Tu5 ([99,13,10]:Ls) H G Kf G G (q00 G) G (fun _=>q00 G) G ?_;intro aa M w H K Y;have E:=E.mono K;have J:=J.mono K;have U:=U.mono K;have u:=u.mono K;have V:=V.mono K;have a0:=a0.mono K;refine ST (q0t [v9,aa] Tu25 Tz25 (xplaces25 Tu25) G (by obtain⟨_,_,_,hv,-⟩:=a0;rw [hv];clear hv;obtain ⟨_,_,hv,-⟩:=Y;rw [hv];clear hv;rfl)) G ?_;refine q09 [_,_] H Tz25 G (q00 G) G ?_;intro ap w H;refine q04 [_,_] H G G G Ku Ts25 G Kf (by simp only[l0i,l0u,(a0).one.2,(Y).one.2];rfl) (q00 G) ?_;intro w H;refine NQ ?_;obtain⟨⟨l1,⟨n2,n3⟩⟩,ab,h⟩:=bnd h;try dsimp only at h
 refine RG (ST (q08 H G Km Ta25 Ts25 Kf) G ?_);refine q02 H (Y5E ab) G ⟨a0,Y⟩ (q00 G) G ?_;intro aq M w H K hR;have E:=E.mono K;have J:=J.mono K;have U:=U.mono K;have u:=u.mono K;have V:=V.mono K;have a0:=a0.mono K;have Y:=Y.mono K;try dsimp only at hR
 obtain⟨aj,rfl,Z⟩:=hR;refine MV G G (ST (q05 G G) G (ST (q05 G G) G (q09 [_,_] H Tz28 G (q00 G) G ?_)));intro ar w H;refine AS G G (q04 [_,_] H G G G Ku Ts28 G Kf Kf (q00 G) ?_);intro w H;refine NQ ?_;obtain⟨⟨⟨l5,l6⟩,⟨n7,n8⟩⟩,ac,h⟩:=bnd h;try dsimp only at h
 refine RM G G (q02 H (Y5U ac) G ⟨U,Z⟩ (q00 G) G ?_);intro au M w H K hR;have E:=E.mono K;have J:=J.mono K;have U:=U.mono K;have u:=u.mono K;have V:=V.mono K;have a0:=a0.mono K;have Y:=Y.mono K;have Z:=Z.mono K;try dsimp only at hR
 obtain⟨a8,a9,rfl,O,a1⟩:=hR;refine MV G G (ST (q05 G G) G (ST (q05 G G) G (q09 [_,_] H Tz25 G (q00 G) G ?_)));intro av w H;refine q09 [_,_] H Tz28 G (q00 G) G ?_;intro aw w H;refine q04 [_,_] H G G G Ku Ts25 G Kf (by simp only[l0i,l0u,(O).one.2,(a1).one.2];rfl) (q00 G) ?_;intro w H;refine q04 [_,_] H G G G Ku Ts28 G Kf Kf (q00 G) ?_;intro w H;refine NQ ?_;obtain⟨⟨ad,⟨ae,ax⟩⟩,a7,h⟩:=bnd h;try dsimp only at h
 refine RG (ST (q08 H G Km Ta25 Ts25 Kf) G ?_);refine ST (q08 H G Km Ta25 Ts25 Kf) G ?_;refine q02 H (Y70 a7) G ⟨E,J,U,u,V,a0,Y,O,a1⟩ (q00 G) G ?_;intro ay M w H K hR;have E:=E.mono K;have J:=J.mono K;have U:=U.mono K;have u:=u.mono K;have V:=V.mono K;have Z:=Z.mono K;have O:=O.mono K;try dsimp only at hR
 obtain rfl:=hR;refine MV G G (ST (q05 G G) G (ST (q05 G G) G (q09 [_,_] H Tz28 G (q00 G) G ?_)));intro az w H;refine AS G G (q04 [_,_] H G G G Ku Ts28 G Kf Kf (q00 G) ?_);intro w H;refine NQ ?_;obtain⟨ah,N,h⟩:=bnd h;refine q0c (fun e w =>∃(a6:Bool) (M:Mem),e=[(0,Value.bool a6)]/\St w0 M0 M [] w/\Gv2 M/\Gv1 M/\Gv3 M/\Gv0 M/\Tabs M/\some a6=some ah) [] ?_ ?_ (trivial)
 .
  refine RG (ST (q01 Tu28 G Ts3 Dc G) G (ST (XL H Ta3) G ?_));by_cases a2:n2=(0:Int)
  .
   rw[l01 a2] at N;refine DT a2 (q0s G G) G (MV G G (SG (q01 Tu28 G Ts3 Dc G) G G G (SG (XL H Ta3) G G G ?_)));by_cases a3:n7=(0:Int)
   .
    rw[l01 a3] at N;refine DU a3 (q0s G G) G G G (PT G G G (MV G G (SG (q01 Tu28 G Ts3 Dc G) G G G (SG (XL H Ta3) G G G ?_))));by_cases a4:ae=(0:Int)
    .
     rw[l01 a4] at N;refine DU a4 (q0s G G) G G G (PT G G G (MV G G (SG (q06 G) G G G (PT G G G (MV G G ?_)))));rcases ad with _|_
     .
      rw[l00 l03] at N;refine q0i 3 G G (PF G G G (MV G G (q0i 4 G G (PF G G G (AS G G (NL ?_))))));exact MN ⟨_,_,G,(H.pick (L':=[]) Kp),E,J,U,u,V,N⟩
     rw[l01 rfl] at N;refine SG (q06 G) G G G (SG (q0Y Tu23 Tu5 Tu9 H (Z) G) G G G ?_);by_cases a5:l1=[65,58,32,98,13,10,13,10,99,13,10]
     .
      rw[l01 a5] at N;refine DU a5 (q0z G G) G G G (PT G G G (MV G G (SG (q01 Tu25 G Ts22 Dc G) G G G (SG (XL H Ta22) G G G ?_))));refine SG (q0L Tu22 O G) G G G (SG (q0s G G) G G G (PT G G G (AS G G (NL ?_))));exact MN ⟨_,_,G,(H.pick (L':=[]) Kp),E,J,U,u,V,N⟩
     rw[l00 a5] at N;refine DG a5 (q0z G G) G G G (PT G G G (MV G G (q0i 4 G G (PF G G G (AS G G (NL ?_))))));exact MN ⟨_,_,G,(H.pick (L':=[]) Kp),E,J,U,u,V,N⟩
    rw[l00 a4] at N;refine DG a4 (q0s G G) G G G (PT G G G (MV G G (GF G G G (PF G G G (MV G G (q0i 3 G G (PF G G G (MV G G (q0i 4 G G (PF G G G (AS G G (NL ?_))))))))))));exact MN ⟨_,_,G,(H.pick (L':=[]) Kp),E,J,U,u,V,N⟩
   rw[l00 a3] at N;refine DG a3 (q0s G G) G G G (PT G G G (MV G G (q0i 3 G G (PF G G G (MV G G (GF G G G (PF G G G (MV G G (q0i 3 G G (PF G G G (MV G G (q0i 4 G G (PF G G G (AS G G (NL ?_)))))))))))))));exact MN ⟨_,_,G,(H.pick (L':=[]) Kp),E,J,U,u,V,N⟩
  rw[l00 a2] at N;refine DF a2 (q0s G G) G (MV G G (q0i 3 G G (PF G G G (MV G G (q0i 3 G G (PF G G G (MV G G (GF G G G (PF G G G (MV G G (q0i 3 G G (PF G G G (MV G G (q0i 4 G G (PF G G G (AS G G (NL ?_)))))))))))))))));exact MN ⟨_,_,G,(H.pick (L':=[]) Kp),E,J,U,u,V,N⟩
 rintro e w ⟨a6,M,rfl,H,E,J,U,u,V,ai⟩;obtain rfl:=oI ai;refine TN (RT ?_);obtain rfl:=oI h;exact q07 G G H.ext G
end Go.Proofs.YtkgohbecojnfaaaGreatDoor
end
section
namespace Go.Proofs.YtkgohbecojnfaaaGreatDoor
open Go Go.RowKit Go.Ph Go.Ph.Pl Go.Ph.Pf
theorem Y8a {p0:List Z00}{p1:Ls}{V:Value}{O:Value}{r:Ls}(h:Y4I p0 p1=some r):Ct Tryz.prog 52 [V,O] (fun M=>SlS M 2 xenc46 V p0/\Sl M encB O p1) (fun v M=>Sl M encB v r):=by
 refine Ct.of Tryz.func52 (enters Tryz.func52 Kr G) G G G ?_;intro w0 M0 H hp;obtain⟨J,u⟩:=hp;unfold Y4I at h;refine SR (AQ G G (RG (AQ G G (SM G G (ST (q0L Tu22 J G) G (MV G G (NT ?_)))))));obtain⟨o1,N,h⟩:=bnd h;refine q0c (fun e w =>∃(l4:Ls) (v5:Value) (M:Mem),e=[(1,O),(5,v5)]/\St w0 M0 M [RowI 5 encB v5 l4] w/\Sl M encB O p1/\some l4=some o1) [] ?_ ?_ (trivial)
 .
  refine BL ?_;replace H:=H.newRow 5 encB;refine q0l (fun m e w =>∃(l7:Ls) (v8:Value) (n9:Int) (M:Mem),e=[(1,O),(5,v8),(12,V),(13,I (p0.length:Int)),(14,I n9)]/\St w0 M0 M [RowI 5 encB v8 l7] w/\Sl M encB O p1/\SlS M 2 xenc46 V p0/\Y1V p0 m l7 n9=some o1) FU [(1,_),(5,_),(12,_),(13,_),(14,_)] ⟨rfl,rfl,rfl,rfl,rfl,trivial⟩ ⟨_,_,_,_,rfl,H,u,J,N⟩ ?_;rintro a6 e w ⟨l7,v8,n9,M,rfl,H,u,J,N⟩;rcases a6 with _|a6
  . rw[Y1V] at N;cases N
  rw[Y1V] at N;refine SR (ST (q0m G G) G (NQ ?_));refine CB (p:=n9<(p0.length:Int)) G (fun Y=>?_) fun Y=>?_
  .
   rw[l01 Y] at N;refine KQ (BL (SQ ?_));obtain⟨b9,ah,N⟩:=bnd N;obtain⟨b7,ba,ar,au⟩:=J.atC ah;refine RG (ST (q0q ar Tu22 Ts46 G G) G (ST (q0E H G au Ta46 Ts46 Kf) G ?_));refine q09 [_,_] H Tz46 G (q00 G) G ?_;intro bb w H;refine q04 [_,_] H G G G Ku Ts46 G Kf Kf (q00 G) ?_;intro w H;refine NQ ?_;obtain⟨⟨a0,⟨bc,bd⟩⟩,av,N⟩:=bnd N;try dsimp only at N
   refine RG (ST (q01 Tu46 G Ts9 Dc G) G (ST (XL H Ta9) G ?_));refine ST (q01 Tu46 G Ts9 Dc G) G (ST (XL H Ta9) G ?_);refine q02 H (Y4Y av) G trivial (q00 G) G ?_;intro be M w H U hR;have u:=u.mono U;have J:=J.mono U;try dsimp only at hR
   obtain⟨a1,rfl,K⟩:=hR;refine MV G G (ST (q05 G G) G (ST (q05 G G) G (q09 [_,_] H Tz28 G (q00 G) G ?_)));intro bg w H;refine AS G G (q04 [_,_] H G G G Ku Ts28 G Kf Kf (q00 G) ?_);intro w H;refine NT (SM G G (ST (q0o Tu77 K G) G (MV G G (NT ?_))));obtain⟨ap,E,N⟩:=bnd N;refine q0c (fun e w =>∃(a7:Ls) (a8:Value) (M:Mem),e=[(1,O),(5,a8),(12,V),(13,I (p0.length:Int)),(14,I n9)]/\St w0 M0 M [RowI 5 encB a8 a7] w/\Sl M encB O p1/\SlS M 2 xenc46 V p0/\some a7=some ap) [] ?_ ?_ (trivial)
   .
    refine BL ?_;refine q0l (fun m e w =>∃(a2:Ls) (a9:Value) (a3:Int) (M:Mem),e=[(1,O),(5,a9),(12,V),(13,I (p0.length:Int)),(14,I n9),(26,a1),(27,I (a0.length:Int)),(28,I a3)]/\St w0 M0 M [RowI 5 encB a9 a2] w/\Sl M encB O p1/\SlS M 2 xenc46 V p0/\Sl M encS a1 a0/\Y1U a0 m a2 a3=some ap) FU [(1,_),(5,_),(12,_),(13,_),(14,_),(26,_),(27,_),(28,_)] ⟨rfl,rfl,rfl,rfl,rfl,rfl,rfl,rfl,trivial⟩ ⟨_,_,_,_,rfl,(H.pick (L':=[RowI 5 encB v8 l7]) Kp),u,J,K,E⟩ ?_;rintro aa e w ⟨a2,a9,a3,M,rfl,H,u,J,K,E⟩;rcases aa with _|aa
    . rw[Y1U] at E;cases E
    rw[Y1U] at E;refine SR (ST (q0m G G) G (NQ ?_));refine CB (p:=a3<(a0.length:Int)) G (fun Z=>?_) fun Z=>?_
    .
     rw[l01 Z] at E;refine KQ (BL (SQ ?_));obtain⟨bh,ai,E⟩:=bnd E;obtain⟨b8,bi,aw,ax⟩:=K.atC ai;refine RG (ST (q0q aw Tu77 Ts9 G G) G (ST (q0n H G ax Ta9) G (AN G G ?_)));obtain⟨b2,aj,E⟩:=bnd E;obtain⟨bj,ak,E⟩:=bnd E;refine RM G G (MV G G (q1D (l:=a2) xty23 Tu9 H G Ud G aj (q00 G) G ?_));intro bm w H;refine q0M (enc:=encB) xty23 ([13,10]:Ls) H G Kf (fun _=>G) G G (q00 G) G ?_;intro bn M w H U ay;have u:=u.mono U;have J:=J.mono U;have K:=K.mono U;refine q0F (l:=b2) xty23 G (fun _=>G) H G Ud G (ay) ak (q00 G) G ?_;intro bo w H;refine AS G G (NL (IB (TN ?_)));obtain⟨bp,al,E⟩:=bnd E;refine RG (ST (q0e G G al) G (MV G G (NL ?_)));exact AG aa ⟨_,_,_,_,G,H,u,J,K,E⟩ (l0a _)
    rw[l00 Z] at E;refine q0j (q03 (q03 (q0b ?_)));exact MN ⟨_,_,_,G,H,u,J,E⟩
   rintro e w ⟨a7,a8,M,rfl,H,u,J,b3⟩;obtain rfl:=oI b3;refine IB (TN ?_);obtain⟨bq,am,N⟩:=bnd N;refine RG (ST (q0e G G am) G (MV G G (NL ?_)));exact AG a6 ⟨_,_,_,_,G,H,u,J,N⟩ (l0a _)
  rw[l00 Y] at N;refine q0j (q03 (q03 (q0b ?_)));exact MN ⟨_,_,_,G,H,u,N⟩
 rintro e w ⟨l4,v5,M,rfl,H,u,b4⟩;obtain rfl:=oI b4;refine TN (SQ ?_);obtain⟨b5,an,h⟩:=bnd h;obtain⟨br,ao,h⟩:=bnd h;refine RM G G (q0M (enc:=encB) xty23 ([13,10]:Ls) H G Kf (fun _=>G) G G (q00 G) G ?_);intro bs M w H U az;have u:=u.mono U;refine q0F (l:=l4) xty23 G (fun _=>G) H G Ud G (az) an (q00 G) G ?_;intro bt w H;refine MV G G (q0F (l:=b5) xty23 G (fun _=>G) H G Ud G (u) ao (q00 G) G ?_);intro b6 w H;refine AR G G ?_;obtain⟨M,U,b0,H⟩:=H.freezeRow (v:=b6) (enc:=encB) (t:=5) Kv;obtain rfl:=oI h;exact q07 G G H.ext b0
theorem Y5r {p0:Ls}{J:Ls}{r:Bool}(h:Y1t p0 J=some r):Ct Tryz.prog 126 [S p0,S J] (fun M=>True) (fun v M=>v=Value.bool r):=by
 refine Ct.of Tf126 (enters Tf126 Kr G) G G G ?_;intro O M0 H hp;unfold Y1t at h;refine SR (AQ G G ?_);obtain⟨U,E,h⟩:=bnd h;refine q0c (fun e w =>∃(K:Bool) (M:Mem),e=[(4,Value.bool K)]/\St O M0 M [] w/\some K=some U) [] ?_ ?_ (trivial)
 .
  refine RM G G (ST (q0g Tu9 G) G (MV G G (ST (q0g Tu9 G) G ?_)));by_cases u:(J.length:Int)<=(p0.length:Int)
  .
   rw[l01 u] at E;obtain⟨Y,N,E⟩:=bnd E;refine DT u (q0Q G G) G (MV G G (SG (q06 G) G G G (SG (q06 G) G G G (SG (q0g Tu9 G) G G G (SG (q1z Tu9 G G N) G G G (SG (q06 G) G G G (SG (q0z G G) G G G (PT G G G (AS G G (NL ?_))))))))));exact MN ⟨_,_,G,H,E⟩
  rw[l00 u] at E;refine DF u (q0Q G G) G (MV G G (q0i 6 G G (PF G G G (AS G G (NL ?_)))));exact MN ⟨_,_,G,H,E⟩
 rintro e w ⟨K,M,rfl,H,V⟩;obtain rfl:=oI V;refine TN (RT ?_);obtain rfl:=oI h;exact q07 G G H.ext G
theorem Y6h {p0:Ls}{u:Ls}{r:Bool}(h:Y1O p0 u=some r):Ct Tryz.prog 92 [S p0,S u] (fun M=>True) (fun v M=>v=Value.bool r):=by
 refine Ct.of Tryz.func92 (enters Tryz.func92 Kr G) G G G ?_;intro K M0 H hp;unfold Y1O at h;refine SR (AQ G G ?_);obtain⟨N,E,h⟩:=bnd h;refine RM G G (MV G G (q02 H (Y5r E) G trivial (q00 G) G ?_));intro O M w H J hR;obtain rfl:=hR;refine AR G G ?_;obtain rfl:=oI h;exact q07 G G H.ext G
theorem Y7y {p0:Ls}{p1:Ls}{a3:Value}{Y:Nat}{r:Bool}(h:Y4n p0 p1=some r):Ct Tryz.prog 90 [a3,ptr Y 0] (fun M=>Gv3 M/\Sl M encB a3 p0/\PtM M Y (.cells #[S p1] 9)) (fun v M=>v=Value.bool r):=by
 refine Ct.ofM Tryz.func90 (enters Tryz.func90 Kr G) G G G ?_;intro w0 M0 H hp;obtain⟨J,a8,u⟩:=hp;unfold Y4n at h;refine SR (q09 [_] H Tz4 G (q00 G) G ?_);intro a4 w H;refine NQ (SQ ?_);obtain⟨l2,a9,h⟩:=bnd h;refine RM G G (q02 H (Y6r a9) G (a8) (q00 G) G ?_);intro v7 M w H E hR;have J:=J.mono E;have u:=u.mono E;obtain⟨a7,x7_0_0c,rfl,Z,f7_0_0c⟩:=hR;refine NT (BL ?_);obtain⟨o7,e8,h⟩:=bnd h;refine WC.rangeW (A:=[]) (L:=[.blk a4 (.cells #[Value.bool false] 4)]) (B:=[]) H rfl Y5F (.left (q0P _)) ⟨J,Z,f7_0_0c⟩ rfl rfl (fun s L M =>∃(V:Bool) (N:Nat),s=(V,N)/\L=[.blk a4 (.cells #[Value.bool V] 4)]/\Gv3 M/\PtM M Y (.cells #[S p1] 9)) (fun s=>exE [.ret] s.2) exStop (fun s=>exE_stop _ s) (Y3m p1) (false,0) o7 e8 (by rintro s L M M' ⟨V,N,rfl,rfl,J,u⟩ E;exact ⟨_,_,rfl,rfl,J.mono E,u.mono E⟩) rfl ⟨_,_,rfl,rfl,J,u⟩ ?_ ?_ ?_
 .
  rintro ac ad O s ⟨ae,ah⟩ ai aj ak L al Mb5 hE K ⟨V,N,rfl,rfl,J,u⟩ ⟨rfl,rfl⟩ H;unfold Y3m at K;try dsimp only at K
  refine RG (AS G G (NL (WQ.begin O H Ku ?_)));intro w H;refine BL (SQ ?_);obtain⟨am,a1,K⟩:=bnd K;obtain⟨an,a6,K⟩:=bnd K;refine RM G G (ST (q0n H G (u.cell (j:=0) G) Ta9) G (ST (q0d G G a1) G (q02 H (Y6h a6) G trivial (q00 G) G ?_)));intro ao M w H E hR;have J:=J.mono E;have u:=u.mono E;obtain rfl:=hR;refine NT ?_;refine q0a G (fun U=>?_) (fun U=>?_)
  .
   subst U;rw[l01 rfl] at K;refine SR (q04 [_] H G G G Ku Ts4 G Kf Kf (q00 G) ?_);intro w H;refine NR ?_;obtain rfl:=oI K;exact WQ.rsRet O H G ⟨_,_,G,G,J,u⟩
  subst U;rw[l00 l03] at K;refine SK (IB ?_);obtain rfl:=oI K;exact WQ.rsOn O H G ⟨_,_,G,G,J,u⟩
 .
  rintro Dm5 w M L H E hE ⟨V,N,rfl,rfl,J,u⟩;simp only[l09,l07,l0m] at H;try dsimp only at h
  obtain rfl:=exE_none hE;rw[l01 rfl] at h;refine IB (TN (SR (q04 [_] H G G G Ku Ts4 G Kf Kf (q00 G) ?_)));intro w H;refine NR ?_;obtain rfl:=oI h;exact WQ.nret1 G H Kv (fun w H=>⟨_,G,H.load1 Km Ta4 Kf⟩) G
 rintro Dm5 w M L c H E hE ⟨V,N,rfl,rfl,J,u⟩;simp only[l09,l07,l0m] at H;try dsimp only at h
 by_cases a5:N=1
 .
  subst a5;obtain rfl:=oI hE;rw[l00 Dc,l01 rfl] at h;refine RT ?_;obtain rfl:=oI h;exact WQ.nret1 G H Kv (fun w H=>⟨_,G,H.load1 Km Ta4 Kf⟩) G
 have a2:=a5;rw[l00 (exE_ne hE),l00 a2] at h;cases h
theorem Y5e {p0:List Ls}{p1c0:Ls}{N:Value}{bp1c0:Nat}{r:Int}(h:Y2r p0 p1c0=some r):Ct Tryz.prog 123 [N,(Value.func (.func 90) #[] #[ptr bp1c0 0])] (fun M=>Gv3 M/\SlR xrl23 M N p0/\PtM M bp1c0 (.cells #[S p1c0] 9)) (fun v M=>v=I r):=by
 refine Ct.of Tryz.func123 (enters Tryz.func123 Kr G) G G G ?_;intro w0 M0 H hp;obtain⟨J,E,hp1c0⟩:=hp;unfold Y2r at h;refine SR (AQ G G (SM G G (ST (q1e Tu89 E G) G (MV G G (NT ?_)))));obtain⟨o1,u,h⟩:=bnd h;refine q0c (fun e w =>∃  (M:Mem),e=[]/\St w0 M0 M [] w/\Gv3 M/\some (.inl ())=some o1) [] ?_ ?_ (trivial)
 .
  refine BL (q0l (fun m e w =>∃(n3:Int) (M:Mem),e=[(0,N),(1,(Value.func (.func 90) #[] #[ptr bp1c0 0])),(7,I (p0.length:Int)),(8,I n3)]/\St w0 M0 M [] w/\Gv3 M/\SlR xrl23 M N p0/\PtM M bp1c0 (.cells #[S p1c0] 9)/\Y0e p0 p1c0 m n3=some o1) FU [(0,_),(1,_),(7,_),(8,_)] ⟨rfl,rfl,rfl,rfl,trivial⟩ ⟨_,_,rfl,H,J,E,hp1c0,u⟩ ?_);rintro m4 e w ⟨n3,M,rfl,H,J,E,hp1c0,u⟩;rcases m4 with _|m4
  . rw[Y0e] at u;cases u
  rw[Y0e] at u;refine SR (ST (q0m G G) G (NQ ?_));refine CB (p:=n3<(p0.length:Int)) G (fun U=>?_) fun U=>?_
  .
   rw[l01 U] at u;refine KQ (BL (SM G G (AQ G G ?_)));obtain⟨a6,a3,u⟩:=bnd u;obtain⟨ac,ad,O,a4,a5,K⟩:=E.atC a3;replace K:Sl _ encB (hv O) a6:=K;have V:=K;obtain⟨b7,a9,u⟩:=bnd u;refine RM G G (MV G G (MV G G (ST (q0q a4 Tu89 Ts23 G G) G (ST (q0n H G (a5.at (j:=0) G) Ta23) G (WR.callV (vs:=[(hv O)]) (cap:=[ptr bp1c0 0]) H (Y7y a9) G G ⟨J,V,hp1c0⟩ (q00 G) G ?_)))));intro ae M w H Y hR;have J:=J.mono Y;have E:=E.mono Y;have hp1c0:=hp1c0.mono Y;obtain rfl:=hR;refine NT ?_;refine q0a G (fun Z=>?_) (fun Z=>?_)
   .
    subst Z;rw[l01 rfl] at u;refine SM G G (AR G G ?_);obtain rfl:=oI u;try dsimp only at h
    obtain rfl:=oI h;exact q07 G G H.ext G
   subst Z;rw[l00 l03] at u;refine SK (IB (TN ?_));obtain⟨ah,a1,u⟩:=bnd u;refine RG (ST (q0e G G a1) G (MV G G (NL ?_)));exact AG m4 ⟨_,_,G,H,J,E,hp1c0,u⟩ (l0a _)
  rw[l00 U] at u;refine q0j (q03 (q03 (q0b ?_)));exact MN ⟨_,G,H,J,u⟩
 rintro e w ⟨M,rfl,H,J,aa⟩;obtain rfl:=oI aa;try dsimp only at h
 refine TN (SR (AR G G ?_));obtain rfl:=oI h;exact q07 G G H.ext G
theorem Y4A {p0:List Ls}{p1c0:Ls}{u:Value}{bp1c0:Nat}{r:Bool}(h:Y1d p0 p1c0=some r):Ct Tryz.prog 89 [u,(Value.func (.func 90) #[] #[ptr bp1c0 0])] (fun M=>Gv3 M/\SlR xrl23 M u p0/\PtM M bp1c0 (.cells #[S p1c0] 9)) (fun v M=>v=Value.bool r):=by
 refine Ct.of Tryz.func89 (enters Tryz.func89 Kr G) G G G ?_;intro O M0 H hp;obtain⟨K,E,hp1c0⟩:=hp;unfold Y1d at h;refine SR (AQ G G ?_);obtain⟨U,J,h⟩:=bnd h;refine RM G G (MV G G (q02 H (Y5e J) G ⟨K,E,hp1c0⟩ (q00 G) G ?_));intro V M w H N hR;obtain rfl:=hR;refine ST (q0Q G G) G (AR G G ?_);obtain rfl:=oI h;exact q07 G G H.ext G
theorem Y8B {p0:List Ls}{U:Value}{r:Ls}(h:Y5l p0=some r):Ct Tryz.prog 53 [U] (fun M=>Gv3 M/\Gv0 M/\SlR xrl23 M U p0) (fun v M=>v=S r):=by
 refine Ct.of Tryz.func53 (enters Tryz.func53 Kr G) G G G ?_;intro w0 M0 H hp;obtain⟨O,u,K⟩:=hp;unfold Y5l at h;refine SR (AQ G G (RG (AN G G ?_)));obtain⟨o1,J,h⟩:=bnd h;refine BL (q0l (fun m e w =>∃(Z:Int) (M:Mem),e=[(0,U),(3,I Z)]/\St w0 M0 M [] w/\Gv3 M/\Gv0 M/\SlR xrl23 M U p0/\Y2Y p0 m Z=some o1) FU [(0,_),(3,_)] ⟨rfl,rfl,trivial⟩ ⟨_,_,rfl,H,O,u,K,J⟩ ?_);rintro m4 e w ⟨Z,M,rfl,H,O,u,K,J⟩;rcases m4 with _|m4
 . rw[Y2Y] at J;cases J
 rw[Y2Y] at J;refine SQ (BL (SQ ?_));obtain⟨s5,a3,J⟩:=bnd J;obtain⟨s7,a1,J⟩:=bnd J;refine RM G G (q02 H (Y2n a3) G (u) (q00 G) G ?_);intro v9 M w H E hR;have O:=O.mono E;have u:=u.mono E;have K:=K.mono E;obtain rfl:=hR;refine ST (q0d G G a1) G (q09 [_] H Tz9 G (q00 G) G ?_);intro a4 w H;refine q04 [_] H G G G Ku Ts9 G Kf Kf (q00 G) ?_;intro w H;refine NQ ?_;obtain⟨b9,a2,J⟩:=bnd J;refine RM G G ?_;obtain⟨M,E,V,H⟩:=H.freezeVar (b:=a4) Kv;have O:=O.mono E;have u:=u.mono E;have K:=K.mono E;refine ST (q1t G) G (q02 H (Y4A a2) G ⟨O,K,V⟩ (q00 G) G ?_);intro a8 M w H E hR;have O:=O.mono E;have u:=u.mono E;have K:=K.mono E;have V:=V.mono E;obtain rfl:=hR;refine AN G G (SM G G (ST (q0w G) G (NT ?_)));refine q0a G (fun N=>?_) (fun N=>?_)
 .
  replace N:b9=false:=by simpa using N
  subst N;rw[l00 l03] at J;refine SR (ST (q0n H G (V.cell (j:=0) G) Ta9) G (AR G G ?_));obtain rfl:=oI J;try dsimp only at h
  obtain rfl:=oI h;exact q07 G G H.ext G
 replace N:b9=true:=by simpa using N
 subst N;rw[l01 rfl] at J;refine SK (IB (TN ?_));obtain⟨a9,Y,J⟩:=bnd J;refine RM G G (ST (q0e G G Y) G (AS G G (NL ?_)));exact AG m4 ⟨_,_,G,H,O,u,K,J⟩ (l0a _)
theorem Y71 {self:Z0f->Option Z0h}(ih :∀{p0:Z0f} {u:Value} {E:Value} {J:Value} {r:Z0h},self p0=some r->Ct Tryz.prog 25 [Value.agg #[u,E,J]] (fun M=>Gv2 M/\Gv1 M/\Gv3 M/\Gv0 M/\Tabs M/\SlS M 2 xenc46 u p0.1/\Sl M encB E p0.2.1/\SlR xrl39 M J p0.2.2) (fun v M =>∃x0 x1,v=Value.tuple #[x0,x1]/\SlS M 2 xenc46 x0 r.1/\Sl M encB x1 r.2)){p0:Z0f}{u:Value}{E:Value}{J:Value}{r:Ls}(h:Y3z self p0=some r):Ct Tryz.prog 51 [Value.agg #[u,E,J]] (fun M=>Gv2 M/\Gv1 M/\Gv3 M/\Gv0 M/\Tabs M/\SlS M 2 xenc46 u p0.1/\Sl M encB E p0.2.1/\SlR xrl39 M J p0.2.2) (fun v M=>Sl M encB v r):=by
 refine Ct.of Tryz.func51 (enters Tryz.func51 Kr G) G G G ?_;intro w0 M0 H hp;obtain⟨N,O,gM,K,gT,U,V,Y⟩:=hp;unfold Y3z at h;refine SR (q0D [_,_,_] H G G (q00 G) G ?_);intro ab w H;refine AQ G G ?_;obtain⟨⟨l1,l2⟩,a4,h⟩:=bnd h;try dsimp only at h
 refine RG (ST (q08 H G Km Ta39 Ts39 Kf) G ?_);refine q02 H (ih a4) G ⟨N,O,gM,K,gT,U,V,Y⟩ (q00 G) G ?_;intro v7 M w H a5 hR;try dsimp only at hR
 obtain⟨a9,aa,rfl,a0,a1⟩:=hR;refine MV G G (ST (q05 G G) G (ST (q05 G G) G (AS G G (AQ G G ?_))));obtain⟨l4,a6,h⟩:=bnd h;refine RM G G (MV G G (q02 H (Y8a a6) G ⟨a0,a1⟩ (q00 G) G ?_));intro ac M w H a5 hR;have Z:=hR;refine AR G G ?_;obtain rfl:=oI h;exact q07 G G H.ext Z
theorem Y6i {self:Z0f->Option Z0h}(ih :∀{p0:Z0f} {a7:Value} {a8:Value} {a9:Value} {r:Z0h},self p0=some r->Ct Tryz.prog 25 [Value.agg #[a7,a8,a9]] (fun M=>Gv2 M/\Gv1 M/\Gv3 M/\Gv0 M/\Tabs M/\SlS M 2 xenc46 a7 p0.1/\Sl M encB a8 p0.2.1/\SlR xrl39 M a9 p0.2.2) (fun v M =>∃x0 x1,v=Value.tuple #[x0,x1]/\SlS M 2 xenc46 x0 r.1/\Sl M encB x1 r.2)){p0:List BT38}{aa:Value}{r:List Ls}(h:Y2M self p0=some r):Ct Tryz.prog 50 [aa,(Value.func (.func 51) #[] #[])] (fun M=>Gv2 M/\Gv1 M/\Gv3 M/\Gv0 M/\Tabs M/\SlR xrl39 M aa p0) (fun v M=>SlR xrl23 M v r):=by
 refine Ct.of Tryz.func50 (enters Tryz.func50 Kr G) G G G ?_;intro w0 M0 H hp;obtain⟨E,J,Y,u,Z,O⟩:=hp;unfold Y2M at h;refine SR (AQ G G (RG (AQ G G (SM G G (ST (q1e Tu37 O G) G (MV G G (NT ?_)))))));obtain⟨o1,N,h⟩:=bnd h;refine q0c (fun e w =>∃(l4:List Ls) (v5:Value) (g6:List Hd) (M:Mem),e=[(5,v5)]/\St w0 M0 M [RowS 23 xrl23.k xrl23.enc v5 g6] w/\Gv2 M/\Gv1 M/\Gv3 M/\Gv0 M/\Tabs M/\RelL xrl23 M g6 l4/\some l4=some o1) [] ?_ ?_ (trivial)
 .
  refine BL ?_;replace H:=H.newRowS 23 xrl23.k xrl23.enc;first|have ac:RelL xrl23 M [] []:=RelL.nil|have ac:RelL xrl23 M0 [] []:=RelL.nil
  refine q0l (fun m e w =>∃(l9:List Ls) (ad:Value) (ae:List Hd) (ab:Int) (M:Mem),e=[(1,(Value.func (.func 51) #[] #[])),(5,ad),(8,aa),(9,I (p0.length:Int)),(10,I ab)]/\St w0 M0 M [RowS 23 xrl23.k xrl23.enc ad ae] w/\Gv2 M/\Gv1 M/\Gv3 M/\Gv0 M/\Tabs M/\RelL xrl23 M ae l9/\SlR xrl39 M aa p0/\Y0L self p0 m l9 ab=some o1) FU [(1,_),(5,_),(8,_),(9,_),(10,_)] ⟨rfl,rfl,rfl,rfl,rfl,trivial⟩ ⟨_,_,_,_,_,rfl,H,E,J,Y,u,Z,ac,O,N⟩ ?_;rintro ah e w ⟨l9,ad,ae,ab,M,rfl,H,E,J,Y,u,Z,U,O,N⟩;rcases ah with _|ah
  . rw[Y0L] at N;cases N
  rw[Y0L] at N;refine SR (ST (q0m G G) G (NQ ?_));refine CB (p:=ab<(p0.length:Int)) G (fun a3=>?_) fun a3=>?_
  .
   rw[l01 a3] at N;refine KQ (BL (SQ ?_));obtain⟨ai,am,N⟩:=bnd N;obtain⟨ba,bb,aw,ax,ay,a4⟩:=O.atC am;obtain⟨an,ao,ap⟩:=aw;replace a4:SlS _ 2 xenc46 (hv an) ai.out.1/\Sl _ encB (hv ao) ai.out.2.1/\SlR xrl39 _ (hv ap) ai.out.2.2:=run38 a4;obtain⟨a0,a1,a2⟩:=a4;refine RG (ST (q0q ax Tu37 Ts39 G G) G (ST (q0E H G ay Ta39 Ts39 Kf) G ?_));refine q09 [_,_,_] H Tz39 G (q00 G) G ?_;intro bc w H;refine q04 [_,_,_] H G G G Ku Ts39 G Kf (by simp only[l0i,l0u,(a0).one.2,(a1).one.2,(a2).one.2];rfl) (q00 G) ?_;intro w H;refine NT ?_;obtain⟨b5,az,N⟩:=bnd N;obtain⟨bd,aq,N⟩:=bnd N;refine RM G G (MV G G (ST (q08 H G Km Ta39 Ts39 Kf) G ?_));refine WR.callV (cap:=[]) H (Y71 @ih az) G G ⟨E,J,Y,u,Z,a0,a1,a2⟩ (q00 G) G ?_;intro be M w H K hR;have E:=E.mono K;have J:=J.mono K;have Y:=Y.mono K;have u:=u.mono K;have Z:=Z.mono K;have U:=U.mono K;have O:=O.mono K;have V:=hR;have Hn:=H;obtain⟨b6,rfl⟩:=V.hd;have H:=Hn;refine q1u (enc:=xrl23.enc) xty89 ([b6]:List Hd) H (fun _=>G) G Kr G G G (q00 G) G ?_;intro bg M w H K a5;have E:=E.mono K;have J:=J.mono K;have Y:=Y.mono K;have u:=u.mono K;have Z:=Z.mono K;have U:=U.mono K;have O:=O.mono K;have V:=V.mono K;replace a5:=SlR.of (R:=xrl23) (l:=([b5]:List Ls)) a5 ⟨V,trivial⟩;refine WR.appRC (R:=xrl23) (l:=l9) xty89 G H U G Ud G (a5) aq (q00 G) G ?_;intro b7 b8 w b0 H;refine AS G G (NL (IB (TN ?_)));obtain⟨bh,ar,N⟩:=bnd N;refine RG (ST (q0e G G ar) G (MV G G (NL ?_)));exact AG ah ⟨_,_,_,_,_,G,(H.pick (L':=[RowS 23 xrl23.k xrl23.enc b7 b8]) Kp),E,J,Y,u,Z,b0,O,N⟩ (l0a _)
  rw[l00 a3] at N;refine q0j (q03 (q03 (q0b ?_)));exact MN ⟨_,_,_,_,G,H,E,J,Y,u,Z,U,N⟩
 rintro e w ⟨l4,v5,g6,M,rfl,H,E,J,Y,u,Z,aj,b9⟩;obtain rfl:=oI b9;refine TN (SM G G (AR G G ?_));obtain⟨M,K,a6,H⟩:=H.freezeRowS (v:=v5) (enc:=xrl23.enc) (t:=23) Kv (fun _=>rfl);have aj:=aj.mono K;replace a6:=SlR.of (R:=xrl23) a6 aj;obtain rfl:=oI h;exact q07 G G H.ext a6
theorem Y72 {self:Z0f->Option Z0h}(ih :∀{p0:Z0f} {Z:Value} {a0:Value} {a1:Value} {r:Z0h},self p0=some r->Ct Tryz.prog 25 [Value.agg #[Z,a0,a1]] (fun M=>Gv2 M/\Gv1 M/\Gv3 M/\Gv0 M/\Tabs M/\SlS M 2 xenc46 Z p0.1/\Sl M encB a0 p0.2.1/\SlR xrl39 M a1 p0.2.2) (fun v M =>∃x0 x1,v=Value.tuple #[x0,x1]/\SlS M 2 xenc46 x0 r.1/\Sl M encB x1 r.2)){p0:Z0f}{Z:Value}{a0:Value}{a1:Value}{r:Z0h}(h:Y3A self p0=some r):Ct Tryz.prog 25 [Value.agg #[Z,a0,a1]] (fun M=>Gv2 M/\Gv1 M/\Gv3 M/\Gv0 M/\Tabs M/\SlS M 2 xenc46 Z p0.1/\Sl M encB a0 p0.2.1/\SlR xrl39 M a1 p0.2.2) (fun v M =>∃x0 x1,v=Value.tuple #[x0,x1]/\SlS M 2 xenc46 x0 r.1/\Sl M encB x1 r.2):=by
 refine Ct.of Tryz.func25 (enters Tryz.func25 Kr G) G G G ?_;intro w0 M0 H hp;obtain⟨J,K,V,u,Y,O,ao,a8⟩:=hp;unfold Y3A at h;refine SR (q0D [_,_,_] H G G (q00 G) G ?_);intro c0 w H;refine AS G G (AQ G G (SR (ST (q01 Tu39 G Ts37 Dc G) G (ST (XL H Ta37) G ?_))));refine ST (q1e Tu37 a8 G) G (ST (q0s G G) G (NT ?_));refine CB (p:=(p0.2.2.length:Int)=(0:Int)) G (fun ah=>?_) fun ah=>?_
 .
  rw[l01 ah] at h;refine SQ (q0v (m:=6) G G H ?_);intro w H;refine TK 0 G (fun _=>q01 Tu39 G Ts22 Dc G) G (TK 2 G (fun _=>q01 Tu39 G Ts23 Dc G) G (q1i (i:=1) [3] G Kr Kr Kr (XL H Ta22) (q00 G) G G (fun _ _=>G) ?_));refine TK 4 G (fun _=>q1v G) G (q0k (fuel:=0) [3,5] G Kr (ST (XL H Ta23) G ?_));refine AS G G (NA (q0f Kr (TN (RT ?_))));obtain rfl:=oI h;exact q0r G G G H.ext (⟨_,_,G,O,ao⟩)
 rw[l00 ah] at h;refine KQ ?_;obtain⟨l2,bm,h⟩:=bnd h;refine RG (ST (q01 Tu39 G Ts37 Dc G) G (ST (XL H Ta37) G ?_));refine q02 H (Y6i @ih bm) G ⟨J,K,V,u,Y,a8⟩ (q00 G) G ?_;intro b4 M w H E hR;have J:=J.mono E;have K:=K.mono E;have V:=V.mono E;have u:=u.mono E;have Y:=Y.mono E;have O:=O.mono E;have N:=hR;refine AQ G G ?_;obtain⟨s4,bn,h⟩:=bnd h;refine RM G G (q02 H (Y8B bn) G ⟨V,u,N⟩ (q00 G) G ?_);intro c1 M w H E hR;have J:=J.mono E;have K:=K.mono E;have V:=V.mono E;have u:=u.mono E;have Y:=Y.mono E;have O:=O.mono E;have N:=N.mono E;obtain rfl:=hR;refine AQ G G ?_;obtain⟨⟨⟨s6,s7,l8⟩,n9,c2⟩,b7,h⟩:=bnd h;try dsimp only at h
 refine RG (ST (q01 Tu39 G Ts22 Dc G) G (ST (XL H Ta22) G ?_));refine q1l H (Y4z b7) G ⟨J,K,V,u,Y,O⟩ (q00 G) G ?_;intro c3 M w its H E hR;have J:=J.mono E;have K:=K.mono E;have V:=V.mono E;have u:=u.mono E;have Y:=Y.mono E;have O:=O.mono E;have N:=N.mono E;try dsimp only at hR
 obtain⟨a3,rfl,rfl⟩:=hR;simp only[l09,l07] at H;refine MV G G (ST (q05 G G) G (ST (q05 G G) G (ST (q05 G G) G (q09 [_,_,_] H Tz105 G (q00 G) G ?_))));intro c4 w H;refine q04 [_,_,_] H G G G Ku Ts105 G Kf (by simp only[l0i,l0u,(H.rowOneS (v:=a3) Km).2];rfl) (q00 G) ?_;intro w H;refine AS G G (AQ G G ?_);obtain⟨bo,b8,h⟩:=bnd h;obtain⟨c5,ap,h⟩:=bnd h;refine RG (ST (q01 Tu105 G Ts103 Dc G) G (ST (XL H Ta103) G ?_));obtain⟨M,E,b9,H⟩:=H.freezeRowS (v:=a3) (enc:=xenc109) (t:=109) Kv (fun _=>rfl);have J:=J.mono E;have K:=K.mono E;have V:=V.mono E;have u:=u.mono E;have Y:=Y.mono E;have O:=O.mono E;have N:=N.mono E;refine q1l H (Y5S b8) G (b9) (q00 G) G ?_;intro bp M w its H E hR;have J:=J.mono E;have K:=K.mono E;have V:=V.mono E;have u:=u.mono E;have Y:=Y.mono E;have O:=O.mono E;have N:=N.mono E;obtain⟨bp,rfl,rfl⟩:=hR;simp only[l09,l07] at H;refine MV G G (ST (q0t [S [98,111,117,110,100,97,114,121],S s4] Tu109 Tz109 (xplaces109 Tu109) G G) G (q1u (enc:=xenc109) xty103 ([([98,111,117,110,100,97,114,121],s4)]:List Z00) H (fun _=>G) G Kr G G G (q00 G) G ?_));intro c6 M w H E ba;have J:=J.mono E;have K:=K.mono E;have V:=V.mono E;have u:=u.mono E;have Y:=Y.mono E;have O:=O.mono E;have N:=N.mono E;refine WR.appSC (l:=bo) xty103 G xone109 H G Ud G (ba) ap (q00 G) G ?_;intro bq w H;refine ST (q01 Tu105 G Ts103 Dc G) G ?_;obtain⟨M,E,a4,H⟩:=H.freezeRowS (v:=bq) (enc:=xenc109) (t:=109) Kv (fun _=>rfl);have J:=J.mono E;have K:=K.mono E;have V:=V.mono E;have u:=u.mono E;have Y:=Y.mono E;have O:=O.mono E;have N:=N.mono E
 refine q0O [_,_,_] H G G (a4.one) Ku Kf Ts103 (by first|decide|(simp;done)|(simp;omega)) (q00 G) ?_;intro w H;refine NQ ?_;obtain⟨br,bb,h⟩:=bnd h;refine RG (ST (q01 Tu39 G Ts22 Dc G) G (ST (XL H Ta22) G ?_));refine q1l H (Y2x bb) G (O) (q00 G) G ?_;intro a2 M w its H E hR;have J:=J.mono E;have K:=K.mono E;have V:=V.mono E;have u:=u.mono E;have Y:=Y.mono E;have N:=N.mono E;have a4:=a4.mono E;obtain⟨a2,rfl,rfl⟩:=hR;simp only[l09,l07] at H;refine AQ G G ?_;obtain⟨⟨bs,⟨c7,c8⟩⟩,bc,h⟩:=bnd h;try dsimp only at h
 obtain⟨b5,a9,h⟩:=bnd h;obtain⟨aj,aq,h⟩:=bnd h;refine RM G G (MV G G (ST (q08 H G Km Ta105 Ts105 Kf) G ?_));refine q02 H (Y5b bc) G ⟨u,Y,a4⟩ (q00 G) G ?_;intro c9 M w H E hR;have J:=J.mono E;have K:=K.mono E;have V:=V.mono E;have u:=u.mono E;have Y:=Y.mono E;have N:=N.mono E;try dsimp only at hR
 obtain rfl:=hR;refine MV G G (ST (q05 G G) G (ST (q05 G G) G (q0x (l:=br) H Tu22 Ts46 Km G G a9 (q00 G) G ?_)));intro ca bd;refine ST (q01 Tu46 G Ts9 Dc G) G (WR.storeRowFC (j:=1) (a:=b5) (a':=(b5.1,bs)) H G G ⟨G,G⟩ bd Ud (fun _=>G) a9 aq G G Ts9 (q00 G) ?_);intro w H;refine NQ (RG (AQ G G (SM G G (ST (q1e Tu89 N G) G (MV G G (NT ?_))))));obtain⟨b6,U,h⟩:=bnd h;refine q0c (fun e w =>∃(aa:Ls) (ak:Value) (M:Mem),e=[(5,S s4),(9,a2),(10,ak)]/\St w0 M0 M [RowS 46 2 xenc46 a2 aj,RowI 5 encB ak aa] w/\Gv2 M/\Gv1 M/\Gv3 M/\Gv0 M/\Tabs M/\some aa=some b6) [] ?_ ?_ (trivial)
 .
  refine BL ?_;replace H:=H.newRow 5 encB;refine q0l (fun m e w =>∃(ab:Ls) (al:Value) (ac:Int) (M:Mem),e=[(5,S s4),(9,a2),(10,al),(53,b4),(54,I (l2.length:Int)),(55,I ac)]/\St w0 M0 M [RowS 46 2 xenc46 a2 aj,RowI 5 encB al ab] w/\Gv2 M/\Gv1 M/\Gv3 M/\Gv0 M/\Tabs M/\SlR xrl23 M b4 l2/\Y1E l2 s4 m ab ac=some b6) FU [(5,_),(9,_),(10,_),(53,_),(54,_),(55,_)] ⟨rfl,rfl,rfl,rfl,rfl,rfl,trivial⟩ ⟨_,_,_,_,rfl,(H.pick (L':=[RowS 46 2 xenc46 a2 aj,RowI 5 encB (Value.slice none 0 0) []]) Kp),J,K,V,u,Y,N,U⟩ ?_;rintro am e w ⟨ab,al,ac,M,rfl,H,J,K,V,u,Y,N,U⟩;rcases am with _|am
  . rw[Y1E] at U;cases U
  rw[Y1E] at U;refine SR (ST (q0m G G) G (NQ ?_));refine CB (p:=ac<(l2.length:Int)) G (fun a5=>?_) fun a5=>?_
  .
   rw[l01 a5] at U;refine KQ (BL (SQ ?_));obtain⟨bt,ar,U⟩:=bnd U;obtain⟨bz,cb,au,be,bg,a6⟩:=N.atC ar;replace a6:Sl _ encB (hv au) bt:=a6;have an:=a6;refine RG (ST (q0q be Tu89 Ts23 G G) G (ST (q0n H G (bg.at (j:=0) G) Ta23) G (AQ G G ?_)));obtain⟨cc,av,U⟩:=bnd U;obtain⟨cd,aw,U⟩:=bnd U;obtain⟨bu,ax,U⟩:=bnd U;refine RM G G (MV G G (ST (q0d G G av) G (ST (q0d G G aw) G (q1D (l:=ab) xty23 Tu9 H G Ud G ax (q00 G) G ?_))));intro ce w H;refine AN G G ?_;obtain⟨bv,ay,U⟩:=bnd U;obtain⟨cf,az,U⟩:=bnd U;refine RM G G (MV G G (q0F (l:=bu) xty23 G (fun _=>G) H G Ud G (an) ay (q00 G) G ?_));intro cg w H;refine q0M (enc:=encB) xty23 ([13,10]:Ls) H G Kf (fun _=>G) G G (q00 G) G ?_;intro ch M w H E bh;have J:=J.mono E;have K:=K.mono E;have V:=V.mono E;have u:=u.mono E;have Y:=Y.mono E;have N:=N.mono E;refine q0F (l:=bv) xty23 G (fun _=>G) H G Ud G (bh) az (q00 G) G ?_;intro ci w H;refine AS G G (NL (IB (TN ?_)));obtain⟨cj,b0,U⟩:=bnd U;refine RG (ST (q0e G G b0) G (MV G G (NL ?_)));exact AG am ⟨_,_,_,_,G,H,J,K,V,u,Y,N,U⟩ (l0a _)
  rw[l00 a5] at U;refine q0j (q03 (q03 (q0b ?_)));exact MN ⟨_,_,_,G,H,J,K,V,u,Y,U⟩
 rintro e w ⟨aa,ak,M,rfl,H,J,K,V,u,Y,bw⟩;obtain rfl:=oI bw;refine TN (SQ ?_);obtain⟨ck,b1,h⟩:=bnd h;obtain⟨cm,b2,h⟩:=bnd h;obtain⟨cn,b3,h⟩:=bnd h;refine RM G G (MV G G (MV G G (ST (q0d G G b1) G (ST (q0d G G b2) G (q1D (l:=aa) xty23 Tu9 H G Ud G b3 (q00 G) G ?_)))));intro bx w H;refine AS G G (AR G G ?_);obtain⟨M,E,a7,H⟩:=H.freezeRowS (v:=a2) (enc:=xenc46) (t:=46) Kv (fun _=>rfl);obtain⟨M,E,bi,H⟩:=H.freezeRow (v:=bx) (enc:=encB) (t:=5) Kv;have a7:=a7.mono E;obtain rfl:=oI h;exact q0r G G G H.ext (⟨_,_,G,a7,bi⟩)
theorem Y5H :∀(m:Nat) {p0:Z0f} {u:Value} {E:Value} {J:Value} {r:Z0h},Y0V m p0=some r->Ct Tryz.prog 25 [Value.agg #[u,E,J]] (fun M=>Gv2 M/\Gv1 M/\Gv3 M/\Gv0 M/\Tabs M/\SlS M 2 xenc46 u p0.1/\Sl M encB E p0.2.1/\SlR xrl39 M J p0.2.2) (fun v M =>∃K N,v=Value.tuple #[K,N]/\SlS M 2 xenc46 K r.1/\Sl M encB N r.2)
 | 0,_,_,_,_,_,h=>by rw[Y0V] at h;cases h
 | m+1,_,_,_,_,_,h=>Y72 (fun h=>Y5H m h) (by rw[Y0V] at h;exact h)
theorem Y7z {p0:Z0f}{u:Value}{E:Value}{J:Value}{r:Z0h}(h:Y5R p0=some r):Ct Tryz.prog 25 [Value.agg #[u,E,J]] (fun M=>Gv2 M/\Gv1 M/\Gv3 M/\Gv0 M/\Tabs M/\SlS M 2 xenc46 u p0.1/\Sl M encB E p0.2.1/\SlR xrl39 M J p0.2.2) (fun v M =>∃K N,v=Value.tuple #[K,N]/\SlS M 2 xenc46 K r.1/\Sl M encB N r.2):=Y5H FU h
theorem Y8C {p0:Z0f}{a7:Value}{a8:Value}{a9:Value}{r:(Z0h × Z02)}(h:Y3r p0=some r):Ct Tryz.prog 10 [Value.agg #[a7,a8,a9]] (fun M=>Gv2 M/\Gv1 M/\Gv3 M/\Gv0 M/\Tabs M/\SlS M 2 xenc46 a7 p0.1/\Sl M encB a8 p0.2.1/\SlR xrl39 M a9 p0.2.2) (fun v M =>∃aa ab,v=Value.tuple #[Value.agg #[aa,ab],Value.agg #[I r.2.1,I r.2.2]]/\SlS M 2 xenc46 aa r.1.1/\Sl M encB ab r.1.2):=by
 refine Ct.of Tryz.func10 (enters Tryz.func10 Kr G) G G G ?_;intro w0 M0 H hp;obtain⟨J,K,U,E,V,Y,Z,a0⟩:=hp;unfold Y3r at h;refine SR (q0D [_,_,_] H G G (q00 G) G ?_);intro b1 w H;refine q09 [_,_] H Tz25 G (q00 G) G ?_;intro a1 w H;refine q09 [_,_] H Tz28 G (q00 G) G ?_;intro a2 w H;refine NQ (SQ ?_);obtain⟨⟨n1,n2⟩,ar,h⟩:=bnd h;try dsimp only at h
 refine RG (ST (q08 H G Km Ta39 Ts39 Kf) G ?_);refine q02 H (Y5q ar) G ⟨J,K,U,E,V,Y,Z,a0⟩ (q00 G) G ?_;intro b2 M w H u hR;have J:=J.mono u;have K:=K.mono u;have U:=U.mono u;have E:=E.mono u;have V:=V.mono u;have Y:=Y.mono u;have Z:=Z.mono u;have a0:=a0.mono u;try dsimp only at hR
 obtain rfl:=hR;refine q09 [_,_] H Tz28 G (q00 G) G ?_;intro b3 w H;refine q04 [_,_] H G G G Ku Ts28 G Kf Kf (q00 G) ?_;intro w H;refine NQ ?_;obtain⟨b4,au,h⟩:=bnd h;refine RG (ST (q08 H G Km Ta28 Ts28 Kf) G ?_);refine q02 H (Y06 au) G trivial (q00 G) G ?_;intro b5 M w H u hR;have J:=J.mono u;have K:=K.mono u;have U:=U.mono u;have E:=E.mono u;have V:=V.mono u;have Y:=Y.mono u;have Z:=Z.mono u;have a0:=a0.mono u;obtain rfl:=hR;refine NT ?_;refine q0a G (fun ac=>?_) (fun ac=>?_)
 .
  subst ac;rw[l01 rfl] at h;refine SQ ?_;refine q0V (fun e w =>∃  (M:Mem),e=[(2,ptr a1 0),(3,ptr a2 0)]/\St w0 M0 M [.blk a1 (.cells #[Value.slice none 0 0,Value.slice none 0 0] 25), .blk a2 (.cells #[I n1,I n2] 28)] w/\Gv2 M/\Gv1 M/\Gv3 M/\Gv0 M/\Tabs M) ?_ ?_
  .
   refine q0v (m:=4) G G H ?_;intro w H;refine TK 0 G (fun _=>q0t [Value.slice none 0 0,Value.slice none 0 0] Tu25 Tz25 (xplaces25 Tu25) G G) G ?_;refine q0C (i:=1) (j:=2) Kr G G ?_ ?_
   .
    refine ST (q08 H G Km Ta28 Ts28 Kf) G ?_;refine NA (q0k (fuel:=0) [2,3] G Kr (q04 [_,_] H G G G Ku Ts25 G Kf Kf (q00 G) ?_));intro w H;refine q04 [_,_] H G G G Ku Ts28 G Kf Kf (q00 G) ?_;intro w H;refine NA (q0f Kr ?_);exact MP ⟨_,G,(H.pick (L':=[.blk a1 (.cells #[Value.slice none 0 0,Value.slice none 0 0] 25), .blk a2 (.cells #[I n1,I n2] 28)]) Kp),J,K,U,E,V⟩
   refine q04 [_,_] H G G G Ku Ts25 G Kf Kf (q00 G) ?_;intro w H;refine NA (q0k (fuel:=0) [1,3] G Kr (ST (q08 H G Km Ta28 Ts28 Kf) G ?_));refine q04 [_,_] H G G G Ku Ts28 G Kf Kf (q00 G) ?_;intro w H;refine NA (q0f Kr ?_);exact MP ⟨_,G,(H.pick (L':=[.blk a1 (.cells #[Value.slice none 0 0,Value.slice none 0 0] 25), .blk a2 (.cells #[I n1,I n2] 28)]) Kp),J,K,U,E,V⟩
  rintro e w ⟨M,rfl,H,J,K,U,E,V⟩;refine TN (RT ?_);obtain rfl:=oI h;exact q0r G ⟨_,G,H.loadAgg Km Ta25 Ts25 Kf⟩ ⟨_,G,H.loadAgg Km Ta28 Ts28 Kf⟩ H.ext (⟨_,_,G,(q1a _ _ (fun _=>G)),q0U _ _⟩)
 subst ac;rw[l00 l03] at h;refine KQ ?_;obtain⟨⟨l7,l8⟩,av,h⟩:=bnd h;try dsimp only at h
 refine RG (ST (q08 H G Km Ta39 Ts39 Kf) G ?_);refine q02 H (Y7z av) G ⟨J,K,U,E,V,Y,Z,a0⟩ (q00 G) G ?_;intro b6 M w H u hR;have J:=J.mono u;have K:=K.mono u;have U:=U.mono u;have E:=E.mono u;have V:=V.mono u;try dsimp only at hR
 obtain⟨az,b0,rfl,ai,a5⟩:=hR;refine MV G G (ST (q05 G G) G (ST (q05 G G) G (AS G G (AQ G G ?_))));obtain⟨aw,al,h⟩:=bnd h;obtain⟨ax,am,h⟩:=bnd h;refine RM G G (q1l H (Y2x al) G (ai) (q00 G) G ?_);intro a3 M w its H u hR;have J:=J.mono u;have K:=K.mono u;have U:=U.mono u;have E:=E.mono u;have V:=V.mono u;have a5:=a5.mono u;obtain⟨a3,rfl,rfl⟩:=hR;simp only[l09,l07] at H;refine MV G G (q1l H (Y4s am) G (a5) (q00 G) G ?_);intro a4 M w its H u hR;have J:=J.mono u;have K:=K.mono u;have U:=U.mono u;have E:=E.mono u;have V:=V.mono u;obtain⟨a4,rfl,rfl⟩:=hR;simp only[l09,l07] at H;obtain⟨M,u,N,H⟩:=H.freezeRowS (v:=a3) (enc:=xenc46) (t:=46) Kv (fun _=>rfl);have J:=J.mono u;have K:=K.mono u;have U:=U.mono u;have E:=E.mono u;have V:=V.mono u;obtain⟨M,u,O,H⟩:=H.freezeRow (v:=a4) (enc:=encB) (t:=5) Kv;have J:=J.mono u;have K:=K.mono u;have U:=U.mono u;have E:=E.mono u;have V:=V.mono u;have N:=N.mono u;refine ST (q0t [a3,a4] Tu25 Tz25 (xplaces25 Tu25) G (by obtain⟨_,_,_,hv,-⟩:=N;rw [hv];clear hv;obtain ⟨_,_,hv,-⟩:=O;rw [hv];clear hv;rfl)) G ?_;refine q09 [_,_] H Tz25 G (q00 G) G ?_;intro b7 w H;refine q04 [_,_] H G G G Ku Ts25 G Kf (by simp only[l0i,l0u,(N).one.2,(O).one.2];rfl) (q00 G) ?_;intro w H;refine NQ (SQ ?_);obtain⟨⟨b8,b9⟩,an,h⟩:=bnd h;try dsimp only at h
 refine RG (ST (q08 H G Km Ta25 Ts25 Kf) G ?_);refine q02 H (Y2Z an) G ⟨N,O⟩ (q00 G) G ?_;intro ba M w H u hR;have J:=J.mono u;have K:=K.mono u;have U:=U.mono u;have E:=E.mono u;have V:=V.mono u;have N:=N.mono u;have O:=O.mono u;try dsimp only at hR
 obtain rfl:=hR;refine q09 [_,_] H Tz28 G (q00 G) G ?_;intro bb w H;refine q04 [_,_] H G G G Ku Ts28 G Kf Kf (q00 G) ?_;intro w H;refine NQ ?_;obtain⟨bc,ao,h⟩:=bnd h;refine RG (ST (q08 H G Km Ta28 Ts28 Kf) G ?_);refine q02 H (Y06 ao) G trivial (q00 G) G ?_;intro bd M w H u hR;have J:=J.mono u;have K:=K.mono u;have U:=U.mono u;have E:=E.mono u;have V:=V.mono u;have N:=N.mono u;have O:=O.mono u;obtain rfl:=hR;refine NT ?_;refine q0a G (fun a6=>?_) (fun a6=>?_)
 .
  subst a6;rw[l01 rfl] at h;refine SQ ?_;obtain⟨⟨be,bg⟩,ap,h⟩:=bnd h;try dsimp only at h
  refine RG (ST (q0t [Value.slice none 0 0,Value.slice none 0 0] Tu25 Tz25 (xplaces25 Tu25) G G) G (ST (q01 Tu28 G Ts3 Dc G) G (ST (XL H Ta3) G ?_)));refine q02 H (Y02 ap) G trivial (q00 G) G ?_;intro bh M w H u hR;try dsimp only at hR
  obtain rfl:=hR;refine q04 [_,_] H G G G Ku Ts25 G Kf Kf (q00 G) ?_;intro w H;refine q04 [_,_] H G G G Ku Ts28 G Kf Kf (q00 G) ?_;intro w H;refine NR ?_;obtain rfl:=oI h;exact q0r G ⟨_,G,H.loadAgg Km Ta25 Ts25 Kf⟩ ⟨_,G,H.loadAgg Km Ta28 Ts28 Kf⟩ H.ext (⟨_,_,G,(q1a _ _ (fun _=>G)),q0U _ _⟩)
 subst a6;rw[l00 l03] at h;refine KQ ?_;obtain⟨⟨ad,ae⟩,ah,h⟩:=bnd h;try dsimp only at h
 refine q0V (fun e w =>∃  (M:Mem),e=[(2,ptr a1 0),(3,ptr a2 0)]/\St w0 M0 M [.blk a1 (.cells #[a3,a4] 25), .blk a2 (.cells #[I ad,I ae] 28)] w/\Gv2 M/\Gv1 M/\Gv3 M/\Gv0 M/\Tabs M/\SlS M 2 xenc46 a3 aw/\Sl M encB a4 ax) ?_ ?_
 .
  refine q0v (m:=4) G G H ?_;intro w H;refine q0C (i:=0) (j:=1) Kr G G ?_ ?_
  .
   refine ST (q08 H G Km Ta25 Ts25 Kf) G ?_;refine NA (q0k (fuel:=0) [1,2,3] G Kr (q02 H (Y07 ah) G trivial (q00 G) G ?_));intro ay M w H u hR;have J:=J.mono u;have K:=K.mono u;have U:=U.mono u;have E:=E.mono u;have V:=V.mono u;have N:=N.mono u;have O:=O.mono u;try dsimp only at hR
   obtain rfl:=hR;refine q04 [_,_] H G G G Ku Ts25 G Kf (by simp only[l0i,l0u,(N).one.2,(O).one.2];rfl) (q00 G) ?_;intro w H;refine q04 [_,_] H G G G Ku Ts28 G Kf Kf (q00 G) ?_;intro w H;refine NA (q0f Kr ?_);exact MP ⟨_,G,(H.pick (L':=[.blk a1 (.cells #[a3,a4] 25), .blk a2 (.cells #[I ad,I ae] 28)]) Kp),J,K,U,E,V,N,O⟩
  refine q02 H (Y07 ah) G trivial (q00 G) G ?_;intro ay M w H u hR;have J:=J.mono u;have K:=K.mono u;have U:=U.mono u;have E:=E.mono u;have V:=V.mono u;have N:=N.mono u;have O:=O.mono u;try dsimp only at hR
  obtain rfl:=hR;refine NA (q0k (fuel:=0) [0,2,3] G Kr (ST (q08 H G Km Ta25 Ts25 Kf) G ?_));refine q04 [_,_] H G G G Ku Ts25 G Kf (by simp only[l0i,l0u,(N).one.2,(O).one.2];rfl) (q00 G) ?_;intro w H;refine q04 [_,_] H G G G Ku Ts28 G Kf Kf (q00 G) ?_;intro w H;refine NA (q0f Kr ?_);exact MP ⟨_,G,(H.pick (L':=[.blk a1 (.cells #[a3,a4] 25), .blk a2 (.cells #[I ad,I ae] 28)]) Kp),J,K,U,E,V,N,O⟩
 rintro e w ⟨M,rfl,H,J,K,U,E,V,N,O⟩;refine TN (RT ?_);obtain rfl:=oI h;exact q0r G ⟨_,G,H.loadAgg Km Ta25 Ts25 Kf⟩ ⟨_,G,H.loadAgg Km Ta28 Ts28 Kf⟩ H.ext (⟨_,_,G,N,O⟩)
theorem Y7A {p0:List Z00}{V:List Z00}{O:Value}{U:Value}{r:Bool}(h:Y4o p0 V=some r):Ct Tryz.prog 28 [O,U] (fun M=>SlS M 2 xenc46 O p0/\SlS M 2 xenc46 U V) (fun v M=>v=Value.bool r):=by
 refine Ct.of Tryz.func28 (enters Tryz.func28 Kr G) G G G ?_;intro w0 M0 H hp;obtain⟨K,N⟩:=hp;unfold Y4o at h;refine SR (AQ G G (SM G G (ST (q0L Tu22 K G) G (MV G G (ST (q0L Tu22 N G) G (ST (q1j G G) G (NT ?_)))))));refine q0a G (fun E=>?_) (fun E=>?_)
 .
  replace E :¬((p0.length:Int)=(V.length:Int)):=of_not_decide E;rw[l00 E] at h;refine SR (AR G G ?_);obtain rfl:=oI h;exact q07 G G H.ext G
 replace E:(p0.length:Int)=(V.length:Int):=of_not_decide' E;rw[l01 E] at h;refine KQ (SR (AN G G ?_));obtain⟨o2,u,h⟩:=bnd h;refine q0c (fun e w =>∃  (M:Mem),e=[]/\St w0 M0 M [] w/\some (.inl ())=some o2) [] ?_ ?_ (trivial)
 .
  refine BL (q0l (fun m e w =>∃(n4:Int) (M:Mem),e=[(0,O),(1,U),(5,I n4)]/\St w0 M0 M [] w/\SlS M 2 xenc46 O p0/\SlS M 2 xenc46 U V/\Y1F p0 V m n4=some o2) FU [(0,_),(1,_),(5,_)] ⟨rfl,rfl,rfl,trivial⟩ ⟨_,_,rfl,H,K,N,u⟩ ?_);rintro m5 e w ⟨n4,M,rfl,H,K,N,u⟩;rcases m5 with _|m5
  . rw[Y1F] at u;cases u
  rw[Y1F] at u;refine SQ (SM G G (MV G G (ST (q0L Tu22 K G) G (ST (q0m G G) G (NT ?_)))));refine CB (p:=n4<(p0.length:Int)) G (fun a0=>?_) fun a0=>?_
  .
   rw[l01 a0] at u;refine KQ (BL (SQ ?_));obtain⟨Y,a4,u⟩:=bnd u;obtain⟨ah,aj,a5,a6⟩:=K.atC a4;obtain⟨Z,a9,u⟩:=bnd u;obtain⟨ai,ak,aa,ab⟩:=N.atC a9;refine q0v (m:=9) G G H ?_;intro w H;refine TK 0 G (fun _=>q06 G) G (TK 1 G (fun _=>q06 G) G (TK 2 G (fun _=>q0q a5 Tu22 Ts46 G G) G (TK 4 G (fun _=>q06 G) G (TK 5 G (fun _=>q06 G) G (TK 6 G (fun _=>q0q aa Tu22 Ts46 G G) G (q1i (i:=3) [7] G Kr Kr Kr (q0E H G a6 Ta46 Ts46 Kf) (q00 G) G G (fun _ _=>G) ?_))))));refine q0k (fuel:=0) [7,8] G Kr (ST (q0E H G ab Ta46 Ts46 Kf) G ?_);refine ST (Ex.neqAggC G G Kr (xeq46 Y.1 Z.1 Y.2 Z.2)) G (NA (q0f Kr (TN ?_)));refine q0a G (fun J=>?_) (fun J=>?_)
   .
    replace J :¬(Y.1=Z.1/\Y.2=Z.2):=of_not_decide J;rw[l00 J] at u;refine SR (AR G G ?_);obtain rfl:=oI u;try dsimp only at h
    obtain rfl:=oI h;exact q07 G G H.ext G
   replace J:Y.1=Z.1/\Y.2=Z.2:=of_not_decide' J;rw[l01 J] at u;refine SK (IB (TN ?_));obtain⟨al,a2,u⟩:=bnd u;refine RM G G (ST (q0e G G a2) G (AS G G (NL ?_)));exact AG m5 ⟨_,_,G,H,K,N,u⟩ (l0a _)
  rw[l00 a0] at u;refine q0j (q03 (q03 (q0b ?_)));exact MN ⟨_,G,H,u⟩
 rintro e w ⟨M,rfl,H,ae⟩;obtain rfl:=oI ae;try dsimp only at h
 refine TN (SR (AR G G ?_));obtain rfl:=oI h;exact q07 G G H.ext G
theorem Y73 {p0:Ls}{J:Ls}{u:Value}{E:Value}{r:Bool}(h:R_Bytes p0 J=some r):Ct Tryz.prog 13 [u,E] (fun M=>Sl M encB u p0/\Sl M encB E J) (fun v M=>v=Value.bool r):=by
 refine Ct.of Tryz.func13 (enters Tryz.func13 Kr G) G G G ?_;intro O M0 H hp;obtain⟨K,N⟩:=hp;unfold R_Bytes at h;refine SR (AN G G (SM G G (ST (q0Y Tu23 Tu5 Tu9 H (K) G) G (MV G G (ST (q0Y Tu23 Tu5 Tu9 H (N) G) G (ST (q0z G G) G (AR G G ?_)))))));obtain rfl:=oI h;exact q07 G G H.ext G
theorem Y4O {self:Z0f->Z0f->Option Bool}(ih :∀{p0:Z0f} {p1:Z0f} {V:Value} {Y:Value} {Z:Value} {a0:Value} {a1:Value} {a2:Value} {r:Bool},self p0 p1=some r->Ct Tryz.prog 11 [Value.agg #[V,Y,Z],Value.agg #[a0,a1,a2]] (fun M=>SlS M 2 xenc46 V p0.1/\Sl M encB Y p0.2.1/\SlR xrl39 M Z p0.2.2/\SlS M 2 xenc46 a0 p1.1/\Sl M encB a1 p1.2.1/\SlR xrl39 M a2 p1.2.2) (fun v M=>v=Value.bool r)){p0:Z0f}{p1:Z0f}{V:Value}{Y:Value}{Z:Value}{a0:Value}{a1:Value}{a2:Value}{r:Bool}(h:Y20 self p0 p1=some r):Ct Tryz.prog 11 [Value.agg #[V,Y,Z],Value.agg #[a0,a1,a2]] (fun M=>SlS M 2 xenc46 V p0.1/\Sl M encB Y p0.2.1/\SlR xrl39 M Z p0.2.2/\SlS M 2 xenc46 a0 p1.1/\Sl M encB a1 p1.2.1/\SlR xrl39 M a2 p1.2.2) (fun v M=>v=Value.bool r):=by
 refine Ct.of Tryz.func11 (enters Tryz.func11 Kr G) G G G ?_;intro w0 M0 H hp;obtain⟨J,K,u,N,O,E⟩:=hp;unfold Y20 at h;refine SR (q0D [_,_,_] H G G (q00 G) G ?_);intro a6 w H;refine q0D [_,_,_] H G G (q00 G) G ?_;intro a7 w H;refine AQ G G (SQ ?_);obtain⟨o1,e2,h⟩:=bnd h;refine q0c (fun e w =>∃(b3:Bool) (M:Mem),e=[(2,ptr a6 0),(3,ptr a7 0),(28,Value.bool b3)]/\St w0 M0 M [.blk a6 (.cells #[V,Y,Z] 39), .blk a7 (.cells #[a0,a1,a2] 39)] w/\SlS M 2 xenc46 V p0.1/\Sl M encB Y p0.2.1/\SlR xrl39 M Z p0.2.2/\SlS M 2 xenc46 a0 p1.1/\Sl M encB a1 p1.2.1/\SlR xrl39 M a2 p1.2.2/\some b3=some o1) [] ?_ ?_ (trivial)
 .
  obtain⟨b4,be,e2⟩:=bnd e2;refine RG (ST (q01 Tu39 G Ts22 Dc G) G (ST (XL H Ta22) G ?_));refine ST (q01 Tu39 G Ts22 Dc G) G (ST (XL H Ta22) G ?_);refine q02 H (Y7A be) G ⟨J,N⟩ (q00 G) G ?_;intro br M w H U hR;have J:=J.mono U;have K:=K.mono U;have u:=u.mono U;have N:=N.mono U;have O:=O.mono U;have E:=E.mono U;obtain rfl:=hR;refine ST (q0w G) G (MV G G ?_);rcases b4 with _|_
  .
   rw[l00 l03] at e2;refine q0i 6 G G (PT G G G (MV G G (q0i 7 G G (PT G G G (NL ?_)))));exact MN ⟨_,_,G,(H.pick (L':=[.blk a6 (.cells #[V,Y,Z] 39), .blk a7 (.cells #[a0,a1,a2] 39)]) Kp),J,K,u,N,O,E,e2⟩
  rw[l01 rfl] at e2;obtain⟨b6,bg,e2⟩:=bnd e2;refine SG (q01 Tu39 G Ts23 Dc G) G G G (SG (XL H Ta23) G G G ?_);refine SG (q01 Tu39 G Ts23 Dc G) G G G (SG (XL H Ta23) G G G ?_);refine q02 H (Y73 bg) G ⟨K,O⟩ (q0h G G G) G ?_;intro bs M w H U hR;have J:=J.mono U;have K:=K.mono U;have u:=u.mono U;have N:=N.mono U;have O:=O.mono U;have E:=E.mono U;obtain rfl:=hR;refine SG (q0w G) G G G (PF G G G (MV G G ?_));rcases b6 with _|_
  .
   rw[l00 l03] at e2;refine q0i 7 G G (PT G G G (NL ?_));exact MN ⟨_,_,G,(H.pick (L':=[.blk a6 (.cells #[V,Y,Z] 39), .blk a7 (.cells #[a0,a1,a2] 39)]) Kp),J,K,u,N,O,E,e2⟩
  rw[l01 rfl] at e2;refine SG (q01 Tu39 G Ts37 Dc G) G G G (SG (XL H Ta37) G G G ?_);refine SG (q1e Tu37 u G) G G G (SG (q01 Tu39 G Ts37 Dc G) G G G (SG (XL H Ta37) G G G ?_));refine SG (q1e Tu37 E G) G G G (SG (q1j G G) G G G (PF G G G (NL ?_)));exact MN ⟨_,_,G,(H.pick (L':=[.blk a6 (.cells #[V,Y,Z] 39), .blk a7 (.cells #[a0,a1,a2] 39)]) Kp),J,K,u,N,O,E,e2⟩
 rintro e w ⟨b3,M,rfl,H,J,K,u,N,O,E,q8⟩;obtain rfl:=oI q8;refine TN ?_;refine q0a G (fun al=>?_) (fun al=>?_)
 .
  subst al;rw[l01 rfl] at h;refine SR (AR G G ?_);obtain rfl:=oI h;exact q07 G G H.ext G
 subst al;rw[l00 l03] at h;refine KQ (SR (AN G G ?_));obtain⟨ba,a3,h⟩:=bnd h;refine q0c (fun e w =>∃  (M:Mem),e=[]/\St w0 M0 M [] w/\some (.inl ())=some ba) [] ?_ ?_ (trivial)
 .
  refine BL (q0l (fun m e w =>∃(a9:Int) (M:Mem),e=[(2,ptr a6 0),(3,ptr a7 0),(5,I a9)]/\St w0 M0 M [.blk a6 (.cells #[V,Y,Z] 39), .blk a7 (.cells #[a0,a1,a2] 39)] w/\SlS M 2 xenc46 V p0.1/\Sl M encB Y p0.2.1/\SlR xrl39 M Z p0.2.2/\SlS M 2 xenc46 a0 p1.1/\Sl M encB a1 p1.2.1/\SlR xrl39 M a2 p1.2.2/\Y0f self p0 p1 m a9=some ba) FU [(2,_),(3,_),(5,_)] ⟨rfl,rfl,rfl,trivial⟩ ⟨_,_,rfl,H,J,K,u,N,O,E,a3⟩ ?_);rintro am e w ⟨a9,M,rfl,H,J,K,u,N,O,E,a3⟩;rcases am with _|am
  . rw[Y0f] at a3;cases a3
  rw[Y0f] at a3;refine SQ (SM G G (ST (q01 Tu39 G Ts37 Dc G) G (ST (XL H Ta37) G ?_)));refine ST (q1e Tu37 u G) G (ST (q0m G G) G (NT ?_));refine CB (p:=a9<(p0.2.2.length:Int)) G (fun ai=>?_) fun ai=>?_
  .
   rw[l01 ai] at a3;refine KQ (BL (SQ ?_));obtain⟨an,ay,a3⟩:=bnd a3;obtain⟨bp,bt,bc,ao,ap,aj⟩:=u.atC ay;obtain⟨az,b0,b1⟩:=bc;replace aj:SlS _ 2 xenc46 (hv az) an.out.1/\Sl _ encB (hv b0) an.out.2.1/\SlR xrl39 _ (hv b1) an.out.2.2:=run38 aj;obtain⟨aa,ab,ac⟩:=aj;obtain⟨aq,b2,a3⟩:=bnd a3;obtain⟨bq,bu,bd,ar,au,ak⟩:=E.atC b2;obtain⟨b5,b7,b8⟩:=bd;replace ak:SlS _ 2 xenc46 (hv b5) aq.out.1/\Sl _ encB (hv b7) aq.out.2.1/\SlR xrl39 _ (hv b8) aq.out.2.2:=run38 ak;obtain⟨ad,ae,ah⟩:=ak;obtain⟨av,aw,a3⟩:=bnd a3;refine q0V (fun e w =>∃  (M:Mem),e=[(2,ptr a6 0),(3,ptr a7 0),(5,I a9),(47,Value.bool (!av))]/\St w0 M0 M [.blk a6 (.cells #[V,Y,Z] 39), .blk a7 (.cells #[a0,a1,a2] 39)] w/\SlS M 2 xenc46 V p0.1/\Sl M encB Y p0.2.1/\SlR xrl39 M Z p0.2.2/\SlS M 2 xenc46 a0 p1.1/\Sl M encB a1 p1.2.1/\SlR xrl39 M a2 p1.2.2) ?_ ?_
   .
    refine q0v (m:=12) G G H ?_;intro w H;refine TK 0 G (fun _=>q01 Tu39 G Ts37 Dc G) G (TK 2 G (fun _=>q06 G) G (TK 5 G (fun _=>q01 Tu39 G Ts37 Dc G) G (TK 7 G (fun _=>q06 G) G ?_)));refine q0C (i:=1) (j:=6) Kr G G ?_ ?_
    .
     refine ST (XL H Ta37) G ?_;refine NA (TK 3 G (fun _=>q0q ao Tu37 Ts39 G G) G (q1i (i:=6) [4] G Kr Kr Kr (XL H Ta37) (q00 G) G G (fun _ _=>G) ?_));refine TK 8 G (fun _=>q0q ar Tu37 Ts39 G G) G (q1i (i:=4) [9] G Kr Kr Kr (q0E H G ap Ta39 Ts39 Kf) (q00 G) G G (fun _ _=>G) ?_);refine q0k (fuel:=0) [9,10,11] G Kr (ST (q0E H G au Ta39 Ts39 Kf) G ?_);refine q02 H (ih aw) G ⟨aa,ab,ac,ad,ae,ah⟩ (q00 G) G ?_;intro bh M w H U hR;have u:=u.mono U;have J:=J.mono U;have K:=K.mono U;have N:=N.mono U;have O:=O.mono U;have E:=E.mono U;obtain rfl:=hR;refine ST (q0w G) G (NA (q0f Kr ?_));exact MP ⟨_,G,H,J,K,u,N,O,E⟩
    refine ST (XL H Ta37) G ?_;refine NA (TK 8 G (fun _=>q0q ar Tu37 Ts39 G G) G (q1i (i:=1) [9] G Kr Kr Kr (XL H Ta37) (q00 G) G G (fun _ _=>G) ?_));refine TK 3 G (fun _=>q0q ao Tu37 Ts39 G G) G (q1i (i:=4) [9] G Kr Kr Kr (q0E H G ap Ta39 Ts39 Kf) (q00 G) G G (fun _ _=>G) ?_);refine q0k (fuel:=0) [9,10,11] G Kr (ST (q0E H G au Ta39 Ts39 Kf) G ?_);refine q02 H (ih aw) G ⟨aa,ab,ac,ad,ae,ah⟩ (q00 G) G ?_;intro bh M w H U hR;have u:=u.mono U;have J:=J.mono U;have K:=K.mono U;have N:=N.mono U;have O:=O.mono U;have E:=E.mono U;obtain rfl:=hR;refine ST (q0w G) G (NA (q0f Kr ?_));exact MP ⟨_,G,H,J,K,u,N,O,E⟩
   rintro e w ⟨M,rfl,H,J,K,u,N,O,E⟩;refine TN ?_;refine q0a G (fun a5=>?_) (fun a5=>?_)
   .
    replace a5:av=false:=by simpa using a5
    subst a5;rw[l00 l03] at a3;refine SR (AR G G ?_);obtain rfl:=oI a3;try dsimp only at h
    obtain rfl:=oI h;exact q07 G G H.ext G
   replace a5:av=true:=by simpa using a5
   subst a5;rw[l01 rfl] at a3;refine SK (IB (TN ?_));obtain⟨bv,b9,a3⟩:=bnd a3;refine RM G G (ST (q0e G G b9) G (AS G G (NL ?_)));exact AG am ⟨_,_,G,H,J,K,u,N,O,E,a3⟩ (l0a _)
  rw[l00 ai] at a3;refine q0j (q03 (q03 (q0b ?_)));exact MN ⟨_,G,(H.pick (L':=[]) Kp),a3⟩
 rintro e w ⟨M,rfl,H,bi⟩;obtain rfl:=oI bi;try dsimp only at h
 refine TN (SR (AR G G ?_));obtain rfl:=oI h;exact q07 G G H.ext G
theorem Y3u :∀(m:Nat) {p0:Z0f} {U:Z0f} {u:Value} {E:Value} {J:Value} {K:Value} {N:Value} {O:Value} {r:Bool},Y0h m p0 U=some r->Ct Tryz.prog 11 [Value.agg #[u,E,J],Value.agg #[K,N,O]] (fun M=>SlS M 2 xenc46 u p0.1/\Sl M encB E p0.2.1/\SlR xrl39 M J p0.2.2/\SlS M 2 xenc46 K U.1/\Sl M encB N U.2.1/\SlR xrl39 M O U.2.2) (fun v M=>v=Value.bool r)
 | 0,_,_,_,_,_,_,_,_,_,h=>by rw[Y0h] at h;cases h
 | m+1,_,_,_,_,_,_,_,_,_,h=>Y4O (fun h=>Y3u m h) (by rw[Y0h] at h;exact h)
theorem Y3C {p0:Z0f}{U:Z0f}{u:Value}{E:Value}{J:Value}{K:Value}{N:Value}{O:Value}{r:Bool}(h:Y1J p0 U=some r):Ct Tryz.prog 11 [Value.agg #[u,E,J],Value.agg #[K,N,O]] (fun M=>SlS M 2 xenc46 u p0.1/\Sl M encB E p0.2.1/\SlR xrl39 M J p0.2.2/\SlS M 2 xenc46 K U.1/\Sl M encB N U.2.1/\SlR xrl39 M O U.2.2) (fun v M=>v=Value.bool r):=Y3u FU h
theorem Y5X {p0:Z0h}{a5:Value}{a6:Value}{r:Bool}(h:Y3b p0=some r):Ct Tryz.prog 4 [Value.agg #[a5,a6]] (fun M=>Gv2 M/\Gv1 M/\Gv3 M/\Gv0 M/\Tabs M/\SlS M 2 xenc46 a5 p0.1/\Sl M encB a6 p0.2) (fun v M=>v=Value.bool r):=by
 refine Ct.of Tryz.func4 (enters Tryz.func4 Kr G) G G G ?_;intro w0 M0 H hp;obtain⟨E,J,V,u,Y,a1,a2⟩:=hp;unfold Y3b at h;refine SR (q0D [_,_] H G G (q00 G) G ?_);intro aw w H;refine AQ G G (SQ ?_);obtain⟨b1,bq,h⟩:=bnd h;refine RG (q02 H (Y5G bq) G ⟨E,J,V,u,Y⟩ (q00 G) G ?_);intro cd M w H K hR;have E:=E.mono K;have J:=J.mono K;have V:=V.mono K;have u:=u.mono K;have Y:=Y.mono K;have a1:=a1.mono K;have a2:=a2.mono K;obtain rfl:=hR;refine ST (q0w G) G (NT ?_);refine q0a G (fun ae=>?_) (fun ae=>?_)
 .
  replace ae:b1=false:=by simpa using ae
  subst ae;rw[l00 l03] at h;refine SR (AR G G ?_);obtain rfl:=oI h;exact q07 G G H.ext G
 replace ae:b1=true:=by simpa using ae
 subst ae;rw[l01 rfl] at h;refine KQ ?_;obtain⟨⟨⟨l4,l5,l6⟩,⟨n7,n8⟩⟩,bs,h⟩:=bnd h;try dsimp only at h
 refine RG (ST (q08 H G Km Ta25 Ts25 Kf) G ?_);refine q02 H (Y5c bs) G ⟨E,J,V,u,Y,a1,a2⟩ (q00 G) G ?_;intro ce M w H K hR;have E:=E.mono K;have J:=J.mono K;have V:=V.mono K;have u:=u.mono K;have Y:=Y.mono K;have a1:=a1.mono K;have a2:=a2.mono K;try dsimp only at hR
 obtain⟨a7,a8,a9,rfl,O,U,N⟩:=hR;refine MV G G (ST (q05 G G) G (ST (q05 G G) G (q09 [_,_,_] H Tz39 G (q00 G) G ?_)));intro ax w H;refine q09 [_,_] H Tz28 G (q00 G) G ?_;intro ay w H;refine q04 [_,_,_] H G G G Ku Ts39 G Kf (by simp only[l0i,l0u,(O).one.2,(U).one.2,(N).one.2];rfl) (q00 G) ?_;intro w H;refine q04 [_,_] H G G G Ku Ts28 G Kf Kf (q00 G) ?_;intro w H;refine NQ ?_;obtain⟨⟨⟨bt,bu⟩,⟨cf,cg⟩⟩,bb,h⟩:=bnd h;try dsimp only at h
 refine RG (ST (q08 H G Km Ta39 Ts39 Kf) G ?_);refine q02 H (Y8C bb) G ⟨E,J,V,u,Y,O,U,N⟩ (q00 G) G ?_;intro ch M w H K hR;have E:=E.mono K;have J:=J.mono K;have V:=V.mono K;have u:=u.mono K;have Y:=Y.mono K;have a1:=a1.mono K;have a2:=a2.mono K;have O:=O.mono K;have U:=U.mono K;have N:=N.mono K;try dsimp only at hR
 obtain⟨aa,ab,rfl,Z,a0⟩:=hR;refine MV G G (ST (q05 G G) G (ST (q05 G G) G (q09 [_,_] H Tz25 G (q00 G) G ?_)));intro az w H;refine q09 [_,_] H Tz28 G (q00 G) G ?_;intro ci w H;refine q04 [_,_] H G G G Ku Ts25 G Kf (by simp only[l0i,l0u,(Z).one.2,(a0).one.2];rfl) (q00 G) ?_;intro w H;refine q04 [_,_] H G G G Ku Ts28 G Kf Kf (q00 G) ?_;intro w H;refine NQ (SQ ?_);obtain⟨bv,b0,h⟩:=bnd h;refine q0c (fun e w =>∃(b3:Bool) (M:Mem),e=[(1,ptr aw 0),(3,ptr ax 0),(4,ptr ay 0),(5,ptr az 0),(32,Value.bool b3)]/\St w0 M0 M [.blk aw (.cells #[a5,a6] 25), .blk ax (.cells #[a7,a8,a9] 39), .blk ay (.cells #[I n7,I n8] 28), .blk az (.cells #[aa,ab] 25)] w/\Gv2 M/\Gv1 M/\Gv3 M/\Gv0 M/\Tabs M/\SlS M 2 xenc46 a5 p0.1/\Sl M encB a6 p0.2/\SlS M 2 xenc46 a7 l4/\Sl M encB a8 l5/\SlR xrl39 M a9 l6/\SlS M 2 xenc46 aa bt/\Sl M encB ab bu/\some b3=some bv) [] ?_ ?_ (trivial)
 .
  refine RG (ST (q01 Tu28 G Ts3 Dc G) G (ST (XL H Ta3) G ?_));by_cases al:n7=(0:Int)
  .
   rw[l01 al] at b0;refine q0B (v' := .bool false) (q1j G G) (l02 Value.bool (by rw[l0f al];rfl)) (q00 G) G G ?_;refine MV G G (SG (q01 Tu28 G Ts3 Dc G) G G G (SG (XL H Ta3) G G G ?_));refine SG (q1j G G) G G G (PF G G G (NL ?_));exact MN ⟨_,_,G,(H.pick (L':=[.blk aw (.cells #[a5,a6] 25), .blk ax (.cells #[a7,a8,a9] 39), .blk ay (.cells #[I n7,I n8] 28), .blk az (.cells #[aa,ab] 25)]) Kp),E,J,V,u,Y,a1,a2,O,U,N,Z,a0,b0⟩
  rw[l00 al] at b0;refine q0B (v' := .bool true) (q1j G G) (l02 Value.bool (by rw[l0g al];rfl)) (q00 G) G G ?_;refine MV G G (q0i 3 G G (PT G G G (NL ?_)));exact MN ⟨_,_,G,(H.pick (L':=[.blk aw (.cells #[a5,a6] 25), .blk ax (.cells #[a7,a8,a9] 39), .blk ay (.cells #[I n7,I n8] 28), .blk az (.cells #[aa,ab] 25)]) Kp),E,J,V,u,Y,a1,a2,O,U,N,Z,a0,b0⟩
 rintro e w ⟨b3,M,rfl,H,E,J,V,u,Y,a1,a2,O,U,N,Z,a0,bw⟩;obtain rfl:=oI bw;refine TN ?_;refine q0a G (fun au=>?_) (fun au=>?_)
 .
  subst au;rw[l01 rfl] at h;refine SQ ?_;obtain⟨bx,ah,h⟩:=bnd h;refine q0c (fun e w =>∃(b4:Bool) (M:Mem),e=[(2,Value.bool b4)]/\St w0 M0 M [] w/\Gv2 M/\Gv1 M/\Gv3 M/\Gv0 M/\Tabs M/\some b4=some bx) [] ?_ ?_ (trivial)
  .
   refine RG (ST (q01 Tu28 G Ts3 Dc G) G (ST (XL H Ta3) G ?_));by_cases am:n7=(0:Int)
   .
    rw[l01 am] at ah;refine DT am (q0s G G) G (MV G G (q0i 3 G G (PT G G G (AS G G (NL ?_)))));exact MN ⟨_,_,G,(H.pick (L':=[]) Kp),E,J,V,u,Y,ah⟩
   rw[l00 am] at ah;obtain⟨cj,bc,ah⟩:=bnd ah;refine DF am (q0s G G) G (MV G G (SG (q08 H G Km Ta39 Ts39 Kf) G G G ?_));refine SG (q0t [Value.slice none 0 0,Value.slice none 0 0,Value.slice none 0 0] Tu39 Tz39 (xplaces39 Tu39) G G) G G G (q02 H (Y3C bc) G ⟨O,U,N,(q1a _ _ (fun _=>G)),q0U _ _,q1F⟩ (q0h G G G) G ?_);intro ck M w H K hR;have E:=E.mono K;have J:=J.mono K;have V:=V.mono K;have u:=u.mono K;have Y:=Y.mono K;obtain rfl:=hR;refine PF G G G (AS G G (NL ?_));exact MN ⟨_,_,G,(H.pick (L':=[]) Kp),E,J,V,u,Y,ah⟩
  rintro e w ⟨b4,M,rfl,H,E,J,V,u,Y,bz⟩;obtain rfl:=oI bz;refine TN (RT ?_);obtain rfl:=oI h;exact q07 G G H.ext G
 subst au;rw[l00 l03] at h;refine KQ ?_;obtain⟨⟨cm,⟨b8,cn⟩⟩,bd,h⟩:=bnd h;try dsimp only at h
 refine RG (ST (q08 H G Km Ta25 Ts25 Kf) G ?_);refine q02 H (Y2O bd) G ⟨E,J,V,u,Y,a1,a2⟩ (q00 G) G ?_;intro co M w H K hR;have E:=E.mono K;have J:=J.mono K;have V:=V.mono K;have u:=u.mono K;have Y:=Y.mono K;have O:=O.mono K;have U:=U.mono K;have N:=N.mono K;have Z:=Z.mono K;have a0:=a0.mono K;try dsimp only at hR
 obtain⟨c6,rfl,a4⟩:=hR;refine MV G G (ST (q05 G G) G (ST (q05 G G) G (q09 [_,_] H Tz28 G (q00 G) G ?_)));intro cp w H;refine AS G G (q04 [_,_] H G G G Ku Ts28 G Kf Kf (q00 G) ?_);intro w H;refine NQ ?_;obtain⟨⟨cq,⟨b9,cr⟩⟩,be,h⟩:=bnd h;try dsimp only at h
 refine RG (ST (q08 H G Km Ta25 Ts25 Kf) G ?_);refine q02 H (Y2O be) G ⟨E,J,V,u,Y,Z,a0⟩ (q00 G) G ?_;intro ct M w H K hR;have E:=E.mono K;have J:=J.mono K;have V:=V.mono K;have u:=u.mono K;have Y:=Y.mono K;have a4:=a4.mono K;have O:=O.mono K;have U:=U.mono K;have N:=N.mono K;have Z:=Z.mono K;have a0:=a0.mono K;try dsimp only at hR
 obtain⟨c7,rfl,ac⟩:=hR;refine MV G G (ST (q05 G G) G (ST (q05 G G) G (q09 [_,_] H Tz28 G (q00 G) G ?_)));intro ca w H;refine AS G G (q04 [_,_] H G G G Ku Ts28 G Kf Kf (q00 G) ?_);intro w H;refine NQ (SR (ST (q01 Tu39 G Ts37 Dc G) G (ST (XL H Ta37) G ?_)));refine ST (q1e Tu37 N G) G (ST (q0s G G) G (NT ?_));refine CB (p:=(l6.length:Int)=(0:Int)) G (fun av=>?_) fun av=>?_
 .
  rw[l01 av] at h;refine SQ ?_;obtain⟨c0,ad,h⟩:=bnd h;refine q0c (fun e w =>∃(b5:Bool) (M:Mem),e=[(2,Value.bool b5)]/\St w0 M0 M [] w/\Gv2 M/\Gv1 M/\Gv3 M/\Gv0 M/\Tabs M/\some b5=some c0) [] ?_ ?_ (trivial)
  .
   refine RG (ST (q01 Tu28 G Ts3 Dc G) G (ST (XL H Ta3) G ?_));by_cases an:b8=(0:Int)
   .
    rw[l01 an] at ad;refine DT an (q0s G G) G (MV G G (SG (q01 Tu28 G Ts3 Dc G) G G G (SG (XL H Ta3) G G G ?_)));by_cases ao:b9=(0:Int)
    .
     rw[l01 ao] at ad;obtain⟨cu,bg,ad⟩:=bnd ad;refine DU ao (q0s G G) G G G (PT G G G (MV G G (SG (q06 G) G G G (SG (q06 G) G G G (q02 H (Y73 bg) G ⟨a4,ac⟩ (q0h G G G) G ?_)))));intro cv M w H K hR;have E:=E.mono K;have J:=J.mono K;have V:=V.mono K;have u:=u.mono K;have Y:=Y.mono K;obtain rfl:=hR;refine PT G G G (AS G G (NL ?_));exact MN ⟨_,_,G,(H.pick (L':=[]) Kp),E,J,V,u,Y,ad⟩
    rw[l00 ao] at ad;refine DG ao (q0s G G) G G G (PT G G G (MV G G (q0i 3 G G (PF G G G (AS G G (NL ?_))))));exact MN ⟨_,_,G,(H.pick (L':=[]) Kp),E,J,V,u,Y,ad⟩
   rw[l00 an] at ad;refine DF an (q0s G G) G (MV G G (q0i 3 G G (PF G G G (MV G G (q0i 3 G G (PF G G G (AS G G (NL ?_))))))));exact MN ⟨_,_,G,(H.pick (L':=[]) Kp),E,J,V,u,Y,ad⟩
  rintro e w ⟨b5,M,rfl,H,E,J,V,u,Y,c1⟩;obtain rfl:=oI c1;refine TN (RT ?_);obtain rfl:=oI h;exact q07 G G H.ext G
 rw[l00 av] at h;refine KQ ?_;obtain⟨⟨⟨cw,cx,cy⟩,⟨c2,cz⟩⟩,bh,h⟩:=bnd h;try dsimp only at h
 refine RG (ST (q08 H G Km Ta25 Ts25 Kf) G ?_);refine q02 H (Y5c bh) G ⟨E,J,V,u,Y,Z,a0⟩ (q00 G) G ?_;intro d0 M w H K hR;have E:=E.mono K;have J:=J.mono K;have V:=V.mono K;have u:=u.mono K;have Y:=Y.mono K;have a4:=a4.mono K;have ac:=ac.mono K;have N:=N.mono K;have O:=O.mono K;have U:=U.mono K;try dsimp only at hR
 obtain⟨bm,bn,bo,rfl,ai,aj,ak⟩:=hR;refine MV G G (ST (q05 G G) G (ST (q05 G G) G (q09 [_,_,_] H Tz39 G (q00 G) G ?_)));intro cb w H;refine q09 [_,_] H Tz28 G (q00 G) G ?_;intro cc w H;refine q04 [_,_,_] H G G G Ku Ts39 G Kf (by simp only[l0i,l0u,(ai).one.2,(aj).one.2,(ak).one.2];rfl) (q00 G) ?_;intro w H;refine q04 [_,_] H G G G Ku Ts28 G Kf Kf (q00 G) ?_;intro w H;refine NQ ?_;obtain⟨c3,a3,h⟩:=bnd h;refine q0c (fun e w =>∃(b6:Bool) (M:Mem),e=[(2,Value.bool b6)]/\St w0 M0 M [] w/\Gv2 M/\Gv1 M/\Gv3 M/\Gv0 M/\Tabs M/\some b6=some c3) [] ?_ ?_ (trivial)
 .
  refine RG (ST (q01 Tu28 G Ts3 Dc G) G (ST (XL H Ta3) G ?_));by_cases ap:b8=(0:Int)
  .
   rw[l01 ap] at a3;refine DT ap (q0s G G) G (MV G G (SG (q01 Tu28 G Ts3 Dc G) G G G (SG (XL H Ta3) G G G ?_)));by_cases aq:b9=(0:Int)
   .
    rw[l01 aq] at a3;refine DU aq (q0s G G) G G G (PT G G G (MV G G (SG (q01 Tu28 G Ts3 Dc G) G G G (SG (XL H Ta3) G G G ?_))));by_cases ar:c2=(0:Int)
    .
     rw[l01 ar] at a3;obtain⟨c4,bi,a3⟩:=bnd a3;refine DU ar (q0s G G) G G G (PT G G G (MV G G (SG (q08 H G Km Ta39 Ts39 Kf) G G G ?_)));refine SG (q08 H G Km Ta39 Ts39 Kf) G G G ?_;refine q02 H (Y3C bi) G ⟨ai,aj,ak,O,U,N⟩ (q0h G G G) G ?_;intro d1 M w H K hR;have E:=E.mono K;have J:=J.mono K;have V:=V.mono K;have u:=u.mono K;have Y:=Y.mono K;have a4:=a4.mono K;have ac:=ac.mono K;obtain rfl:=hR;refine PT G G G (MV G G ?_);rcases c4 with _|_
     .
      rw[l00 l03] at a3;refine q0i 3 G G (PF G G G (AS G G (NL ?_)));exact MN ⟨_,_,G,(H.pick (L':=[]) Kp),E,J,V,u,Y,a3⟩
     rw[l01 rfl] at a3;obtain⟨d2,bj,a3⟩:=bnd a3;refine SG (q06 G) G G G (SG (q06 G) G G G (q02 H (Y73 bj) G ⟨a4,ac⟩ (q0h G G G) G ?_));intro d3 M w H K hR;have E:=E.mono K;have J:=J.mono K;have V:=V.mono K;have u:=u.mono K;have Y:=Y.mono K;obtain rfl:=hR;refine PT G G G (AS G G (NL ?_));exact MN ⟨_,_,G,(H.pick (L':=[]) Kp),E,J,V,u,Y,a3⟩
    rw[l00 ar] at a3;refine DG ar (q0s G G) G G G (PT G G G (MV G G (q0i 3 G G (PF G G G (MV G G (q0i 3 G G (PF G G G (AS G G (NL ?_)))))))));exact MN ⟨_,_,G,(H.pick (L':=[]) Kp),E,J,V,u,Y,a3⟩
   rw[l00 aq] at a3;refine DG aq (q0s G G) G G G (PT G G G (MV G G (q0i 3 G G (PF G G G (MV G G (q0i 3 G G (PF G G G (MV G G (q0i 3 G G (PF G G G (AS G G (NL ?_))))))))))));exact MN ⟨_,_,G,(H.pick (L':=[]) Kp),E,J,V,u,Y,a3⟩
  rw[l00 ap] at a3;refine DF ap (q0s G G) G (MV G G (q0i 3 G G (PF G G G (MV G G (q0i 3 G G (PF G G G (MV G G (q0i 3 G G (PF G G G (MV G G (q0i 3 G G (PF G G G (AS G G (NL ?_))))))))))))));exact MN ⟨_,_,G,(H.pick (L':=[]) Kp),E,J,V,u,Y,a3⟩
 rintro e w ⟨b6,M,rfl,H,E,J,V,u,Y,c5⟩;obtain rfl:=oI c5;refine TN (RT ?_);obtain rfl:=oI h;exact q07 G G H.ext G
end Go.Proofs.YtkgohbecojnfaaaGreatDoor
end
section
namespace Go.Ph.Qp
open Go
def digs : Ls:=[48,49,50,51,52,53,54,55,56,57,65,66,67,68,69,70]
def dig (n:Nat):UInt8:=digs.getD (n % 16) 0
def hexV (c:UInt8):Option Nat :=
 if 48<=c.toNat/\c.toNat<=57 then some (c.toNat-48) else if 65<=c.toNat/\c.toNat<=70 then some (c.toNat-55) else if 97<=c.toNat/\c.toNat<=102 then some (c.toNat-87) else none
abbrev bl (c:UInt8):Prop:=c.toNat=32∨c.toNat=9
abbrev lineAt (l:Ls):Prop:=l.take 2=[13,10]
abbrev lit (c:UInt8)(r:Ls):Prop:=(33<=c.toNat/\c.toNat<=126/\c.toNat≠61)∨(bl c/\¬(r=[]∨lineAt r))
def hex (c:UInt8):Ls:=[61,dig (c.toNat / 16),dig c.toNat]
def sg (c:UInt8)(r:Ls):Ls:=if lit c r then [c] else hex c
def most (r:Ls):Nat:=if r≠ []/\¬lineAt r then 75 else 76
def encF : Nat->Nat->Ls->Ls
 | 0,_,_=>[]
 | _+1,_,[]=>[]
 | f+1,col,c::r =>
   if lineAt (c::r) then 13::10::encF f 0 (r.drop 1)
   else if most r<col+(sg c r).length then [61,13,10]++(sg c r++encF f (sg c r).length r) else sg c r++encF f (col+(sg c r).length) r
def enc (col:Nat)(l:Ls):Ls:=encF l.length col l
def esc (l:Ls):Option UInt8 :=
 if l[0]? = some 61 then match (l[1]?).bind hexV,(l[2]?).bind hexV with
  | some x,some y=>some (UInt8.ofNat (16*x+y))
  | _,_=>none
 else none
def plainF : Nat->Ls->Ls
 | 0,_=>[]
 | _+1,[]=>[]
 | f+1,c::r=>match esc (c::r) with
   | some x=>x::plainF f (r.drop 2)
   | none=>c::plainF f r
def plain (l:Ls):Ls:=plainF l.length l
def trimR (l:Ls):Ls:=(l.reverse.dropWhile (fun c=>decide (bl c))).reverse
def chop (x:UInt8)(l:Ls):Ls:=if l.getLast? = some x then l.dropLast else l
def body (s:Ls):Ls:=if s.getLast? = some 10 then chop 13 s.dropLast else s
def one (s:Ls):Ls:=if (trimR (body s)).getLast? = some 61 then plain (trimR (body s)).dropLast else plain (trimR (body s))++s.drop (body s).length
theorem Y66 {P:Ls}{c:UInt8}(h :¬bl c):trimR (P++[c])=P++[c]:=by
 unfold trimR;rw[List.reverse_append,List.reverse_singleton,l1z,l1N (by simpa using h),List.reverse_cons,List.reverse_reverse]
theorem Y9k : trimR []=[]:=rfl
theorem Y7F {X Y:Ls}(h :∀c∈Y,bl c):trimR (X++Y)=trimR X:=by
 unfold trimR;rw[List.reverse_append,List.dropWhile_append_of_pos (fun c hc=>by simpa using h c (List.mem_reverse.1 hc))]
end Go.Ph.Qp
end
section
namespace Go.Ph.Fd
open Go Go.Ph.Qp
def bk (s:Ls)(i:Nat):Bool:=match s[i-1]?,s[i]? with
 | some a,some b=>decide (0<i/\bl b/\¬bl a)
 | _,_=>false
theorem bk_at {s:Ls}{i:Nat}{a b:UInt8}(u:0<i)(ha:s[i-1]? = some a)(hb:s[i]? = some b):bk s i=decide (bl b/\¬bl a):=by
 unfold bk;rw[ha,hb];simp [u]
theorem Y8K (s:Ls)(a i:Nat)(hi:0<i):bk (s.drop a) i=bk s (a+i):=by
 unfold bk;rw[l1o,l1o,show a+(i-1)=a+i-1 by omega];have:0<a+i:=by omega
 simp [hi,this]
def sc (s:Ls):Nat->Nat->Nat->Nat
 | 0,_,best=>best
 | f+1,i,best=>if bk s i then(if best=0∨i<=78 then sc s f (i+1) i else sc s f (i+1) best) else sc s f (i+1) best
theorem Y9Y (s:Ls):∀(f i best:Nat),0<best->78<i->sc s f i best=best:=by
 intro f;induction f with
 | zero=>intro i best _ _;rfl
 | succ f ih =>
   intro i best u E;rw[sc];split
   . rw[l00 Om,ih _ _ u Om]
   exact ih _ _ u Om
def pt (s:Ls)(k:Nat):Nat:=sc s (s.length-k) k 0
theorem sc_le (s:Ls):∀(f i best:Nat),sc s f i best=best∨(i<=sc s f i best/\sc s f i best<i+f/\bk s (sc s f i best)=true):=by
 intro f;induction f with
 | zero=>intro i best;exact .inl rfl
 | succ f ih =>
   intro i best;rw[sc];split
   . rename_i hb;split
     . rcases ih (i+1) i with h|⟨E,J,u⟩
       . exact .inr ⟨by omega,by omega,by rw[h];exact hb⟩
       exact .inr ⟨by omega,by omega,u⟩
     rcases ih (i+1) best with h|⟨E,J,u⟩
     . exact .inl h
     exact .inr ⟨by omega,by omega,u⟩
   rcases ih (i+1) best with h|⟨E,J,u⟩
   . exact .inl h
   exact .inr ⟨by omega,by omega,u⟩
theorem pt_lt {s:Ls}{k:Nat}(hk:0<k)(h:pt s k≠0):k<=pt s k/\pt s k<s.length/\bk s (pt s k)=true:=by
 unfold pt at h ⊢;rcases sc_le s (s.length-k) k 0 with u|⟨u,J,E⟩
 . exact absurd u h
 exact⟨u,by omega,E⟩
def flF : Nat->Ls->Nat->List Ls
 | 0,s,_=>[s]
 | f+1,s,k=>if 78<s.length/\pt s k≠0 then s.take (pt s k)::flF f (s.drop (pt s k)) 1 else [s]
theorem Yau :∀(f g:Nat) (s:Ls) (k:Nat),0<k->s.length<=f->s.length<=g->flF f s k=flF g s k:=by
 intro f;induction f with
 | zero =>
   intro g s k hk hf hg;cases g with
   | zero=>rfl
   | succ g=>rw[flF,flF,l00 Om]
 | succ f ih =>
   intro g s k hk hf hg;cases g with
   | zero=>rw[flF,flF,l00 Om]
   | succ g =>
     rw[flF,flF];split
     . rename_i h;have u:=pt_lt hk h.2;rw[ih g _ 1 Om Ox Ox]
     rfl
def fl (s:Ls)(k:Nat):List Ls:=flF s.length s k
theorem Y5A {s:Ls}{k:Nat}(hk:0<k)(h:78<s.length/\pt s k≠0):fl s k=s.take (pt s k)::fl (s.drop (pt s k)) 1:=by
 have u:=pt_lt hk h.2;unfold fl;rw[Yau s.length (s.length-1+1) s k hk (l0b _) Om,flF,l01 h,Yau _ (s.drop (pt s k)).length _ 1 Om Ox (l0b _)]
theorem Y5t {s:Ls}{k:Nat}(h :¬(78<s.length/\pt s k≠0)):fl s k=[s]:=by
 unfold fl;cases hl:s.length with
 | zero=>rfl
 | succ n=>rw[flF,l00 h]
theorem Y7G :∀(n:Nat) (s:Ls) (k:Nat),0<k->s.length<=n->(fl s k).flatten=s:=by
 intro n;induction n with
 | zero =>
   intro s k _ h;obtain rfl:=l0e (l1u.1 h);rfl
 | succ n ih =>
   intro s k hk h;by_cases hc:78<s.length/\pt s k≠0
   . have u:=pt_lt hk hc.2;rw[Y5A hk hc,l1c,ih _ 1 Om Ox,l0X]
   rw[Y5t hc];simp
def step (at_:Nat)(best:Int)(p:Nat):Int:=if at_<p/\((p:Int)-(at_:Int)<=78∨best<0) then(p:Int) else best
end Go.Ph.Fd
end
section
namespace Go.Ph.Pl
end Go.Ph.Pl
end
section
section
namespace Go.Ph.Wd
open Go.Ph.Pl Go.Ph.Pf
open Go.Ph.Gr (chars Ch pieces byts)
open Go.Ph.Chs (vld utf8)
theorem foldI {α σ γ:Type}{L:Nat->σ->Int->Option γ}(l:List α)(F:σ->α->σ)(fin:σ->γ)(I:Nat->σ->Prop)
 (hend :∀m s,I l.length s->L (m+1) s (l.length:Int)=some (fin s))
 (hstep :∀m s i a,l[i]? = some a->I i s->I (i+1) (F s a)/\L (m+1) s (i:Int)=L m (F s a) ((i+1:Nat):Int)) :
 ∀(d i:Nat) (s:σ) (m:Nat),l.length-i=d->i<=l.length->d<m->I i s->L m s (i:Int)=some (fin ((l.drop i).foldl F s)):=by
 intro d;induction d with
 | zero =>
   intro i s m u E J hI;obtain⟨m,rfl⟩ :∃k,m=k+1:=⟨m-1,by omega⟩
   obtain rfl:i=l.length:=by omega
   rw[hend m s hI,l0I];rfl
 | succ d ih =>
   intro i s m u E J hI;obtain⟨m,rfl⟩ :∃k,m=k+1:=⟨m-1,by omega⟩
   have hi:i<l.length:=by omega
   obtain⟨hI',hL⟩:=hstep m s i l[i] (l06 hi) hI;rw[hL,ih (i+1) _ m Om Om Om hI',l0r hi];rfl
theorem foldI0 {α σ γ:Type}{L:Nat->σ->Int->Option γ}(l:List α)(F:σ->α->σ)(fin:σ->γ)(I:Nat->σ->Prop)(hl:l.length<=9223372036854775807)
 (hend :∀m s,I l.length s->L (m+1) s (l.length:Int)=some (fin s))
 (hstep :∀m s i a,l[i]? = some a->I i s->I (i+1) (F s a)/\L (m+1) s (i:Int)=L m (F s a) ((i+1:Nat):Int)) (s:σ) (u:I 0 s):L FU s 0=some (fin (l.foldl F s)):=by
 have:=foldI l F fin I hend hstep l.length 0 s FU Om Om (FU_gt hl) u;simpa using this
theorem Y42 {α β:Type}(f:α->List β):∀(l:List α) (o:List β),l.foldl (fun o a=>o++f a) o=o++l.flatMap f
 | [],o=>by simp
 | a::l,o=>by rw[l1H,Y42 f l];simp
def blk (c:UInt8):Bool:=decide (c=32∨c=9)
theorem Yav (c:UInt8):Y22 c=some (blk c):=by
 unfold Y22 blk;by_cases h:c=32
 . rw[l01 h,bsome,l0f (.inl h)]
 rw[l00 h,bsome];simp [h]
def hexd : Ls:=[48,49,50,51,52,53,54,55,56,57,65,66,67,68,69,70]
def hx (n:Nat):UInt8:=hexd.getD n 0
theorem allB {p:UInt8->Prop}(h :∀n,n<256->p (UInt8.ofNat n))(c:UInt8):p c:=by
 have:=h c.toNat c.toNat_lt;rwa [UInt8.ofNat_toNat] at this
inductive Good : Ls->Prop
 | nil:Good []
 | one {c:UInt8} {t:Ls} (u:c≠13) (E:c≠10) (h:Good t):Good (c::t)
 | crlf {t:Ls} (h:Good t):Good (13::10::t)
theorem Good.app {a b:Ls}(h:Good a)(k:Good b):Good (a++b):=by
 induction h with
 | nil=>exact k
 | one u E _ ih=>exact .one u E ih
 | crlf _ ih=>exact .crlf ih
def fre (l:Ls):Prop :=∀c∈l,c≠13/\c≠10
def keep (c:UInt8):Bool:=decide (c≠13/\c≠10)
theorem Good.index {s:Ls}(h:Good s):(Lib.index s [13,10] = -1/\fre s)∨∃i:Nat,Lib.index s [13,10]=(i:Int)/\fre (s.take i)/\Good (s.drop (i+2))/\i+2<=s.length/\s.filter keep=s.take i++(s.drop (i+2)).filter keep:=by
 induction h with
 | nil=>exact .inl ⟨rfl,fun c hc=>by cases hc⟩
 | @one c t u E h ih =>
   have hp:([13,10]:Ls).isPrefixOf (c::t)=false:=by simp [List.isPrefixOf,Ne.symm u]
   have hk:keep c=true:=l0f ⟨u,E⟩;rcases ih with ⟨J,K⟩|⟨i,J,K,N,U,O⟩
   . refine .inl ⟨by rw[Lib.index,hp,J];rfl,fun x hx=>?_⟩;rcases l0k.1 hx with rfl|hx
     . exact⟨u,E⟩
     exact K x hx
   refine .inr ⟨i+1,?_,fun x hx=>?_,?_,by rw[l04];omega,?_⟩
   . rw[Lib.index,hp,J];have:((i:Int) == -1)=false:=by simp
     rw[this];simp
   . rw[l2L] at hx;rcases l0k.1 hx with rfl|hx
     . exact⟨u,E⟩
     exact K x hx
   . rw[show i+1+2=(i+2)+1 by omega,l1E];exact N
   rw[l3g hk,O,l2L,show i+1+2=(i+2)+1 by omega,l1E];rfl
 | @crlf t h ih =>
   refine .inr ⟨0,by rw[Lib.index];simp [List.isPrefixOf],fun x hx=>(by cases hx),h,by simp,?_⟩;rw[l2T,l1E,l1E,l0E,l2o Dc,l2o Dc];rfl
theorem Y7J {α β:Type}(f:α->List β)(n:Nat):∀(l:List α),(∀a∈l,(f a).length<=n)->(l.flatMap f).length<=n*l.length
 | [],_=>by simp
 | a::l,h=>by
   have u:=h a Sm;have E:=Y7J f n l (fun x hx=>h x (by simp [hx]));simp only[l0v,l05,l04,Nat.mul_succ];omega
end Go.Ph.Wd
end
section
namespace Go.Ph.Pf
open Go.Ph.Pl Go.Ph.Qp Go.Ph.Fd
abbrev Big (l:Ls):Prop:=l.length<=140737488355328
theorem Y34 (c:UInt8):Y22 c=some (decide (bl c)):=by
 unfold Y22 bl;have u:(c=32)↔c.toNat=32:=u8_lit c 32;have E:(c=9)↔c.toNat=9:=u8_lit c 9;by_cases h:c=32
 . simp [h]
 rw[l00 h];have h' :¬c.toNat=32:=fun x=>h (u.2 x)
 simp [h',E]
theorem Y9b (l:Ls)(hl:Big l)(g:UInt8->Option Bool)(p:UInt8->Bool)(hg :∀c,g c=some (p c)):Y3f l g=some (l.all p):=by
 unfold Y3f;rw[scan0 (L:=Y1X l g) (l:=l) (p:=fun c => !p c) (stop := .inl ()) (r := .inr false) (FU_gt Om) (fun m=>by rw[Y1X,l00 Om]) (fun m i h=>by
  rw[Y1X,l01 Om,idx_nat,l06 h,chk_succ (by have:=hl;omega)];simp only[bsome,hg];cases p l[i] <;> simp)]
 simp only[bsome];rw[List.all_eq_not_any_not];cases l.any (fun c => !p c) <;> simp
def nmB (c:UInt8):Bool:=decide (33<=c.toNat/\c.toNat<=126/\c.toNat≠58)
theorem Y8b (c:UInt8):Y4C c=some (nmB c):=by
 unfold Y4C nmB;have e:(c=58)↔c.toNat=58:=u8_lit c 58;by_cases u:33<=c.toNat <;> by_cases E:c.toNat<=126 <;> by_cases J:c.toNat=58 <;> simp [u,E,J,e]
def nmL (l:Ls):Bool:=l.all nmB&&decide (1<=l.length/\l.length<=60)
theorem Y9c (l:Ls)(hl:Big l):Y5P l=some (nmL l):=by
 unfold Y5P nmL;by_cases h:l=[]
 . subst h;rfl
 have hpos:1<=l.length:=by cases l <;> simp_all
 rw[l00 h];by_cases u:l.length<=60
 . rw[l01 Om,Y9b l hl _ nmB Y8b];simp [hpos,u]
 rw[l00 Om];simp [u]
def endB (c:UInt8):Bool:=decide (c.toNat=13∨c.toNat=10∨c.toNat=0)
def trimL (l:Ls):Ls:=l.dropWhile (fun c=>decide (bl c))
theorem YbG : trimL []=[]:=rfl
theorem Y5u {c:UInt8}{r:Ls}(h:bl c):trimL (c::r)=trimL r:=by unfold trimL;rw [l2x (by simpa using h)]
theorem Y4P {c:UInt8}{r:Ls}(h :¬bl c):trimL (c::r)=c::r:=by unfold trimL;rw [l1N (by simpa using h)]
theorem YbH (l:Ls):(trimL l).length<=l.length:=(l3k _).length_le
theorem Y6M (l:Ls):(trimR l).length<=l.length:=by
 unfold trimR;rw [List.length_reverse];have:=(l3k (l:=l.reverse) (fun c=>decide (bl c))).length_le;simpa using this
theorem Y35 (l:Ls):l=[]∨∃a c,l=a++[c]:=by
 rcases l3q l with h|⟨a,c,h⟩
 . exact .inl h
 exact .inr ⟨a,c,by rw[h,List.concat_eq_append]⟩
theorem Y68 {a:Ls}{c:UInt8}(h:bl c):trimR (a++[c])=trimR a:=Y7F (fun x hx=>by simp at hx;rw [hx];exact h)
theorem Y53 {a:Ls}{c:UInt8}(h :¬bl c):trimR (a++[c])=a++[c]:=Y66 h
theorem Y61 :∀(n:Nat) (l:Ls),l.length<=n->trimR (trimL l)=trimL (trimR l)
 | 0,l,h=>by obtain rfl:l=[]:=l0e Om;rfl
 | n + 1,l,h=>by
   cases l with
   | nil=>rfl
   | cons c r =>
     by_cases hc:bl c
     . rw[Y5u hc,Y61 n r (by simpa using h)];rcases Y35 r with rfl|⟨a,d,rfl⟩
       . have:trimR [c]=[]:=by have:=Y68 (a:=[]) hc;simpa [Y9k] using this
         rw[this];rfl
       by_cases hd:bl d
       . rw[<-l09,Y68 hd,Y68 hd];have ih:=Y61 n (c::a) (by simp at h ⊢;omega);rw[<-ih,Y5u hc,Y61 n a (by simp at h;omega)]
       rw[<-l09,Y53 hd,Y53 hd,l09,Y5u hc]
     rw[Y4P hc];rcases Y35 r with rfl|⟨a,d,rfl⟩
     . have:trimR [c]=[c]:=by have:=Y53 (a:=[]) hc;simpa using this
       rw[this,Y4P hc]
     by_cases hd:bl d
     . rw[<-l09,Y68 hd];have ih:=Y61 n (c::a) (by simp at h ⊢;omega);rw[Y4P hc] at ih;rw[<-ih]
     rw[<-l09,Y53 hd,l09,Y4P hc]
def trimB (l:Ls):Ls:=trimR (trimL l)
theorem Y6N : Y0j [32,9]=some ((List.range 256).map (fun n=>decide (n=32∨n=9)),true):=by decide +kernel
theorem set_end : Y0j [13,10,0]=some ((List.range 256).map (fun n=>decide (n=13∨n=10∨n=0)),true):=by decide +kernel
theorem Y4Q (f:Nat->Bool)(c:UInt8):Y0d ((List.range 256).map f) c=some (f c.toNat):=by
 have hc:=c.toNat_lt;unfold Y0d idxA;rw[l01 Sm,idx_nat,l0H,l2Y Om];rfl
theorem Y7K :∀(k m:Nat) (l:Ls),l.length<=k->k<m->Big l->Y0m ((List.range 256).map (fun n=>decide (n=32∨n=9))) m l=some (trimR l)
 | k,m,l,u,J,E=>by
   obtain⟨m,rfl⟩ :∃k,m=k+1:=⟨m-1,by omega⟩
   rcases Y35 l with rfl|⟨a,c,rfl⟩
   . rw[Y0m,l00 Sm];rfl
   have hl:(a++[c]).length=a.length+1:=by simp
   simp only[Big,hl] at E;rw[Y0m,l01 (by rw[hl];omega),hl,show ((a.length+1:Nat):Int)-1=((a.length:Nat):Int) by omega,chk_ok Om Om];simp only[bsome];rw[idx_nat,l0L (l0b _)];simp only[l1D,l1b,bsome,Y4Q];by_cases hc:bl c
   . rw[l0f (show c.toNat=32∨c.toNat=9 from hc),l01 rfl,cut_to rfl (by rw[hl];omega)];simp only[bsome,l1p];cases k with
     | zero=>rw[hl] at u;omega
     | succ k=>rw[Y7K k m a (by rw[hl] at u;omega) Om (by unfold Big;omega),Y68 hc]
   rw[l0g (show ¬(c.toNat=32∨c.toNat=9) from hc),l00 Sm,Y53 hc]
theorem Y62 :∀(k m:Nat) (l:Ls),l.length<=k->k<m->Big l->Y09 ((List.range 256).map (fun n=>decide (n=32∨n=9))) m l=some (trimL l)
 | k,m,l,u,J,E=>by
   obtain⟨m,rfl⟩ :∃k,m=k+1:=⟨m-1,by omega⟩
   cases l with
   | nil=>rw[Y09,l00 Sm];rfl
   | cons c r =>
     rw[Y09,l01 Ol,show (0:Int)=((0:Nat):Int) from rfl,idx_nat];simp only[bsome,l1b,Y4Q];by_cases hc:bl c
     . rw[l0f (show c.toNat=32∨c.toNat=9 from hc),l01 rfl,cut_from (i:=1) (a:=1) rfl Sm];simp only[bsome,l1E,l0E];cases k with
       | zero=>simp at u
       | succ k=>rw[Y62 k m r (by simpa using u) Om (by simp only[Big,l04] at E ⊢;omega),Y5u hc]
     rw[l0g (show ¬(c.toNat=32∨c.toNat=9) from hc),l00 Sm,Y4P hc]
theorem Y8L : chkA 256 (List.replicate 256 false:List Bool)=some (List.replicate 256 false):=chkA_ok l2W
theorem Ya0 (f:Nat->Bool):chkA 256 ((List.range 256).map f)=some ((List.range 256).map f):=chkA_ok (by rw[l0w,l2z])
theorem Y7B (l:Ls)(hl:Big l):Y4h l [32,9]=some (trimB l):=by
 unfold Y4h;by_cases h:l=[]
 . subst h;rfl
 rw[l00 h];simp only[bsome,show (decide (([32,9]:Ls)=[]))=false from rfl,l0y,if_false];rw[l00 Dc];simp only[bsome,l0y,if_false,Y6N,Y8L,Ya0,if_true];unfold Y12 Y1n;rw[Y7K l.length FU l (l0b _) (FU_gt Om) hl];simp only[bsome];have:=Y6M l;rw[Y62 (trimR l).length FU (trimR l) (l0b _) (FU_gt Om) (by unfold Big;omega)];simp only[bsome];rw[trimB,Y61 l.length l (l0b _)]
theorem Yaw (l:Ls):1<=(Utf.dr l).2/\(Utf.dr l).2<=4/\(Utf.nat l 0<128->(Utf.dr l).1=Utf.nat l 0/\(Utf.dr l).2=1)/\(128<=Utf.nat l 0->128<=(Utf.dr l).1)/\
 (2<=(Utf.dr l).2->128<=Utf.nat l 1/\1<l.length)/\(3<=(Utf.dr l).2->128<=Utf.nat l 2/\2<l.length)/\(4<=(Utf.dr l).2->128<=Utf.nat l 3/\3<l.length)/\(Utf.dr l).1<=1114111:=by
 have u:=Utf.nat_lt l 0;have E:=Utf.nat_lt l 1;have J:=Utf.nat_lt l 2;have K:=Utf.nat_lt l 3;unfold Utf.dr Lib.decodeN;split
 . refine⟨by omega,by omega,fun _=>⟨G,G⟩,fun h=>by omega,fun h=>by omega,fun h=>by omega,fun h=>by omega,by omega⟩
 split
 . split <;> simp only[] <;> omega
 split
 . split <;> simp only[] <;> omega
 split
 . split <;> simp only[] <;> omega
 simp only[];omega
theorem endB_lt {c:UInt8}(h:endB c=true):c.toNat<128:=by unfold endB at h;rw [decide_eq_true_eq] at h;omega
theorem any_rune {l:Ls}{ps:Nat}(h:ps<l.length):(l.drop ps).any endB=(decide ((Utf.dr (l.drop ps)).1=13∨(Utf.dr (l.drop ps)).1=10∨(Utf.dr (l.drop ps)).1=0) ||(l.drop (ps+(Utf.dr (l.drop ps)).2)).any endB):=by
 obtain⟨Y,Z,U,V,u,E,N,a8⟩:=Yaw (l.drop ps);have hl:(l.drop ps).length=l.length-ps:=l08;have hn :∀j,ps+j<l.length->Utf.nat (l.drop ps) j=(l[ps+j]?.getD 0).toNat:=fun j hj=>by rw[Utf.nat_drop];unfold Utf.nat;rw [l0Q]
 have hnb :∀j (hj:ps+j<l.length),128<=Utf.nat (l.drop ps) j->endB l[ps+j]=false:=fun j hj J=>by
  rw[hn j hj,l06 hj] at J;cases hb:endB l[ps+j] with
  | false=>rfl
  | true=>have:=endB_lt hb;simp at J;omega
 have hd :∀j,ps+j<l.length->(l.drop (ps+j)).any endB=((l[ps+j]?.elim false endB) ||(l.drop (ps+j+1)).any endB):=fun j hj=>by
  rw[drop_cons hj,l2M,l06 hj];rfl
 have hfirst:(l[ps]?.elim false endB)=decide ((Utf.dr (l.drop ps)).1=13∨(Utf.dr (l.drop ps)).1=10∨(Utf.dr (l.drop ps)).1=0):=by
  rw[l06 h];have K:=hn 0 Om;rw[l1M,l06 h] at K;simp only[l2f] at K;show endB l[ps]=_
  rcases l1r (Utf.nat (l.drop ps) 0) 128 with hc|hc
  . rw[(U hc).1,K];rfl
  have:=hnb 0 Om hc;simp only[l1M] at this;rw[this];have:=V hc;exact(l0g Om).symm
 have O:=hd 0 Om;simp only[l1M] at O;rw[O,hfirst];congr 1;have skip :∀j,ps+j<l.length->128<=Utf.nat (l.drop ps) j->(l.drop (ps+j)).any endB=(l.drop (ps+j+1)).any endB:=fun j hj J=>by
  rw[hd j hj,l06 hj];show(endB l[ps+j] || _)=_
  rw[hnb j hj J,l1V]
 rcases(show(Utf.dr (l.drop ps)).2=1∨(Utf.dr (l.drop ps)).2=2∨(Utf.dr (l.drop ps)).2=3∨(Utf.dr (l.drop ps)).2=4 by omega) with e|e|e|e
 . rw[e]
 . rw[e,skip 1 Om (u Om).1]
 . rw[e,skip 1 (by have:=(u Om).2;omega) (u Om).1,skip 2 (by have:=(E Om).2;omega) (E Om).1]
 rw[e,skip 1 (by have:=(u Om).2;omega) (u Om).1,skip 2 (by have:=(E Om).2;omega) (E Om).1,skip 3 (by have:=(N Om).2;omega) (N Om).1]
theorem Ya1 {a:Int}(u:128<=a)(E:a<256):128<=(Ph.ub a).toNat:=by
 unfold Ph.ub;rw[UInt8.toNat_ofNat'];omega
theorem Ybx {r:Int}(h:128<=r):2<=(Chs.utf8 r).length/\(Chs.utf8 r).length<=4/\∀c∈Chs.utf8 r,128<=c.toNat:=by
 have hf:128<=Chs.fixN r:=by unfold Chs.fixN;split <;> omega
 have hk:=Chs.fixN_ok r;unfold Chs.utf8 Chs.utf8M;rw[l00 Om];split
 . refine⟨by simp,by simp,fun c hc=>?_⟩;simp only[l0k,l1x,or_false] at hc;rcases hc with rfl|rfl <;> exact Ya1 Om Om
 split
 . refine⟨by simp,by simp,fun c hc=>?_⟩;simp only[l0k,l1x,or_false] at hc;rcases hc with rfl|rfl|rfl <;> exact Ya1 Om Om
 refine⟨by simp,by simp,fun c hc=>?_⟩;simp only[l0k,l1x,or_false] at hc;rcases hc with rfl|rfl|rfl|rfl <;> exact Ya1 Om Om
theorem ix_low :∀n:Nat,n<128->decide ((0:Int)<=ixB [13,10,0] (ub8 (n:Int)))=decide (n=13∨n=10∨n=0):=by decide +kernel
theorem ix_high :∀k,k<4->∀n,n<256->128<=n->ixB (([13,10,0]:Ls).drop k) (UInt8.ofNat n) = -1:=by decide +kernel
theorem IndexRune_end (r:Nat):∃n,Y2h [13,10,0] (r:Int)=some n/\decide ((0:Int)<=n)=decide (r=13∨r=10∨r=0):=by
 unfold Y2h;rw[l01 Om];simp only[bsome];by_cases J:r<128
 . rw[l0f Om,l01 rfl];exact⟨_,G,ix_low r J⟩
 rw[l0g Om,l00 Sm,l0g (show ¬(r=13∨r=10∨r=0) by omega)];have neg :∀{x:Option Int},x=some (-1)->∃n,x=some n/\decide ((0:Int)<=n)=false:=fun h=>⟨-1,h,by decide⟩
 refine neg ?_;by_cases E:(r:Int)=65533
 . rw[l01 E];decide +kernel
 rw[l00 E];have hv :∃b,Y2z (r:Int)=some b:=by
  unfold Y2z;rw[l01 Om];simp only[bsome];split
  . exact⟨_,G⟩
  split
  . simp only[bsome];split <;> exact⟨_,rfl⟩
  simp only[bsome];exact ⟨_,rfl⟩
 obtain⟨b,hb⟩:=hv;rw[hb];simp only[bsome];cases b with
 | false=>rfl
 | true =>
   rw[l01 rfl];obtain⟨N,O,K⟩:=Ybx (r:=(r:Int)) Om;rw[show ((Chs.utf8 (r:Int)).length:Int)-1=(((Chs.utf8 (r:Int)).length-1:Nat):Int) by omega,chk_ok Om Om];simp only[bsome];generalize hk:(Chs.utf8 (r:Int)).length-1=k;rw[show FU=18446744073709551615+1 from rfl,Y25];have hkl:k<(Chs.utf8 (r:Int)).length:=by omega
   have hc:=K _ (l0N hkl);by_cases u:k<3
   . rw[l01 Ow,idx_nat,idx_nat,l06 hkl,l06 (show k<([13,10,0]:Ls).length from u)];simp only[bsome];have hne :¬(([13,10,0]:Ls)[k]'u=(Chs.utf8 (r:Int))[k]):=by
      intro he;rw[<-he] at hc;have :∀k (h:k<3),(([13,10,0]:Ls)[k]'h).toNat<128:=by decide
      have:=this k u;omega
     rw[l00 hne,chk_succ Om];simp only[bsome];rw[cut_from rfl Ow];simp only[bsome];unfold Y1j;have hx:=ix_high (k+1) Om ((Chs.utf8 (r:Int))[k]).toNat (UInt8.toNat_lt _) hc;rw[UInt8.ofNat_toNat] at hx;rw[hx];simp only[bsome];rw[l01 Om];simp only[bsome]
   rw[l00 Ow];simp only[bsome]
theorem IndexAny_L2_end (l:Ls):∀(k ps m:Nat),l.length-ps<=k->k<m->∃o,Y0P l [13,10,0] m ps=some o/\((l.drop ps).any endB=true->∃n,o = .inr n/\0<=n)/\((l.drop ps).any endB=false->o = .inl ())
 | k,ps,m,J,K=>by
   obtain⟨m,rfl⟩ :∃k,m=k+1:=⟨m-1,by omega⟩
   by_cases h:ps<l.length
   . rw[Y0P,l01 h];obtain⟨n,E,u⟩:=IndexRune_end (Utf.dr (l.drop ps)).1;rw[E];simp only[bsome];rw[any_rune h];by_cases hc:0<=n
     . rw[l01 hc];rw[l0f hc] at u;rw[<-u];exact⟨_,G,fun _=>⟨_,G,by omega⟩,fun h=>by simp at h⟩
     rw[l00 hc];rw[l0g hc] at u;rw[<-u,l1V];have hs:=(Yaw (l.drop ps)).1;cases k with
     | zero=>omega
     | succ k=>exact IndexAny_L2_end l k (ps+(Utf.dr (l.drop ps)).2) m Om Om
   rw[Y0P,l00 h,l2c Om];exact⟨_,G,fun h=>by simp at h,fun _=>G⟩
theorem Y9d (l:Ls)(hl:Big l):Y5Q l=some (l.any endB):=by
 unfold Y5Q Y1K Y2s Y0J;rw[l00 Dc,l00 Dc];simp only[bsome];by_cases O:8<l.length
 . rw[l0f Om,l01 rfl,set_end];simp only[bsome,Y8L,Ya0,if_true];rcases scanP (Y0O l ((List.range 256).map (fun n=>decide (n=13∨n=10∨n=0)))) l (fun i c=>if endB c=true then some (Sum.inr (i:Int)) else none) (.inl ()) (fun m=>by rw[Y0O,l00 Om]) (fun m i h=>by
    rw[Y0O,l01 Om,idx_nat,l06 h,chk_succ (by have:=hl;omega)];simp only[bsome,Y4Q];show(if endB l[i]=true then _ else _)=_
    by_cases he:endB l[i]=true
    . rw[l01 he,l01 he]
    rw[l00 he,l00 he]) l.length 0 FU Om (FU_gt Om) Om with ⟨j,hj,r,E,u,U,J⟩|⟨E,u⟩
   . rw[show ((0:Nat):Int)=0 from rfl] at J;rw[J];split at u
     . rename_i he;cases u;have:l.any endB=true:=l2i.2 ⟨_,l0N hj,he⟩;rw[this];simp only[bsome];rw[l0f Om]
     cases u
   rw[show ((0:Nat):Int)=0 from rfl] at u;rw[u];have:l.any endB=false:=by
    rw[l1s];intro c hc;obtain⟨i,hi,rfl⟩:=l2a hc;have:=E i hi Om;intro he;rw[l01 he] at this;cases this
   rw[this];simp only[bsome];rfl
 rw[l0g Om,l00 Sm];simp only[bsome];obtain⟨o,ho,K,N⟩:=IndexAny_L2_end l l.length 0 FU Om (FU_gt Om);rw[l0E] at K N;rw[ho];simp only[bsome];cases hb:l.any endB with
 | true =>
   obtain⟨n,rfl,hn⟩:=K hb;simp only[bsome];rw[l0f hn]
 | false =>
   rw[N hb];simp only[bsome];rfl
theorem Y8h (l:Ls):trimB l=l↔(l=[]∨((∀c,l.head? = some c->¬bl c)/\(∀c,l.getLast? = some c->¬bl c))):=by
 unfold trimB;cases l with
 | nil=>simp [YbG,Y9k]
 | cons c r =>
   constructor
   . intro h;have hc :¬bl c:=by
      intro hb;rw[Y5u hb] at h;have u:=Y6M (trimL r);have E:=YbH r;rw[h] at u;simp at u;omega
     rw[Y4P hc] at h;refine .inr ⟨fun d hd=>by simp at hd;rw [<-hd];exact hc,fun d hd hb=>?_⟩;rcases Y35 (c::r) with J|⟨a,x,hax⟩
     . cases J
     rw[hax] at hd h;simp at hd;subst hd;rw[Y68 hb] at h;have:=Y6M a;rw[h] at this;simp at this;omega
   rintro(h|⟨u,E⟩)
   . cases h
   rw[Y4P (u c rfl)];rcases Y35 (c::r) with J|⟨a,x,hax⟩
   . cases J
   rw[hax] at E ⊢;exact Y53 (E x Sm)
def valB (l:Ls):Bool := !l.any endB&&decide (trimB l=l)
theorem Y8D (l:Ls)(hl:Big l):Y5h l=some (valB l):=by
 unfold Y5h valB;rw[Y9d l hl];simp only[bsome];cases hb:l.any endB with
 | true=>rfl
 | false =>
   simp only[l0y,if_false];rw[show decide (trimB l=l)=decide (l=[]∨((∀c,l.head? = some c->¬bl c)/\(∀c,l.getLast? = some c->¬bl c))) from decide_eq_decide.2 (Y8h l)];by_cases h:l=[]
   . rw[l01 h,l0f (.inl h)];rfl
   rw[l00 h];have hpos:0<l.length:=by cases l <;> simp_all
   have hh:l.head? = some l[0]:=by rw[List.head?_eq_getElem?,l06 hpos]
   have hg:l.getLast? = some (l[l.length-1]'Om):=by rw[List.getLast?_eq_getElem?,l06]
   rw[show (0:Int)=((0:Nat):Int) from rfl,idx_nat,l06 hpos,chk_pred Om Om];simp only[bsome,Y34];rw[idx_nat,l06 Om];simp only[bsome,Y34,hh,hg,Option.some.injEq];by_cases u:bl l[0]
   . rw[l0f u,l01 rfl];simp only[bsome];rw[l0g (fun x=>x.elim h (fun y=>y.1 _ hh u))];rfl
   rw[l0g u,l00 Sm];simp only[bsome];by_cases E:bl (l[l.length-1]'Om)
   . rw[l0f E,l0g (fun x=>x.elim h (fun y=>y.2 _ hg E))];rfl
   rw[l0g E,l0f (.inr ⟨fun c hc=>by rw[hh] at hc;cases hc;exact u,fun c hc=>by rw[hg] at hc;cases hc;exact E⟩)];rfl
def codeF (n v:Ls):Int:=if nmL n=true then(if 4000<v.length then 1 else if valB v=true then 0 else 11) else 10
theorem bk_at' {s:Ls}{i:Nat}(u:0<i)(h:i<s.length):bk s i=decide (bl s[i]/\¬bl (s[i-1]'Om)):=bk_at u (l06 _) (l06 _)
theorem Y69 (s:Ls)(hs:s.length<=1000000):∀(k i m best:Nat),s.length-i<=k->k<m->0<i->Y28 s m (best:Int) (i:Int)=some ((sc s (s.length-i) i best:Nat):Int)
 | k, i, m,best,N,O,u=>by
   obtain⟨m,rfl⟩ :∃k,m=k+1:=⟨m-1,by omega⟩
   by_cases hi:i<s.length
   . cases k with
     | zero=>omega
     | succ k =>
     rw[Y28,l01 Om,idx_nat,l06 hi,chk_pred Om Om,chk_succ Om];simp only[bsome,Y34,idx_nat];rw[l06 (show i-1<s.length by omega)];simp only[bsome,Y34];have hc:(if decide (bl s[i])=true then some (decide (bl (s[i-1]'Om))) else some true)=some (!bk s i):=by
      rw[bk_at' u hi];by_cases E:bl s[i] <;> by_cases J:bl (s[i-1]'Om) <;> simp [E,J]
     rw[hc];simp only[bsome];rw[show s.length-i=(s.length-(i+1))+1 by omega,sc];cases hb:bk s i with
     | false =>
       simp only[Bool.not_false,if_true,l0y,if_false];exact Y69 s hs k (i+1) m best Om Om Om
     | true =>
       simp only[l3l,if_true,l0y,if_false];by_cases hbest:0<best
       . rw[l01 Om];simp only[bsome];by_cases K:78<i
         . rw[l0f Om,l01 rfl,l00 Om,Y9Y _ _ _ _ hbest Om]
         rw[l0g Om,l00 Sm,l01 Om];exact Y69 s hs k (i+1) m i Om Om Om
       rw[l00 Om];simp only[bsome,l0y,if_false];rw[l01 Om];exact Y69 s hs k (i+1) m i Om Om Om
   rw[Y28,l00 Om,show s.length-i=0 by omega];rfl
theorem Y8E (s:Ls)(hs:s.length<=1000000)(k:Nat):Y5i s (k:Int)=some ((pt s (max k 1):Nat):Int):=by
 unfold Y5i pt;rw[show max (k:Int) 1=((max k 1:Nat):Int) by omega];have:=Y69 s hs s.length (max k 1) FU 0 Om (FU_gt Om) Om;rw[show ((0:Nat):Int)=0 from rfl] at this;rw[this];rfl
theorem Y8g :∀(f m k:Nat) (s:Ls) (o:List Ls),s.length<=f->f<m->s.length<=1000000->o.length+s.length<=1000000->
 ∃a b,Y2R m s (k:Int) o=some (a,b)/\b++[a]=o++fl s (max k 1)/\a.length<=s.length/\b.length<=o.length+s.length
 | f,m,k,s,o,V,Y,K,Z=>by
   obtain⟨m,rfl⟩ :∃k,m=k+1:=⟨m-1,by omega⟩
   by_cases u:78<s.length
   . rw[Y2R,l01 Om,Y8E s K];simp only[bsome];by_cases E:pt s (max k 1)=0
     . rw[l01 Om,Y5t (fun h=>h.2 E)];exact⟨_,_,G,G,l0b _,by omega⟩
     obtain⟨p1,p2,p3⟩:=pt_lt Om E;rw[l00 Om,cut_to rfl Om,cut_from rfl Om];simp only[bsome];rw[app_ok Ol];simp only[bsome];cases f with
     | zero=>omega
     | succ f =>
       obtain⟨a,b,N,O,U,J⟩:=Y8g f m 0 (s.drop (pt s (max k 1))) (o++[s.take (pt s (max k 1))]) Ox Om Ox (by rw[l05,l08];simp;omega);rw[l08] at U J;simp only[l05,l04,l0d] at J;refine⟨a,b,N,?_,by omega,by omega⟩;rw[O,Y5A Om ⟨u,E⟩];simp
   rw[Y2R,l00 Om,Y5t (fun h=>u h.1)];exact⟨_,_,G,G,l0b _,by omega⟩
def bigL (a:Ls):Bool:=decide (998<a.length)
theorem YbI {β:Type}(L:Nat->Int->Option β)(l:List Ls)(hl:l.length<=1000000)(r:Nat->β)(stop:β)(hend :∀m,L (m+1) (l.length:Int)=some stop)
 (hstep :∀m i (h:i<l.length),L (m+1) (i:Int)=if bigL l[i]=true then some (r i) else L m ((i+1:Nat):Int)):L FU 0=some (match l.findIdx? bigL with|some j=>r j|none=>stop):=by
 rcases scanP L l (fun i a=>if bigL a=true then some (r i) else none) stop hend (fun m i h=>by
  rw[hstep m i h];split <;> rfl) l.length 0 FU Om (FU_gt Om) Om with ⟨j,hj,x,E,u,K,J⟩|⟨E,u⟩
 . rw[show ((0:Nat):Int)=0 from rfl] at J;rw[J];have hb:bigL l[j]=true:=by
    by_cases hb:bigL l[j]=true
    . exact hb
    simp only[hb,if_false,l0y] at u;cases u
   simp only[hb,if_true] at u;cases u;have:l.findIdx? bigL=some j:=by
    rw[l2F];refine⟨hj,hb,fun a ha=>?_⟩;have:=K a Om Om ha;intro hc;simp only[hc,if_true] at this;cases this
   rw[this]
 rw[show ((0:Nat):Int)=0 from rfl] at u;rw[u];have:l.findIdx? bigL=none:=by
  rw[l2m];intro x hx;obtain⟨i,hi,rfl⟩:=l2a hx;have:=E i hi Om;cases hc:bigL l[i] with
  | false=>rfl
  | true=>simp only[hc,if_true] at this;cases this
 rw[this]
theorem YbJ :∀(n:Nat) (s:Ls) (k:Nat),0<k->s.length<=n->(fl s k).length<=s.length+1
 | 0,s,k,hk,h=>by
   rw[Y5t (fun h'=>by omega)];simp
 | n + 1,s,k,hk,h=>by
   by_cases hc:78<s.length/\pt s k≠0
   . have u:=pt_lt hk hc.2;have:=YbJ n (s.drop (pt s k)) 1 Om Ox;rw[Y5A hk hc,l04];rw[l08] at this;omega
   rw[Y5t hc];simp
def fieldS (n v:Ls):Ls:=n++[58,32]++v
def foldR (n v:Ls):List Ls × Z02 :=
 if codeF n v=0 then(match (fl (fieldS n v) (n.length+2)).findIdx? bigL with|some j=>([],(1,(j:Int)))|none=>(fl (fieldS n v) (n.length+2),(0,0))) else([],(codeF n v,-1))
theorem Y5B {n:Ls}(h:nmL n=true):1<=n.length/\n.length<=60:=by
 unfold nmL at h;rw[l0n,decide_eq_true_eq] at h;exact h.2
theorem Y50 (n v:Ls)(hn:Big n)(hv:Big v):Y4g n v=some (foldR n v):=by
 unfold Y4g foldR codeF;rw[Y9c n hn];simp only[bsome];cases h:nmL n with
 | false=>rfl
 | true =>
   have O:=Y5B h;simp only[if_true];by_cases u:4000<v.length
   . rw[l01 Om,l01 u];rfl
   rw[l00 Om,l00 u,Y8D v hv];simp only[bsome];cases hb:valB v with
   | false=>rfl
   | true =>
     simp only[if_true];have E:(n++[58,32]++v)=fieldS n v:=rfl;have hsl:(fieldS n v).length=n.length+2+v.length:=by unfold fieldS;simp;omega
     rw[cat_ok Ol];simp only[bsome];rw[cat_ok (by rw[l05];simp only[l04,l0d];omega),show ((n.length:Int)+2)=((n.length+2:Nat):Int) by omega,chk_ok Om Om];simp only[bsome,E];obtain⟨a,b,J,K,U,N⟩:=Y8g (fieldS n v).length FU (n.length+2) (fieldS n v) [] (l0b _) (FU_gt Om) Om Ow;rw[J];simp only[bsome];rw[app_ok (by simp only[l04,l0d] at N ⊢;omega)];simp only[bsome];rw[K,l07,show max (n.length+2) 1=n.length+2 by omega];have hfl:=YbJ (fieldS n v).length (fieldS n v) (n.length+2) Om (l0b _);rw[YbI (fun m i=>Y2S (fl (fieldS n v) (n.length+2)) m 0 0 i) (fl (fieldS n v) (n.length+2)) Om (fun i => .inr ([],(1,(i:Int)))) (.inl (0,0)) (fun m=>by rw[Y2S,l00 Om]) (fun m i h=>by
      rw[Y2S,l01 Om,idx_nat,l06 h,chk_succ Om];simp only[bsome];unfold bigL Y03;by_cases hbig:998<((fl (fieldS n v) (n.length+2))[i]).length
      . rw[l01 Om,l01 (l0f hbig)];rfl
      rw[l00 Om,l00 (by rw[decide_eq_true_eq];exact hbig)])]
     simp only[bsome];cases(fl (fieldS n v) (n.length+2)).findIdx? bigL with
     | none=>rfl
     | some j=>rfl
def faultR (n v:Ls):Int × Int :=
 if codeF n v=0 then(match (fl (fieldS n v) (n.length+2)).findIdx? bigL with|some j=>(1,(j:Int))|none=>(0,0)) else(codeF n v,-1)
theorem Ybb {n v:Ls}(h:codeF n v=0):nmL n=true/\v.length<=4000/\valB v=true:=by
 unfold codeF at h;split at h
 . split at h
   . cases h
   split at h
   . exact⟨by assumption,by omega,by assumption⟩
   cases h
 cases h
theorem Y7l (b:UInt8)(l:Ls)(c:UInt8):ixB (b::l) c=if b=c then 0 else if ixB l c<0 then -1 else ixB l c+1:=by
 unfold ixB;rw[List.idxOf_cons,l04];by_cases h:b=c
 . subst h;simp
 have h':(b == c)=false:=by simpa using h
 rw[h',l00 h];simp only[cond_false];by_cases hl:l.idxOf c<l.length
 . rw[l01 Om,l01 hl,l00 Om];omega
 rw[l00 Om,l00 hl,l01 Om]
theorem Y8i (l:Ls)(c:UInt8): -1<=ixB l c/\ixB l c<l.length:=by
 unfold ixB;split <;> omega
theorem Y9o :∀l:Ls,Lib.index l [58]=ixB l 58
 | []=>rfl
 | c :: t=>by
   rw[Lib.index,Y7l,Y9o t];have hx:=Y8i t 58;by_cases hc:c=58
   . rw[l01 (by simp [List.isPrefixOf,hc]),l01 hc]
   rw[l00 (by simp [List.isPrefixOf,Ne.symm hc]),l00 hc];by_cases hn:ixB t 58<0
   . have:ixB t 58 = -1:=by omega
     rw[this];rfl
   have :¬((ixB t 58 == -1)=true):=by simp;omega
   rw[l00 this,l00 hn]
theorem Y8c (l:Ls)(hl:l.length<=1000000):Y2A l [58]=some (if ixB l 58<0 then(l,[],false) else(l.take (ixB l 58).toNat,l.drop ((ixB l 58).toNat+1),true)):=by
 have hi:Y0W l [58]=some (ixB l 58):=by
  unfold Y0W;rw[l01 Om,Y9o]
 have hx:=Y8i l 58;unfold Y2A Y2l;rw[hi];simp only[bsome];by_cases hn:ixB l 58<0
 . rw[l00 Om,l01 hn];simp only[bsome]
 obtain⟨n,hn'⟩:=l0W (show 0<=ixB l 58 by omega);rw[l01 Om,l00 hn,hn'];rw[cut_to rfl Om];simp only[bsome];rw[show ((n:Int)+(([58]:Ls).length:Int))=((n+1:Nat):Int) by simp,chk_ok Om Om];simp only[bsome];rw[cut_from rfl Om];simp only[bsome,l0q]
def hd (a:Ls):Bool:=match a with|[]=>true|c::_ => !decide (bl c)
theorem fl_hd :∀(n:Nat) (s:Ls) (k:Nat),0<k->s.length<=n->∀(j:Nat) (a:Ls),(fl s k)[j+1]? = some a->hd a=false
 | 0,s,k,hk,h=>by intro j a ha;rw [Y5t (fun h'=>by omega)] at ha;simp at ha
 | n + 1,s,k,hk,h=>by
   intro j a ha;by_cases hc:78<s.length/\pt s k≠0
   . obtain⟨N,K,J⟩:=pt_lt hk hc.2;rw[Y5A hk hc] at ha;cases j with
     | succ j=>exact fl_hd n (s.drop (pt s k)) 1 Om Ox j a (by simpa using ha)
     | zero =>
       rw[bk_at' Om K,decide_eq_true_eq] at J;have u:(fl (s.drop (pt s k)) 1)[0]? = some a:=by simpa using ha
       rw[drop_cons K] at u;by_cases E:78<(s[pt s k]::s.drop (pt s k+1)).length/\pt (s[pt s k]::s.drop (pt s k+1)) 1≠0
       . have O:=pt_lt Om E.2;rw[Y5A Om E] at u;simp only[l1b,Option.some.injEq] at u;rw[<-u,show pt (s[pt s k]::s.drop (pt s k+1)) 1=(pt (s[pt s k]::s.drop (pt s k+1)) 1-1)+1 by omega,l2L];simp [hd,J.1]
       rw[Y5t E] at u;simp only[l1b,Option.some.injEq] at u;rw[<-u];simp [hd,J.1]
   rw[Y5t hc] at ha;simp at ha
theorem nm_end {n:Ls}(h:nmL n=true):n.any endB=false/\∀c∈n,c≠58:=by
 unfold nmL at h;rw[l0n,l0C] at h;constructor
 . rw[l1s];intro c hc he;have:=h.1 c hc;unfold nmB at this;unfold endB at he;rw[decide_eq_true_eq] at this he;omega
 intro c hc he;have:=h.1 c hc;unfold nmB at this;rw[decide_eq_true_eq] at this;have:=(u8_lit c 58).1 he;have u:(58:UInt8).toNat=58:=rfl;omega
theorem ixB_name {n r:Ls}(h :∀c∈n,c≠58):ixB (n++58::r) 58=(n.length:Int):=by
 induction n with
 | nil=>rw[l07,Y7l,l01 rfl];rfl
 | cons c n ih =>
   rw[l09,Y7l,l00 (h c Sm),ih (fun d hd=>h d (by simp [hd])),l00 Om,l04];omega
theorem Y8j {v:Ls}(h:valB v=true):v.any endB=false/\trimB v=v:=by
 unfold valB at h;rw[l0n,decide_eq_true_eq] at h;exact⟨by simpa using h.1,h.2⟩
end Go.Ph.Pf
end
section
namespace Go.Ph.Hd
open Go.Ph.Pl Go.Ph.Pf Go.Ph.Wd
open Go.Ph.Fd (fl Y7G)
abbrev Fld : Type:=Ls × Ls
abbrev BigF (l:List Fld):Prop :=∀x∈l,Big x.1/\Big x.2
theorem Y9p (n v:Ls):(foldR n v).2=faultR n v:=by
 unfold foldR faultR;by_cases h:codeF n v=0
 . rw[l01 h,l01 h];cases(fl (fieldS n v) (n.length+2)).findIdx? bigL <;> rfl
 rw[l00 h,l00 h]
theorem Y0t (a b:Int):Y08 (a,b)=some (!decide (a=0)):=rfl
theorem Y0Z (a b:Int):Y03 a b=some (a,b):=by unfold Y03;rfl
def ffz (i:Nat):List Fld->Int × Int
 | []=>(0,0)
 | x::r=>if (faultR x.1 x.2).1=0 then ffz (i+1) r else((faultR x.1 x.2).1,(i:Int))
theorem Y8M :∀{l:List Fld} {i:Nat},(ffz i l).1=0->ffz i l=(0,0)/\∀x∈l,(faultR x.1 x.2).1=0
 | [],i,h=>⟨rfl,fun x hx=>by cases hx⟩
 | x :: r,i,h=>by
   rw[ffz] at h ⊢;by_cases hx:(faultR x.1 x.2).1=0
   . rw[l01 hx] at h ⊢;obtain⟨u,E⟩:=Y8M h;refine⟨u,fun y hy=>?_⟩;rcases l0k.1 hy with rfl|hy
     . exact hx
     exact E y hy
   rw[l00 hx] at h;exact absurd h hx
theorem Y8N (l:List Fld)(hl:l.length<=1000)(hb:BigF l)(E u:Int):∀(d i m:Nat),l.length-i<=d->d<m->i<=l.length->
 Y0M l m E u (i:Int)=some (if (ffz i (l.drop i)).1=0 then .inl (E,u) else .inr (ffz i (l.drop i))):=by
 intro d;induction d with
 | zero =>
   intro i m J K N;obtain⟨m,rfl⟩ :∃k,m=k+1:=⟨m-1,by omega⟩
   rw[Y0M,l00 Om,l0l Om];rfl
 | succ d ih =>
   intro i m J K N;obtain⟨m,rfl⟩ :∃k,m=k+1:=⟨m-1,by omega⟩
   by_cases hi:i<l.length
   . have hx:=hb l[i] (l0N hi);rw[Y0M,l01 Om,idx_nat,l06 hi,bsome,Y50 _ _ hx.1 hx.2,l0r hi,ffz];have hs:=Y9p l[i].1 l[i].2;obtain⟨⟨L,a,b⟩,hr⟩ :∃p,foldR l[i].1 l[i].2=p:=⟨_,rfl⟩
     rw[hr] at hs ⊢;rw[bsome];dsimp only at hs ⊢;rw[Y0t,bsome,<-hs];by_cases ha:a=0
     . rw[l0f ha,l00 Dc,l01 ha,chk_succ Om,bsome];exact ih (i+1) m Om Om Om
     rw[l0g ha,l01 Dc,l00 ha,Y0Z,bsome,l00 ha]
   rw[Y0M,l00 Om,l0l Om];rfl
def valR (l:List Fld):Int × Int:=if 60<l.length then(2,-1) else ffz 0 l
theorem Y3o (l:List Fld)(hb:BigF l):Y2J l=some (valR l):=by
 unfold Y2J valR;by_cases h:60<l.length
 . rw[l01 Om,Y0Z,bsome,l01 h]
 have:=Y8N l Om hb 0 0 l.length 0 FU Om (by unfold FU;omega) Om;rw[l1a,l0E] at this;rw[l00 Om,this,bsome,l00 h];by_cases hz:(ffz 0 l).1=0
 . rw[l01 hz];rw[(Y8M hz).1];unfold Y0k;rfl
 rw[l00 hz]
def linesOf (x:Fld):List Ls:=fl (fieldS x.1 x.2) (x.1.length+2)
theorem Y3s {x:Fld}(h:(faultR x.1 x.2).1=0):foldR x.1 x.2=(linesOf x,(0,0))/\nmL x.1=true/\x.2.length<=4000/\valB x.2=true/\(∀a∈linesOf x,a.length<=998):=by
 unfold faultR at h;by_cases hc:codeF x.1 x.2=0
 . rw[l01 hc] at h;obtain⟨u,E,J⟩:=Ybb hc;cases hf:(fl (fieldS x.1 x.2) (x.1.length+2)).findIdx? bigL with
   | some j=>rw[hf] at h;exact absurd (show(1:Int)=0 from h) Dc
   | none =>
     refine⟨?_,u,E,J,fun a ha=>?_⟩
     . unfold foldR linesOf;rw [l01 hc,hf]
     have:=l2m.1 hf a ha;unfold bigL at this;simpa using this
 rw[l00 hc] at h;exact absurd h hc
def crlf (a:Ls):Ls:=a++[13,10]
def fieldB (x:Fld):Ls:=(linesOf x).flatMap crlf
def headB (l:List Fld):Ls:=l.flatMap fieldB++[13,10]
theorem Yax :∀L:List Ls,(L.flatMap crlf).length=L.flatten.length+2*L.length
 | []=>rfl
 | a::L=>by rw[l0v,l05,Yax L,l1c,l05,l04];unfold crlf;rw [l05];simp only[l04,l0d];omega
theorem Y5C {x:Fld}(h:(faultR x.1 x.2).1=0):(linesOf x).length<=4070/\(linesOf x).flatten=fieldS x.1 x.2/\(fieldS x.1 x.2).length<=4062/\(fieldB x).length<=13000:=by
 obtain⟨_,J,N,_,_⟩:=Y3s h;have K:=Y5B J;have hsl:(fieldS x.1 x.2).length=x.1.length+2+x.2.length:=by unfold fieldS;simp;omega
 have O:=YbJ (fieldS x.1 x.2).length (fieldS x.1 x.2) (x.1.length+2) Om (l0b _);have u:=Y7G (fieldS x.1 x.2).length (fieldS x.1 x.2) (x.1.length+2) Om (l0b _);have E:=Yax (linesOf x);unfold fieldB;unfold linesOf at E ⊢;rw[u] at E;exact⟨by omega,u,by omega,by omega⟩
theorem Y7L {l:List Fld}(hl:l.length<=60)(h :∀x∈l,(faultR x.1 x.2).1=0):(l.flatMap fieldB).length<=780000:=by
 have:=Y7J fieldB 13000 l (fun x hx=>(Y5C (h x hx)).2.2.2);omega
theorem Y4q {l:List Fld}(h:(valR l).1=0):valR l=(0,0)/\l.length<=60/\∀x∈l,(faultR x.1 x.2).1=0:=by
 unfold valR at h ⊢;by_cases u:60<l.length
 . rw[l01 u] at h;exact absurd h Dc
 rw[l00 u] at h ⊢;obtain⟨E,J⟩:=Y8M h;exact⟨E,by omega,J⟩
end Go.Ph.Hd
end
section
namespace Go.Ph.Hd
open Go.Ph.Pl Go.Ph.Pf Go.Ph.Wd
open Go.Ph.Fd (fl Y7G)
open Go.Ph.Chs (lower)
theorem name_eq (n:Ls)(hn:Big n):Y4E n=some (nmL n):=by
 unfold Y4E;rw[Y50 n [] hn (by unfold Big;simp)];have hs:=Y9p n [];obtain⟨⟨L,a,b⟩,hr⟩ :∃p,foldR n []=p:=⟨_,rfl⟩
 rw[hr] at hs ⊢;dsimp only at hs;rw[bsome];dsimp only;rw[Y0t,bsome];unfold faultR codeF at hs;by_cases h:nmL n=true
 . have u:=Y5B h;have hv:valB []=true:=by decide
   have hsl:(fieldS n []).length=n.length+2:=by unfold fieldS;simp
   have e:(if 4000<([]:Ls).length then(1:Int) else if valB []=true then 0 else 11)=0:=by rw[hv];rfl
   rw[l01 h,e,l01 rfl,Fd.Y5t Om] at hs;have hb:[fieldS n []].findIdx? bigL=none:=by
    rw[l2m];intro x hx;rw[l0O.1 hx];unfold bigL;rw[l0g Om]
   rw[hb] at hs;cases hs;rw[h];rfl
 rw[l00 h,l00 Dc] at hs;cases hs;rw[Bool.not_eq_true] at h;rw[h];rfl
end Go.Ph.Hd
end
section
namespace Go.Ph.Hd
open Go.Ph.Pl Go.Ph.Pf Go.Ph.Wd
open Go.Ph.Qp (trimR bl chop)
open Go.Ph.Chs (lower)
def wd : Ls->Nat
 | []=>0
 | c::t=>if c=10 then 0 else wd t+1
theorem wd_le :∀t:Ls,wd t<=t.length
 | []=>l0b _
 | c::t=>by
   have:=wd_le t;rw[wd];split
   . exact l0x _
   simp only[l04];omega
theorem ixB_wd :∀t:Ls,ixB t 10=if wd t<t.length then((wd t:Nat):Int) else -1
 | []=>rfl
 | c::t=>by
   rw[Y7l,ixB_wd t,wd];by_cases hc:c=10
   . rw[l01 hc,l01 hc,l01 Sm];rfl
   rw[l00 hc,l00 hc];by_cases hw:wd t<t.length
   . rw[l01 hw,l00 Om,l01 Ol];omega
   rw[l00 hw,l01 Dc,l00 Ol]
def lineL (t:Ls):Ls × Nat:=if wd t<t.length then(chop 13 (t.take (wd t)),wd t+1) else(t,t.length)
theorem Y8O (A:Ls)(hA:A.length<=1000000):Y0y A [13]=some (chop 13 A):=by
 unfold Y0y Y1w;rcases Y35 A with rfl|⟨B,c,rfl⟩
 . rfl
 have e:((B++[c]).length:Int)-(([13]:Ls).length:Int)=(B.length:Int):=by simp
 rw[l01 Ol,e,chk_ok Om (by simp at hA;omega),bsome,cut_from (a:=B.length) rfl Sm,bsome,l1X];unfold Y3d chop;rw[bsome,bsome,bsome];by_cases hc:c=13
 . rw[l0f (by rw[hc]),l01 rfl,bsome,cut_to (b:=B.length) rfl Sm,bsome,l01 (by simp [hc]),l1p,l2B]
 rw[l0g (by simp [hc]),l00 l03,l00 (by simp [hc])]
theorem line_eq (t:Ls)(ht:t.length<=1000000):Y4D t=some ((lineL t).1,((lineL t).2:Int)):=by
 have hw:=wd_le t;unfold Y4D Y1v lineL;rw[bsome,ixB_wd];by_cases h:wd t<t.length
 . rw[l01 h,l00 Om,l01 h,cut_to rfl Om,bsome,Y8O _ (by rw[l0j];omega),bsome,chk_succ Om,bsome]
 rw[l00 h,l01 Dc,l00 h]
theorem Y6a {t:Ls}(h:t≠ []):1<=(lineL t).2/\(lineL t).2<=t.length/\(lineL t).1.length<=(lineL t).2:=by
 have hw:=wd_le t;have u:=l0F.2 h;unfold lineL;split
 . refine⟨by dsimp only;omega,by dsimp only;omega,?_⟩;dsimp only;unfold chop;split
   . rw[List.length_dropLast,l0j];omega
   rw[l0j];omega
 exact⟨u,l0b _,l0b _⟩
theorem Y63 (l:Ls)(hl:Big l):Y2i l [32,9]=some (trimR l):=by
 unfold Y2i;by_cases h:l=[]
 . subst h;rfl
 rw[l00 h];simp only[bsome,show (decide (([32,9]:Ls)=[]))=false from rfl,l0y,if_false];rw[l00 Dc];simp only[bsome,l0y,if_false,Y6N,Pf.Y8L,Ya0,if_true];unfold Y12;rw[Y7K l.length FU l (l0b _) (FU_gt (by unfold Big at hl;omega)) hl];simp only[bsome]
def beg (s:Ls):Option Fld:=if ixB s 58<0 then none else if nmL (trimR (s.take (ixB s 58).toNat))=true then some (trimR (s.take (ixB s 58).toNat),s.drop ((ixB s 58).toNat+1)) else none
theorem YbK (s:Ls)(hs:s.length<=1000000):∃x b,Y3T s=some (x,b)/\((beg s=none/\b=false)∨(beg s=some x/\b=true)):=by
 have hx:=Y8i s 58;unfold Y3T beg;rw[Y8c s hs];by_cases h:ixB s 58<0
 . rw[l01 h,bsome];dsimp only;rw[Y63 s (by unfold Big;omega),bsome,l00 l03,bsome,l01 h];exact⟨_,_,G, .inl ⟨G,G⟩⟩
 have hb:Big (s.take (ixB s 58).toNat):=by unfold Big;rw [l0j];omega
 have ht:=Y6M (s.take (ixB s 58).toNat);rw[l00 h,bsome];dsimp only;rw[Y63 _ hb,bsome,l01 rfl,name_eq _ (by unfold Big at hb ⊢;omega),bsome,bsome,l00 h];dsimp only;by_cases hn:nmL (trimR (s.take (ixB s 58).toNat))=true
 . rw[l01 hn,hn];exact ⟨_,_,rfl, .inr ⟨rfl,rfl⟩⟩
 rw[l00 hn];rw [Bool.not_eq_true] at hn;rw [hn];exact ⟨_,_,rfl, .inl ⟨rfl,rfl⟩⟩
def appL (out:List Fld)(s:Ls):List Fld:=match out[out.length-1]? with|some x=>out.set (out.length-1) (x.1,x.2++s)|none=>out
def isB (s:Ls):Bool:=match s with|c::_=>blk c|[]=>false
def rdF : Nat->List Fld->Ls->List Fld × Nat
 | 0,out,t=>(out,0)
 | f+1,out,t=>if t=[] then(out,0) else if (lineL t).1=[] then(out,(lineL t).2)
   else if isB (lineL t).1=true/\out≠ [] then((rdF f (appL out (lineL t).1) (t.drop (lineL t).2)).1,(lineL t).2+(rdF f (appL out (lineL t).1) (t.drop (lineL t).2)).2)
   else match beg (lineL t).1 with
    | some x=>((rdF f (out++[x]) (t.drop (lineL t).2)).1,(lineL t).2+(rdF f (out++[x]) (t.drop (lineL t).2)).2)
    | none=>(out,0)
def okO (out:List Fld)(i:Nat):Prop:=out.length<=i/\∀x∈out,x.2.length<=i
theorem okO.more {out:List Fld}{i j:Nat}(h:okO out i)(hj:i<=j):okO out j:=⟨l1B h.1 hj,fun x hx=>l1B (h.2 x hx) hj⟩
theorem okO.app {out:List Fld}{i n:Nat}{x:Fld}(h:okO out i)(hn:1<=n)(hx:x.2.length<=n):okO (out++[x]) (i+n):=by
 refine⟨by have:=h.1;simp;omega,fun y hy=>?_⟩;rcases l1m.1 hy with hy|hy
 . have:=h.2 y hy;omega
 rw[l0O.1 hy];omega
theorem okO.last {out:List Fld}{i n:Nat}{s:Ls}(h:okO out i)(hs:s.length<=n):okO (appL out s) (i+n):=by
 unfold appL;cases hx:out[out.length-1]? with
 | none=>exact h.more Om
 | some x =>
   have hm:=h.2 x (l0S hx);refine⟨by have:=h.1;simp;omega,fun y hy=>?_⟩;rcases l2C hy with hy|rfl
   . have:=h.2 y hy;omega
   simp;omega
theorem YbL {s:Ls}{x:Fld}(h:beg s=some x):x.2.length<=s.length:=by
 unfold beg at h;split at h
 . cases h
 split at h
 . cases h;simp
 cases h
theorem read_L1 (p:Ls)(hp:p.length<=12000):∀(d i m:Nat) (out:List Fld),p.length-i<=d->d<m->i<=p.length->okO out i->
 Y1Q p m out (i:Int)=some ((rdF d out (p.drop i)).1,((i+(rdF d out (p.drop i)).2:Nat):Int)):=by
 intro d;induction d with
 | zero =>
   intro i m out O U V u;obtain⟨m,rfl⟩ :∃k,m=k+1:=⟨m-1,by omega⟩
   rw[Y1Q,l00 Om];rfl
 | succ d ih =>
   intro i m out O U V u;obtain⟨m,rfl⟩ :∃k,m=k+1:=⟨m-1,by omega⟩
   rw[Y1Q,rdF];by_cases hi:i<p.length
   . have hne:p.drop i≠ []:=fun e=>by have:=l02 List.length e;rw [l08] at this;simp at this;omega
     obtain⟨E,J,K⟩:=Y6a hne;rw[l08] at J;rw[l01 Om,cut_from rfl Om,bsome,line_eq _ Ox,bsome,l00 hne];obtain⟨⟨s,n⟩,hl⟩ :∃q,lineL (p.drop i)=q:=⟨_,rfl⟩
     rw[hl] at E J K ⊢;dsimp only at E J K ⊢;have hadd:chk ((i:Int)+(n:Int))=some ((i+n:Nat):Int):=by rw[chk_ok Om Om];congr 1
     have hdrop:(p.drop i).drop n=p.drop (i+n):=by rw[l0V]
     cases s with
     | nil=>rw[l01 rfl,l01 rfl,hadd,bsome]
     | cons c s =>
       have hidx:idx (c::s) 0=some c:=rfl;rw[l00 Sm,l00 Sm,hidx,bsome,Yav,bsome,hdrop];by_cases hb:blk c=true/\out≠ []
       . have Z:=l0F.2 hb.2;have hlast:out[out.length-1]? = some out[out.length-1]:=l06 Om;have hm:=u.2 _ (l0N (show out.length-1<out.length by omega));have N:=u.1;have Y:((out.length:Int)-1)=((out.length-1:Nat):Int):=by omega
         have happ:appL out (c::s)=out.set (out.length-1) (out[out.length-1].1,out[out.length-1].2++(c::s)):=by unfold appL;rw [hlast]
         rw[l01 hb.1,bsome,l01 (l0f Om),l01 (show isB (c::s)=true/\out≠ [] from hb),Y,chk_ok Om Om,bsome,idx_nat,hlast,bsome,cat_ok Om,bsome,bsome,put_ok Om Om,bsome,hadd,bsome,l0q,<-happ,
          ih (i+n) m _ Om Om Om (u.last K)]
         dsimp only;rw[l1n]
       have hcond:(if blk c=true then some (decide ((0:Int)<(out.length:Int))) else some false)=some false:=by
        by_cases hbc:blk c=true
        . rw[l01 hbc];have:out=[]:=Classical.byContradiction fun e=>hb ⟨hbc,e⟩
          rw[this];rfl
        rw[l00 hbc]
       rw[hcond,bsome,l00 l03,l00 (show ¬(isB (c::s)=true/\out≠ []) from hb)];obtain⟨x,b,hbe,hor⟩:=YbK (c::s) Om;rw[hbe,bsome];rcases hor with ⟨hn,rfl⟩|⟨hn,rfl⟩
       . rw[hn];dsimp only;rw [l00 l03];rfl
       have hbl:=YbL hn;have N:=u.1;rw[hn];dsimp only;rw[l01 rfl,app_ok Ow,bsome,hadd,bsome,ih (i+n) m _ Om Om Om (u.app E (show x.2.length<=n by omega))];rw[l1n]
   have he:p.drop i=[]:=l0l Om;rw[l00 Om,l01 he];rfl
end Go.Ph.Hd
end
section
namespace Go.Ph.Hd
open Go.Ph.Pl Go.Ph.Pf Go.Ph.Wd
open Go.Ph.Qp (trimR bl chop)
open Go.Ph.Chs (lower)
def rp1 (c:UInt8):UInt8:=if c=0∨c=13 then 32 else c
def rplB (s:Ls):Ls:=s.map rp1
def cl (x:Fld):Fld:=(x.1,trimB (rplB x.2))
def longF (x:Fld):Bool:=decide (4000<(cl x).2.length)
def firstL (i:Nat):List Fld->Option Nat
 | []=>none
 | x::r=>if longF x=true then some i else firstL (i+1) r
def readR (p:Ls):List Fld × Int × Z02 :=
 if 12000<p.length then([],0,(1,-1)) else if 60<(rdF p.length [] p).1.length then([],0,(2,-2))
  else match firstL 0 (rdF p.length [] p).1 with
   | some j=>([],0,(1,(j:Int)))
   | none=>((rdF p.length [] p).1.map cl,((rdF p.length [] p).2:Int),(0,0))
theorem Yay :∀(d i:Nat) (out:List Fld) (t:Ls),okO out i->okO (rdF d out t).1 (i+t.length)/\(rdF d out t).2<=t.length
 | 0,i,out,t,h=>⟨h.more Om,l0x _⟩
 | d + 1,i,out,t,h=>by
   rw[rdF];by_cases ht:t=[]
   . rw[l01 ht];exact ⟨h.more Om,l0x _⟩
   obtain⟨J,K,N⟩:=Y6a ht;rw[l00 ht];by_cases u:(lineL t).1=[]
   . rw[l01 u];exact ⟨h.more Om,K⟩
   rw[l00 u];by_cases E:isB (lineL t).1=true/\out≠ []
   . rw[l01 E];obtain⟨a,b⟩:=Yay d (i+(lineL t).2) (appL out (lineL t).1) (t.drop (lineL t).2) (h.last N);rw[l08] at a b;exact⟨a.more Om,by dsimp only;omega⟩
   rw[l00 E];cases hb:beg (lineL t).1 with
   | none=>exact⟨h.more Om,l0x _⟩
   | some x =>
     have hx:=YbL hb;obtain⟨a,b⟩:=Yay d (i+(lineL t).2) (out++[x]) (t.drop (lineL t).2) (h.app J Om);rw[l08] at a b;exact⟨a.more Om,by dsimp only;omega⟩
theorem ok0 : okO [] 0:=⟨l0b _,fun x hx=>by cases hx⟩
end Go.Ph.Hd
end
section
namespace Go.Ph.Hd
open Go.Ph.Pl Go.Ph.Pf Go.Ph.Wd
open Go.Ph.Qp (trimR bl chop)
open Go.Ph.Chs (lower)
theorem wd_not :∀t:Ls,10∉t.take (wd t)
 | []=>by simp
 | c::t=>by
   rw[wd];by_cases hc:c=10
   . rw[l01 hc];simp
   rw[l00 hc,l2L];intro h;rcases l0k.1 h with h|h
   . exact hc h.symm
   exact wd_not t h
theorem YbM (t:Ls):10∉(lineL t).1:=by
 have hw:=wd_le t;have hn:=wd_not t;unfold lineL;split
 . dsimp only;unfold chop;split
   . exact fun h=>hn (List.dropLast_subset _ h)
   exact hn
 rw[l0P Om] at hn;exact hn
def okN (out:List Fld):Prop :=∀x∈out,nmL x.1=true/\10∉x.2
theorem okN.last {out:List Fld}{s:Ls}(h:okN out)(hs:10∉s):okN (appL out s):=by
 unfold appL;cases hx:out[out.length-1]? with
 | none=>exact h
 | some x =>
   have hm:=h x (l0S hx);intro y hy;rcases l2C hy with hy|rfl
   . exact h y hy
   exact⟨hm.1,by simp [hm.2,hs]⟩
theorem okN.app {out:List Fld}{s:Ls}{x:Fld}(h:okN out)(hs:10∉s)(hb:beg s=some x):okN (out++[x]):=by
 intro y hy;rcases l1m.1 hy with hy|hy
 . exact h y hy
 rw[l0O.1 hy];unfold beg at hb;split at hb
 . cases hb
 split at hb
 . rename_i hn;cases hb;exact⟨hn,fun e=>hs (List.mem_of_mem_drop e)⟩
 cases hb
theorem Ya2 :∀(d:Nat) (out:List Fld) (t:Ls),okN out->okN (rdF d out t).1
 | 0,out,t,h=>h
 | d+1,out,t,h=>by
   have hl:=YbM t;rw[rdF];by_cases ht:t=[]
   . rw[l01 ht];exact h
   rw[l00 ht];by_cases u:(lineL t).1=[]
   . rw[l01 u];exact h
   rw[l00 u];by_cases E:isB (lineL t).1=true/\out≠ []
   . rw[l01 E];exact Ya2 d _ _ (h.last hl)
   rw[l00 E];cases hb:beg (lineL t).1 with
   | none=>exact h
   | some x=>exact Ya2 d _ _ (h.app hl hb)
theorem Y7M :∀{l:List Fld} {i:Nat},firstL i l=none->∀x∈l,(cl x).2.length<=4000
 | [],i,h=>fun x hx=>by cases hx
 | y::r,i,h=>by
   rw[firstL] at h;split at h
   . cases h
   rename_i hy;intro x hx;rcases l0k.1 hx with rfl|hx
   . unfold longF at hy;rw [decide_eq_true_eq] at hy;omega
   exact Y7M h x hx
end Go.Ph.Hd
end
section
namespace Go.Ph.Hd
open Go.Ph.Pl Go.Ph.Pf Go.Ph.Wd
open Go.Ph.Qp (trimR bl chop)
open Go.Ph.Chs (lower)
open Go.Ph.Fd (fl Y7G Y5A Y5t pt pt_lt)
theorem rdF_more :∀(n m:Nat) (out:List Fld) (t:Ls),t.length<=n->t.length<=m->rdF n out t=rdF m out t:=by
 intro n;induction n with
 | zero =>
   intro m out t u E;obtain rfl:=l0e (l1u.1 u);cases m with
   | zero=>rfl
   | succ m=>rw[rdF,rdF,l01 rfl]
 | succ n ih =>
   intro m out t u E;by_cases ht:t=[]
   . subst ht;cases m with
     | zero=>rw[rdF,rdF,l01 rfl]
     | succ m=>rw[rdF,rdF,l01 rfl,l01 rfl]
   obtain⟨J,K,N⟩:=Y6a ht;have O:=l0F.2 ht;obtain⟨m,rfl⟩ :∃k,m=k+1:=⟨m-1,by omega⟩
   have key :∀o,rdF n o (t.drop (lineL t).2)=rdF m o (t.drop (lineL t).2):=fun o=>ih m o _ Ox Ox
   rw[rdF,rdF,key];cases beg (lineL t).1 with
   | none=>rfl
   | some x=>dsimp only;rw [key]
def rd (out:List Fld)(t:Ls):List Fld × Nat:=rdF t.length out t
theorem YbN :∀(a r:Ls),10∉a->wd (a++13::10::r)=a.length+1
 | [],r,h=>rfl
 | c::a,r,h=>by
   simp only[l0k,not_or] at h;rw[l09,wd,l00 (fun e=>h.1 e.symm),YbN a r h.2];rfl
theorem Y78 (a r:Ls)(h:10∉a):lineL (a++13::10::r)=(a,a.length+2):=by
 unfold lineL;rw[YbN a r h,l01 Sm];have:(a++13::10::r).take (a.length+1)=a++[13]:=by
  rw[l2G,l0P Om,show a.length+1-a.length=1 by omega];rfl
 rw[this];unfold chop;rw[l01 Sm,l2B]
theorem Yaz (a r:Ls):crlf a++r=a++13::10::r:=by unfold crlf;simp
theorem YbO (out:List Fld){t:Ls}(ht:t≠ []):rd out t=if (lineL t).1=[] then(out,(lineL t).2)
 else if isB (lineL t).1=true/\out≠ [] then((rd (appL out (lineL t).1) (t.drop (lineL t).2)).1,(lineL t).2+(rd (appL out (lineL t).1) (t.drop (lineL t).2)).2)
 else match beg (lineL t).1 with
  | some x=>((rd (out++[x]) (t.drop (lineL t).2)).1,(lineL t).2+(rd (out++[x]) (t.drop (lineL t).2)).2)
  | none=>(out,0):=by
 obtain⟨u,E,J⟩:=Y6a ht;have K:=l0F.2 ht;obtain⟨n,hn⟩ :∃n,t.length=n+1:=⟨t.length-1,by omega⟩
 have key :∀o,rdF n o (t.drop (lineL t).2)=rd o (t.drop (lineL t).2):=fun o=>rdF_more n _ o _ Ox (l0b _)
 show rdF t.length out t=_
 rw[hn,rdF,l00 ht,key];cases beg (lineL t).1 with
 | none=>rfl
 | some x=>dsimp only;rw [key]
theorem YbP (a r:Ls):(a++13::10::r).drop (a.length+2)=r:=by
 rw[l2g,l2c Om,show a.length+2-a.length=2 by omega];rfl
theorem rd_cont {out:List Fld}{a r:Ls}(ha:10∉a)(hb:isB a=true)(ho:out≠ []):rd out (crlf a++r)=((rd (appL out a) r).1,(crlf a).length+(rd (appL out a) r).2):=by
 have hne:a≠ []:=by rintro rfl;cases hb
 rw[Yaz,YbO out Sm,Y78 a r ha];dsimp only;rw[l00 hne,l01 ⟨hb,ho⟩,YbP];unfold crlf;simp
theorem rd_beg {out:List Fld}{a r:Ls}{x:Fld}(ha:10∉a)(hne:a≠ [])(hb:isB a=false)(hx:beg a=some x):rd out (crlf a++r)=((rd (out++[x]) r).1,(crlf a).length+(rd (out++[x]) r).2):=by
 rw[Yaz,YbO out Sm,Y78 a r ha];dsimp only;rw[l00 hne,l00 (by rw[hb];exact fun e=>l03 e.1),hx,YbP];unfold crlf;simp
theorem rd_stop {out:List Fld}{r:Ls}:rd out ([13,10]++r)=(out,2):=by
 have:=Y78 [] r Sm;rw[l07] at this;rw[YbO out Sm];show(if (lineL (13::10::r)).1=[] then _ else _)=_
 have e:([13,10]++r:Ls)=13::10::r:=rfl;rw[e,this];rfl
theorem YbQ (out:List Fld)(n v a:Ls):appL (out++[(n,v)]) a=out++[(n,v++a)]:=by
 unfold appL;simp
theorem YaA (n:Ls)(r:Ls):∀(L:List Ls) (out:List Fld) (v:Ls),(∀a∈L,10∉a/\isB a=true)->
 rd (out++[(n,v)]) (L.flatMap crlf++r)=((rd (out++[(n,v++L.flatten)]) r).1,(L.flatMap crlf).length+(rd (out++[(n,v++L.flatten)]) r).2)
 | [],out,v,h=>by simp
 | a::L,out,v,h=>by
   obtain⟨u,E⟩:=h a Sm;rw[l0v,l0s,rd_cont u E Sm,YbQ,YaA n r L out (v++a) (fun x hx=>h x (by simp [hx]))];simp only[l1c,l0s,l05,l1n]
theorem bl_blk (c:UInt8):blk c=decide (bl c):=by
 have u:=Yav c;rw[Y34] at u;exact(oI u).symm
theorem fl_first {s:Ls}{k:Nat}(hk:0<k)(hks:k<=s.length):∃a L,fl s k=a::L/\k<=a.length:=by
 by_cases h:78<s.length/\pt s k≠0
 . obtain⟨u,E,_⟩:=pt_lt hk h.2;exact⟨_,_,Y5A hk h,by rw[l0j];omega⟩
 exact⟨_,_,Y5t h,hks⟩
theorem YbR {n:Ls}(h:nmL n=true):∀c∈n,¬bl c:=fun c hc hb=>by
 unfold nmL at h;rw[l0n,l0C] at h;have:=h.1 c hc;unfold nmB at this;rw[decide_eq_true_eq] at this;unfold bl at hb;omega
theorem Ybc {n:Ls}(h:nmL n=true):trimR n=n:=by
 rcases Y35 n with rfl|⟨a,c,rfl⟩
 . rfl
 exact Y53 (YbR h c Sm)
theorem rd_field {x:Fld}(hf:(faultR x.1 x.2).1=0)(out:List Fld)(r:Ls):
 rd out (fieldB x++r)=((rd (out++[(x.1,32::x.2)]) r).1,(fieldB x).length+(rd (out++[(x.1,32::x.2)]) r).2):=by
 obtain⟨_,J,h2,O,_⟩:=Y3s hf;have K:=Y5B J;obtain⟨U,v2⟩:=Y8j O;obtain⟨V,Y⟩:=nm_end J;have hsl:(fieldS x.1 x.2).length=x.1.length+2+x.2.length:=by unfold fieldS;simp;omega
 have hflat:=Y7G (fieldS x.1 x.2).length (fieldS x.1 x.2) (x.1.length+2) Om (l0b _);have hhd:=fl_hd (fieldS x.1 x.2).length (fieldS x.1 x.2) (x.1.length+2) Om (l0b _);obtain⟨a,L,hfl,hka⟩:=fl_first (s:=fieldS x.1 x.2) (k:=x.1.length+2) Om Om;rw[hfl] at hflat hhd;rw[l1c] at hflat;have hend:(fieldS x.1 x.2).any endB=false:=by unfold fieldS;rw [l3w,l3w,V,U];rfl
 have hno :∀b∈a::L,10∉b:=fun b hb e=>by
  rw[l1s] at hend;refine hend 10 ?_ Dc;rw[<-hflat,<-l1c];exact List.mem_flatten.2 ⟨b,hb,e⟩
 obtain⟨E,u⟩ :∃E,a=x.1++58::32::E:=by
  refine⟨a.drop (x.1.length+2),?_⟩;have Z:a.take (x.1.length+2)=(fieldS x.1 x.2).take (x.1.length+2):=by rw[<-hflat,l1T hka]
  have e2:(fieldS x.1 x.2).take (x.1.length+2)=x.1++[58,32]:=by
   unfold fieldS;rw[l1T Sm,l0P Sm]
  conv=>lhs;rw [<-l0X (x.1.length+2) a,Z,e2]
  simp
 have hvv:E++L.flatten=x.2:=by
  have:x.1++([58,32]++(E++L.flatten))=x.1++([58,32]++x.2):=by
   unfold fieldS at hflat;rw[u] at hflat;simpa using hflat
  exact l3h (l3h this)
 have hbeg:beg a=some (x.1,32::E):=by
  have hix:ixB a 58=(x.1.length:Int):=by rw[u];exact ixB_name Y
  have ht:a.take x.1.length=x.1:=by rw[u];exact l1p
  have hd:a.drop (x.1.length+1)=32::E:=by
   rw[u,l2g,l2c Om,l07,show x.1.length+1-x.1.length=1 by omega];rfl
  unfold beg;rw[hix,l00 Om,l0q,ht,Ybc J,l01 J,hd]
 have hane:a≠ []:=by rw[u];simp
 have hisB:isB a=false:=by
  rw[u];cases N:x.1 with
  | nil=>rw[N] at K;simp at K
  | cons c n =>
    show blk c=false
    rw[bl_blk,l0g (YbR J c (by rw[N];simp))]
 have hL :∀b∈L,10∉b/\isB b=true:=fun b hb=>by
  refine⟨hno b (by simp [hb]),?_⟩;obtain⟨j,hj⟩:=List.getElem?_of_mem hb;have:=hhd j b (by rw[l1g];exact hj);cases b with
  | nil=>cases this
  | cons c b =>
    show blk c=true
    rw[bl_blk];unfold Pf.hd at this;simpa only[Bool.not_eq_false'] using this
 unfold fieldB linesOf;rw[hfl,l0v,l0s,rd_beg (hno a Sm) hane hisB hbeg,YaA x.1 r L out (32::E) hL];simp only[l09,hvv,l05,l1n]
theorem Y9q (r:Ls):∀(l out:List Fld),(∀x∈l,(faultR x.1 x.2).1=0)->rd out (l.flatMap fieldB++([13,10]++r))=(out++l.map (fun x=>(x.1,32::x.2)),(l.flatMap fieldB).length+2)
 | [],out,h=>by
   show rd out ([13,10]++r)=_
   rw[rd_stop];simp
 | x::l,out,h=>by
   rw[l0v,l0s,rd_field (h x Sm),Y9q r l _ (fun y hy=>h y (by simp [hy]))];simp only[l0p,l0s,l1z,l05,l1n]
theorem YbS {x:Fld}(hf:(faultR x.1 x.2).1=0):cl (x.1,32::x.2)=x:=by
 obtain⟨_,K,N,E,_⟩:=Y3s hf;obtain⟨u,J⟩:=Y8j E;have e:rplB (32::x.2)=32::x.2:=by
  have hv:rplB x.2=x.2:=by
   unfold rplB
   conv=>rhs;rw [<-List.map_id x.2]
   apply l2K;intro c hc;rw[l1s] at u;have:=u c hc;unfold endB at this;unfold rp1;rw[l00];rfl;rintro(rfl|rfl)
   . exact this Dc
   exact this Dc
  show rp1 32::rplB x.2=_
  rw[hv];rfl
 unfold cl;dsimp only;rw[e];have:trimB (32::x.2)=x.2:=by unfold trimB;rw [Y5u Dc];exact J
 rw[this]
theorem Y9r :∀{l:List Fld} {i:Nat},(∀x∈l,(cl x).2.length<=4000)->firstL i l=none
 | [],i,h=>rfl
 | x::r,i,h=>by
   rw[firstL,l00,Y9r (fun y hy=>h y (by simp [hy]))];unfold longF;rw[decide_eq_true_eq];have:=h x Sm;omega
theorem Y9s {l:List Fld}(h:(valR l).1=0)(r:Ls)(hs:(headB l++r).length<=12000):readR (headB l++r)=(l,((headB l).length:Int),(0,0)):=by
 obtain⟨_,u,hv⟩:=Y4q h;have hr:rdF (headB l++r).length [] (headB l++r)=(l.map (fun x=>(x.1,32::x.2)),(headB l).length):=by
  have:=Y9q r l [] hv;rw[l07] at this;show rd [] (headB l++r)=_
  unfold headB;rw[l0s,this,l05];rfl
 have hmap:(l.map (fun x:Fld=>(x.1,32::x.2))).map cl=l:=by
  rw[l3c]
  conv=>rhs;rw [<-List.map_id l]
  apply l2K;intro x hx;exact YbS (hv x hx)
 unfold readR;rw[l00 Om,hr];dsimp only;rw[l0w,l00 Om,Y9r,hmap];intro y hy;obtain⟨x,hx,rfl⟩:=l0Z.1 hy;rw[YbS (hv x hx)];exact(Y3s (hv x hx)).2.2.1
end Go.Ph.Hd
end
section
namespace Go.Ph.Hd
open Go.Ph.Pl Go.Ph.Pf Go.Ph.Wd
open Go.Ph.Chs (lower)
abbrev Fl : Type:=Ls × Ls
theorem idxL_eq (l:List Fl)(g:Fl->Option Bool)(p:Fl->Bool)(hl:l.length<=1000000)(hg :∀x∈l,g x=some (p x)):∀(d i m:Nat),l.length-i<=d->d<m->i<=l.length->
 idxL l g m (i:Int)=some (match (l.drop i).findIdx? p with|none => .inl ()|some k => .inr ((i+k:Nat):Int)):=by
 intro d;induction d with
 | zero =>
   intro i m u E J;obtain⟨m,rfl⟩ :∃k,m=k+1:=⟨m-1,by omega⟩
   rw[idxL,l00 Om,l0l Om];rfl
 | succ d ih =>
   intro i m u E J;obtain⟨m,rfl⟩ :∃k,m=k+1:=⟨m-1,by omega⟩
   by_cases hi:i<l.length
   . rw[idxL,l01 Om,idx_nat,l06 hi,bsome,hg _ (l0N hi),bsome,l0r hi,List.findIdx?_cons];by_cases hp:p l[i]=true
     . rw[l01 hp,l01 hp];rfl
     rw[l00 hp,l00 hp,chk_succ Om,bsome,ih (i+1) m Om Om Om];cases(l.drop (i+1)).findIdx? p with
     | none=>rfl
     | some k=>simp only[l0Y];congr 3;omega
   rw[idxL,l00 Om,l0l Om];rfl
theorem delL_eq (l:List Fl)(g:Fl->Option Bool)(p:Fl->Bool)(hl:l.length<=1000000)(hg :∀x∈l,g x=some (p x)):∀(d i j m:Nat) (q:List Fl),l.length-j<=d->d<m->i<j->j<=l.length->q.length=l.length->
 q.drop j=l.drop j->q.take i=(l.take j).filter (fun x => !p x)->∃J K,delL g m q (i:Int) (j:Int)=some (J,((K:Nat):Int))/\K<=J.length/\J.take K=l.filter (fun x => !p x):=by
 intro d;induction d with
 | zero =>
   intro i j m q U V Y Z N O u;obtain⟨m,rfl⟩ :∃k,m=k+1:=⟨m-1,by omega⟩
   refine⟨q,i,by rw[delL,l00 Om],by omega,?_⟩;rw[u,l0P Om]
 | succ d ih =>
   intro i j m q U V Y Z N O u;obtain⟨m,rfl⟩ :∃k,m=k+1:=⟨m-1,by omega⟩
   by_cases hj:j<l.length
   . have hq:q[j]? = some l[j]:=by
      have E:(q.drop j)[0]? = q[j]? := by rw[l1o];rfl
      rw[<-E,O,l1o];exact l06 hj
     have hd:q.drop (j+1)=l.drop (j+1):=by
      have E:=l02 (List.drop 1) O;rw[l0V,l0V] at E;exact E
     have htk:l.take (j+1)=l.take j++[l[j]]:=l0K hj;rw[delL,l01 Om,idx_nat,hq,bsome,hg _ (l0N hj),bsome];by_cases hp:p l[j]=true
     . rw[l01 hp,chk_succ Om,bsome];refine ih i (j+1) m q Om Om Om Om N hd ?_;rw[htk,l2u,u];simp [hp]
     rw[l00 hp,put_ok Om Om,bsome,l0q,chk_succ Om,bsome,chk_succ Om,bsome];refine ih (i+1) (j+1) m _ Om Om Om Om (by rw[l1w];exact N) ?_ ?_
     . rw[List.drop_set_of_lt Om];exact hd
     rw[htk,l2u,<-u,l0K (by rw[l1w];omega),List.take_set_of_le (l0b _)];simp [hp]
   refine⟨q,i,by rw[delL,l00 Om],by omega,?_⟩;rw[u,l0P Om]
theorem Ybd (l:List Fl)(g:Fl->Option Bool)(p:Fl->Bool)(hl:l.length<=1000000)(hg :∀x∈l,g x=some (p x)):delFunc l g=some (l.filter fun x => !p x):=by
 have h:=idxL_eq l g p hl hg l.length 0 FU Om (by unfold FU;omega) Om;rw[l1a,l0E] at h;unfold delFunc idxFunc;rw[h,bsome];cases hf:l.findIdx? p with
 | none =>
   dsimp only;rw[bsome,l01 rfl];have:=l2m.1 hf;rw[l2J.2];intro x hx;rw[this x hx];rfl
 | some k =>
   obtain⟨hk,hpk,hbef⟩:=l2F.1 hf;dsimp only;rw[bsome,l0D,l00 Om,chk_succ Om,bsome];have htake:l.take k=(l.take (k+1)).filter (fun x => !p x):=by
    rw[l0K hk,l2u,l2J.2]
    . simp [hpk]
    intro x hx;obtain⟨n,hn,rfl⟩:=List.mem_take_iff_getElem.1 hx;have:=hbef n Om;simpa using this
   obtain⟨K,N,u,E,J⟩:=delL_eq l g p hl hg l.length k (k+1) FU l Om (by unfold FU;omega) Om Om rfl rfl htake;rw[u,bsome];dsimp only;rw[cut_to rfl E,J]
end Go.Ph.Hd
end
section
namespace Go.Ph.Hd
open Go.Ph.Pl Go.Ph.Pf Go.Ph.Wd
theorem read_L2 (J l:List Fld)(U:J.length=l.length)(hl:l.length<=1000)(hb :∀x∈l,x.2.length<=1000000)(u E:Int):∀(d i m:Nat),l.length-i<=d->d<m->i<=l.length->
 Y1R J m u E ((l.take i).map cl++l.drop i) (i:Int)=some (match firstL i (l.drop i) with|some j => .inr ([],0,(1,(j:Int)))|none => .inl (u,E,l.map cl)):=by
 intro d;induction d with
 | zero =>
   intro i m K N O;obtain⟨m,rfl⟩ :∃k,m=k+1:=⟨m-1,by omega⟩
   rw[Y1R,l00 Om,l0P Om,l0l Om,l0m];rfl
 | succ d ih =>
   intro i m K N O;obtain⟨m,rfl⟩ :∃k,m=k+1:=⟨m-1,by omega⟩
   by_cases hi:i<l.length
   . have hlen:((l.take i).map cl).length=i:=by rw[l0w,l0j];omega
     have hd:=l0r hi;have hat:((l.take i).map cl++l.drop i)[i]? = some l[i]:=by
      rw[l0L Om,hlen,l1D,hd];rfl
     have hll:((l.take i).map cl++l.drop i).length=l.length:=by rw[l05,hlen,l08];omega
     have hnext:((l.take i).map cl++l.drop i).set i (l[i].1,trimB (rplB l[i].2))=(l.take (i+1)).map cl++l.drop (i+1):=by
      rw[l1G _ _ Om,hlen,l1D,hd,l2P,l0K hi,l1v,l0s];rfl
     have hbl:=hb l[i] (l0N hi);have hrl:(rplB l[i].2).length=l[i].2.length:=by unfold rplB;rw [l0w]
     have hrep:Y0N l[i].2=some (rplB l[i].2):=by unfold Y0N;rw [l01 hbl];rfl
     have hfl:firstL i (l.drop i)=if longF l[i]=true then some i else firstL (i+1) (l.drop (i+1)):=by rw[hd,firstL]
     rw[Y1R,l01 Om,idx_nat,hat,bsome,hrep,bsome,Y7B _ (by unfold Big;omega),bsome,hfl];unfold longF;by_cases hL:4000<(cl l[i]).2.length
     . rw[l01 (by have:(trimB (rplB l[i].2)).length=(cl l[i]).2.length:=rfl;omega),l01 (l0f hL),Y0Z,bsome]
     rw[l00 (by have:(trimB (rplB l[i].2)).length=(cl l[i]).2.length:=rfl;omega),l00 (by simpa using hL),bsome,put_ok Om Om,bsome,l0q,hnext,chk_succ Om,bsome]
     exact ih (i+1) m Om Om Om
   rw[Y1R,l00 Om,l0P Om,l0l Om,l0m];rfl
theorem Y8P (p:Ls):Y44 p=some (readR p):=by
 unfold Y44 readR;by_cases h:12000<p.length
 . rw[l01 Om,l01 h,Y0Z,bsome]
 have u:=read_L1 p Om p.length 0 FU [] Om (by unfold FU;omega) Om ok0;rw[l1a,l0E,l0D] at u;obtain⟨hok,hn⟩:=Yay p.length 0 [] p ok0;obtain⟨⟨out,n⟩,hr⟩ :∃q,rdF p.length [] p=q:=⟨_,rfl⟩
 rw[hr] at u hok hn ⊢;dsimp only at u hok hn ⊢;rw[l00 Om,u,bsome,l00 h];dsimp only;by_cases E:60<out.length
 . rw[l01 Om,l01 E,Y0Z,bsome]
 have ht:=read_L2 out out rfl Om (fun x hx=>by have:=hok.2 x hx;omega) 0 0 out.length 0 FU Om (by unfold FU;omega) Om;rw[l1a,l2T,l0E,l1d,l07] at ht;have hnew:Y2V ([[0],[32],[13],[32]]:List Ls)=some ():=rfl;rw[l00 Om,l00 E,hnew,bsome,ht,bsome];cases firstL 0 out with
 | some j=>rfl
 | none=>rfl
end Go.Ph.Hd
namespace Go.Ph.Wd
open Go.Ph.Pl Go.Ph.Pf Go.Ph.Hd
end Go.Ph.Wd
end
section
namespace Go.Ph.Sg
open Go.Ph.Pl Go.Ph.Pf Go.Ph.Wd Go.Ph.Hd
open Go.Ph.Chs (lowB lower)
abbrev Bt : Type:=Ls
abbrev Msg : Type:=List Fld × Bt
theorem allB {p:UInt8->Prop}(h :∀n,n<256->p (UInt8.ofNat n))(c:UInt8):p c:=by
 have:=h c.toNat c.toNat_lt;rwa [UInt8.ofNat_toNat] at this
theorem fail_eq (a b:Int):Y08 (a,b)=some (!decide (a=0)):=rfl
theorem YbT (a b:Int):Y03 a b=some (a,b):=by unfold Y03;rfl
theorem Y2Q : Y0k=some (0,0):=rfl
theorem low_step (c:UInt8):(c+97)-65=c+32:=by
 refine allB (p:=fun c=>(c+97)-65=c+32) ?_ c;decide +kernel
theorem set_mid {α:Type}(f:α->α)(l:List α)(i:Nat)(h:i<l.length):((l.take i).map f++l.drop i).set i (f l[i])=(l.take (i+1)).map f++l.drop (i+1):=by
 have u:((l.take i).map f).length=i:=by rw[l0w,l0j];omega
 rw[l1G _ _ Om,u,l1D,drop_cons h,l2P,l0K h,l1v,l0s];rfl
theorem low_L1 (l:Bt)(hl:Big l):∀(k i m:Nat),l.length-i<=k->k<m->i<=l.length->Y1u l m ((l.take i).map lowB++l.drop i) (i:Int)=some (lower l):=by
 intro k;induction k with
 | zero =>
   intro i m u J K;obtain⟨m,rfl⟩ :∃k,m=k+1:=⟨m-1,by omega⟩
   obtain rfl:i=l.length:=by omega
   rw[Y1u,l00 Om,l0M,l0I,l0m];rfl
 | succ k ih =>
   intro i m u J K;obtain⟨m,rfl⟩ :∃k,m=k+1:=⟨m-1,by omega⟩
   by_cases hi:i<l.length
   . have hlen:((l.take i).map lowB++l.drop i).length=l.length:=by rw[l05,l0w,l0j,l08];omega
     have hat:((l.take i).map lowB++l.drop i)[i]? = some l[i]:=by
      have u:((l.take i).map lowB).length=i:=by rw[l0w,l0j];omega
      rw[l0L Om,u,l1D,l1o,l1M];exact l06 hi
     unfold Big at hl;rw[Y1u,l01 Om,idx_nat,hat,bsome];have hset:=set_mid lowB l i hi;by_cases hc:65<=l[i].toNat/\l[i].toNat<=90
     . rw[l01 hc.1,l0f hc.2,bsome,l01 rfl,bsome,put_ok Om Om,bsome,chk_succ Om,bsome,low_step,l0q];have hlow:lowB l[i]=l[i]+32:=by unfold lowB;rw [l01 hc]
       rw[<-hlow,hset];exact ih (i+1) m Om Om Om
     have hlow:lowB l[i]=l[i]:=by unfold lowB;rw [l00 hc]
     rw[hlow] at hset;have hself:((l.take i).map lowB++l.drop i).set i l[i]=(l.take i).map lowB++l.drop i:=by
      refine l1O fun j=>?_
      by_cases hj:i=j
      . subst hj;rw [l2Q Om,hat]
      rw[List.getElem?_set_ne hj]
     rw[hself] at hset;have hb:(if 65<=l[i].toNat then some (decide (l[i].toNat<=90)) else some false)=some false:=by
      by_cases E:65<=l[i].toNat
      . rw[l01 E,l0g (fun N=>hc ⟨E,N⟩)]
      rw[l00 E]
     rw[hb,bsome,l00 l03,chk_succ Om,bsome,hset];exact ih (i+1) m Om Om Om
   obtain rfl:i=l.length:=by omega
   rw[Y1u,l00 Om,l0M,l0I,l0m];rfl
theorem YbU {l:Bt}(hl:Big l):Y3K l=some (lower l):=by
 unfold Y3K;have hb:=hl;unfold Big at hb;rw[toB_ok Om,bsome];have:=low_L1 l hl l.length 0 FU Om (FU_gt Om) Om;rw[l2T,l1d,l07,l0E] at this;rw[show ((0:Nat):Int)=0 from rfl] at this;rw[this,bsome]
theorem Ya3 (l:Bt):(lower l).length=l.length:=l0w ..
theorem Y3p {a b:Bt}(ha:Big a)(hb:Big b):Y0X a b=some (decide (lower a=lower b)):=by
 unfold Y0X;by_cases h:a.length=b.length
 . rw[l01 Om,YbU ha,bsome,YbU hb,bsome,bsome]
 rw[l00 Om,bsome,l0g];intro u;have:=l02 List.length u;rw[Ya3,Ya3] at this;exact h this
end Go.Ph.Sg
end
section
namespace Go.Ph.Sg
open Go.Ph.Pl Go.Ph.Pf Go.Ph.Wd Go.Ph.Hd
open Go.Ph.Chs (lowB lower)
theorem Y7N :∀(s sub:Bt) {j:Nat},Lib.index s sub=(j:Int)->j+sub.length<=s.length
 | [],sub,j,h=>by
   rw[Lib.index] at h;split at h
   . rename_i he;have:sub=[]:=List.isEmpty_iff.1 he;subst this;simp at h ⊢;omega
   omega
 | b :: s,sub,j,h=>by
   rw[Lib.index] at h;split at h
   . rename_i he;have:=(List.isPrefixOf_iff_prefix.1 he).length_le;omega
   split at h
   . omega
   rename_i hne;have hge:=Lib.index_ge s sub;have u:Lib.index s sub≠-1:=by simpa using hne
   obtain⟨k,hk⟩ :∃k:Nat,Lib.index s sub=(k:Int):=⟨(Lib.index s sub).toNat,by omega⟩
   have:=Y7N s sub hk;rw[l04];omega
theorem YbV {α:Type}(l:List α):cut l 0 (l.length:Int)=some l:=by
 have:=cut_from (l:=l) (i:=0) (a:=0) rfl Om;rwa [l0E] at this
theorem mw_L2 (L:List Bt)(o:Bt)(hL :∀a∈L,a.length<=998)(hl:L.length<=5000)(ho:o.length<=1000000):Y1e L FU o 0=some (o++L.flatMap crlf):=by
 rw[foldI0 (L:=fun m s i=>Y1e L m s i) L (fun o a=>o++crlf a) id (fun i s=>s.length<=o.length+1000*i) Om ?_ ?_ o Sm,Y42]
 . rfl
 . intro m s hs;rw[Y1e,l00 Om];rfl
 intro m s i a ha hs;have hi:=(l0c.1 ha).1;have u:=hL a (l0S ha);refine⟨by unfold crlf;simp only[l05,l04,l0d];omega,?_⟩;rw[Y1e,l01 Om,idx_nat,ha,bsome,app_ok Om,bsome,app_ok Ol,bsome,chk_succ Om,bsome];unfold crlf;rw[l0s]
theorem mw_L1 (p:Msg)(hl:p.1.length<=60)(h :∀x∈p.1,(faultR x.1 x.2).1=0):Y1f p FU [] 0=some (p.1.flatMap fieldB):=by
 rw[foldI0 (L:=fun m s i=>Y1f p m s i) p.1 (fun o x=>o++fieldB x) id (fun i s=>s.length<=13000*i) Om ?_ ?_ [] Sm,Y42]
 . rfl
 . intro m s hs;rw[Y1f,l00 Om];rfl
 intro m s i x hx hs;have hi:=(l0c.1 hx).1;have hm:=h x (l0S hx);obtain⟨N,O,U,V⟩:=Y5C hm;obtain⟨u,E,Y,Z,J⟩:=Y3s hm;have K:=Pf.Y5B E;refine⟨by rw[l05];omega,?_⟩;rw[Y1f,l01 Om,idx_nat,hx,bsome,Y50 _ _ (by unfold Big;omega) (by unfold Big;omega),u,bsome];dsimp only;rw[mw_L2 _ _ J Om Om,bsome,chk_succ Om,bsome];rfl
theorem mw_eq (p:Msg)(h:(valR p.1).1=0)(hb:p.2.length<=140737488355328):Y29 p=some (p.1.flatMap fieldB++[13,10]++p.2):=by
 obtain⟨J,u,E⟩:=Y4q h;have hl:=Y7L u E;unfold Y29;rw[mw_L1 p u E,bsome,app_ok Ol,bsome,app_ok1 Ol,bsome]
theorem body_L1 (l:Bt)(hl:l.length<=140737488355328):∀(k i m c:Nat),l.length-i<=k->k<m->i<=l.length->c<=i->∃o,Y0g l m (c:Int) (i:Int)=some o:=by
 intro k;induction k using Nat.strongRecOn with
 | _ k ih =>
   intro i m c Z h2 h3 h4;obtain⟨m,rfl⟩ :∃k,m=k+1:=⟨m-1,by omega⟩
   rw[Y0g];by_cases hi:i<l.length
   . rw [l01 Om,idx_nat,l06 hi,bsome];have hb :∃b,(if l[i]=13 then(chk ((i:Int)+1)).bind fun K=>(if K<(l.length:Int) then(chk ((i:Int)+1)).bind fun N=>(idx l N).bind fun O=>some (decide (O=10)) else some false) else some false)=some b/\(b=true->i+1<l.length):=by
      by_cases E:l[i]=13
      . rw[l01 E,chk_succ Om,bsome];by_cases u:i+1<l.length
        . rw[l01 Om,bsome,idx_nat,l06 u,bsome];exact ⟨_,rfl,fun _=>u⟩
        rw[l00 Om];exact ⟨_,rfl,fun h=>by cases h⟩
      rw[l00 E];exact ⟨_,rfl,fun h=>by cases h⟩
     obtain⟨b,U,V⟩:=hb;rw[U,bsome];cases b with
     | true =>
       have u:=V rfl;rw[l01 rfl,chk_succ Om,bsome,chk_succ Om,bsome];exact ih (l.length-(i+1+1)) Om (i+1+1) m 0 (l0b _) Om Om Om
     | false =>
       rw[l00 l03];obtain⟨J,Y⟩ :∃J,(if l[i]=13 then some true else some (decide (l[i]=10)))=some J:=by split <;> exact⟨_,rfl⟩
       rw[Y,bsome];cases J with
       | true=>rw[l01 rfl];exact ⟨_,rfl⟩
       | false =>
         rw[l00 l03,chk_succ Om,bsome];split
         . exact⟨_,G⟩
         rw[chk_succ Om,bsome];exact ih (l.length-(i+1)) Om (i+1) m (c+1) (l0b _) Om Om Om
   rw[l00 Om];exact ⟨_,rfl⟩
theorem YaB (l:Bt)(hl:l.length<=140737488355328):∃a b,Y3g l=some (a,b):=by
 unfold Y3g Y2K;obtain⟨o,ho⟩:=body_L1 l hl l.length 0 FU 0 Om (FU_gt Om) Om Om;have ho':Y0g l FU 0 0=some o:=ho;rw[ho',bsome];have fin :∀E:Int,∃a b,(if E=11 then(Y03 11 (-5)).bind fun x=>some (x.1,x.2) else if E=1 then(Y03 1 (-6)).bind fun x=>some (x.1,x.2) else Y0k.bind fun x=>some (x.1,x.2))=some (a,b):=fun E=>by
  rw[YbT,YbT,Y2Q,bsome,bsome,bsome];split
  . exact⟨_,_,G⟩
  split <;> exact⟨_,_,rfl⟩
 cases o with
 | inl u=>exact fin 0
 | inr n=>exact fin n
theorem mvalid (m:Msg)(hb:BigF m.1)(hm:m.2.length<=140737488355328):∃a b,Y0G m=some (a,b)/\(a=0->(valR m.1).1=0/\m.2.length<=12000):=by
 unfold Y0G;rw[Y3o m.1 hb,bsome];obtain⟨⟨a,b⟩,hv⟩ :∃p,valR m.1=p:=⟨_,rfl⟩
 rw[hv];dsimp only;rw[fail_eq,bsome];by_cases ha:a=0
 . have E:(valR m.1).1=0:=by rw[hv];exact ha
   rw[l0f ha,l00 Dc,mw_eq (m.1,m.2) E hm,bsome];obtain⟨x,y,hxy⟩:=YaB m.2 hm;by_cases u:(12000:Int)<((m.1.flatMap fieldB++[13,10]++m.2).length:Int)
   . rw[l01 u,YbT,bsome];exact⟨_,_,G,fun h=>by cases h⟩
   rw[l00 u,hxy,bsome];refine⟨_,_,G,fun _=>⟨by simpa using ha,?_⟩⟩;rw[l05] at u;omega
 rw[l0g ha,l01 Dc];exact⟨_,_,G,fun h=>absurd h ha⟩
theorem sq_L1 (s:Bt)(hs:s.length<=1000000):∀(k i m:Nat) (o:Bt),s.length-i<=k->k<m->i<=s.length->o.length<=i->∃r,Y0q s m o (i:Int)=some r/\r.length<=s.length:=by
 intro k;induction k with
 | zero =>
   intro i m o N O U V;obtain⟨m,rfl⟩ :∃k,m=k+1:=⟨m-1,by omega⟩
   rw[Y0q,l00 Om];exact ⟨_,rfl,by omega⟩
 | succ k ih =>
   intro i m o N O U V;obtain⟨m,rfl⟩ :∃k,m=k+1:=⟨m-1,by omega⟩
   rw[Y0q];by_cases hi:i<s.length
   . rw [l01 Om,idx_nat,l06 hi,bsome,Y34,bsome];obtain⟨q,hq⟩ :∃q:UInt8 ⊕ Unit,(if decide (Go.Ph.Qp.bl s[i])=true then((if (0:Int)<(o.length:Int) then(chk ((o.length:Int)-1)).bind fun E=>(idx o E).bind fun J=>some (decide (J=32)) else some false)).bind fun K=>(if K=true then some (.inr ()) else some (.inl 32)) else some (.inl s[i]))=some q:=by
      split
      . by_cases ho:0<o.length
        . rw[l01 Om,chk_pred Om Om,bsome,idx_nat,l06 Om,bsome,bsome];split <;> exact⟨_,rfl⟩
        rw[l00 Om,bsome];exact ⟨_,rfl⟩
      exact⟨_,G⟩
     rw[hq,bsome];cases q with
     | inl c =>
       dsimp only;rw[app_ok Ol,bsome,chk_succ Om,bsome];exact ih (i+1) m _ Om Om Om Ol
     | inr u =>
       dsimp only;rw[chk_succ Om,bsome];exact ih (i+1) m _ Om Om Om Om
   rw[l00 Om];exact ⟨_,rfl,by omega⟩
theorem trim_tot (a:Bt)(ha:a.length<=1000000):∃r,Y1D a [32]=some r/\r.length<=a.length:=by
 unfold Y1D Y13 Y0n;by_cases h:1<=a.length
 . have u:(([32]:Bt).length:Int)<=(a.length:Int):=by simp;omega
   rw[l01 u,show (a.length:Int)-(([32]:Bt).length:Int)=((a.length-1:Nat):Int) by simp;omega,chk_ok Om Om,bsome,cut_from rfl Om,bsome,bsome,bsome];split
   . rw[bsome,cut_to rfl Om,bsome,bsome];exact⟨_,G,by rw[l0j];omega⟩
   exact⟨_,by rw[bsome],l0b _⟩
 have u :¬(([32]:Bt).length:Int)<=(a.length:Int):=by simp;omega
 rw[l00 u,bsome,bsome,l00 l03,bsome];exact⟨_,G,l0b _⟩
theorem sq_tot (s:Bt)(hs:s.length<=1000000):∃r,Y1Z s=some r/\r.length<=s.length:=by
 unfold Y1Z;obtain⟨a,E,K⟩:=sq_L1 s hs s.length 0 FU [] Om (FU_gt Om) Om Sm;have u:Y0q s FU [] 0=some a:=E;obtain⟨r,J,N⟩:=trim_tot a Om;rw[u,bsome,J,bsome];exact⟨_,G,by omega⟩
theorem rep2_len (n:Nat):(Lib.repeatL ([13,10]:Bt) n).length=2*n:=by
 induction n with
 | zero=>rfl
 | succ n ih =>
   rw[Lib.repeatL];simp only[l05,l04,l0d,ih];omega
theorem YaC (x o:Bt)(n:Nat)(hx:x.length<=100000)(hn:n<=100000)(ho:o.length<=100000):∃(o':Bt) (n':Nat),Y1N (o,(n:Int)) x=some (o',(n':Int))/\o'.length+2*n'<=o.length+2*n+x.length+2:=by
 unfold Y1N;dsimp only;obtain⟨s,u,E⟩:=sq_tot x Om;rw[u,bsome];by_cases hs:s=[]
 . rw[l01 hs,chk_succ Om,bsome];exact⟨o,n+1,G,by omega⟩
 have hr:=rep2_len n;rw[l00 hs];unfold Y2y;rw[l01 ⟨by omega,by omega,by simp;omega⟩,bsome,l0q,cat_ok Om,bsome,cat_ok Ol,bsome,app_ok Ol,bsome];refine⟨_,0,G,?_⟩;simp only[l05,l04,l0d];omega
theorem Ybe (x:Fld)(E:x.1.length<=60)(J:x.2.length<=4000):∃r,Y3l x=some r/\r.length<=4100:=by
 unfold Y3l;obtain⟨s,u,K⟩:=sq_tot x.2 Om;have hl:=Ya3 x.1;rw[YbU (by unfold Big;omega),bsome,cat_ok Ol,bsome,u,bsome,cat_ok Ol,bsome,cat_ok Ol,bsome];exact⟨_,G,by simp only[l05,l04,l0d];omega⟩
def okL (l:List Fld):Prop :=∀x∈l,x.1.length<=60/\x.2.length<=4000
theorem okL_of {l:List Fld}(h:(valR l).1=0):okL l/\l.length<=60/\BigF l:=by
 obtain⟨_,u,E⟩:=Y4q h;have hk:okL l:=fun x hx=>by
  obtain⟨_,J,K,_,_⟩:=Y3s (E x hx);exact⟨(Pf.Y5B J).2,K⟩
 exact⟨hk,u,fun x hx=>by have:=hk x hx;unfold Big;omega⟩
end Go.Ph.Sg
end
end
