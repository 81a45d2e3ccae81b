/-
  Kct4, Kct5, Kct6: own texts of this repository (wip/tpl, wip/plans), merged and shaken by wip/tools/pack.py.
-/
import Derived.KernelRfl
import Derived.Test.YtgicephoflppiaaGreatDoorE3c
set_option maxRecDepth 100000
set_option linter.unusedVariables false
set_option linter.unusedSimpArgs false
section
namespace Go.Proofs.YtgicephoflppiaaGreatDoor
open Go Go.RowKit Go.Ph Go.Ph.Pl Go.Ph.Pf
set_option maxHeartbeats 4000000 in
theorem Y6n {p0:List Z02} {a3:Value} {r:(Z0e × Z0a)} (h:Y3A p0=some r):Ct Tryz.prog 9 [a3] (fun M=>SlS M 3 xenc70 a3 p0) (fun v M =>∃cd ce cf cg,v=Value.tuple #[Value.agg #[cd,ce,cf,cg,I r.1.2.2.2.2],Value.agg #[I r.2.1,I r.2.2]]/\Sl M encS cd r.1.1/\Sl M encS ce r.1.2.1/\Sl M encS cf r.1.2.2.1/\Sl M encS cg r.1.2.2.2.1):=by
 refine Ct.of Tryz.func9 (enters Tryz.func9 Kr G) G G G ?_;intro w0 M0 H hp;have z:=hp;unfold Y3A at h;refine SQ (RG (q0f [_,_,_,_,_] H Tz47 G (q00 G) G ?_));intro E w H;refine q0f [_,_] H Tz33 G (q00 G) G ?_;intro J w H;refine NL (TN (SQ (SQ (RG (MV G G (ST (q0O Tu39 z G) G (ST (q0H G G) G (NL (TN ?_)))))))));refine CB (p:=(300:Int)<(p0.length:Int)) G (fun ch=>?_) fun ch=>?_
 ·
  rw[if_pos ch] at h;refine SQ ?_;obtain⟨⟨n2,n3⟩,dj,h⟩:=bnd h;try dsimp only at h
  refine RG (ST (q0A [Value.slice none 0 0,Value.slice none 0 0,Value.slice none 0 0,Value.slice none 0 0,I 0] Tu47 Tz47 (xplaces47 Tu47) G Kr) G (q03 H (Y01 dj) G trivial (q00 G) G ?_));intro e1 M w H u hR;try dsimp only at hR
  obtain rfl:=hR;refine q05 [_,_,_,_,_] H G G G Ku Ts47 G Kf Kf (q00 G) ?_;intro w H;refine q05 [_,_] H G G G Ku Ts33 G Kf Kf (q00 G) ?_;intro w H;refine NL (TN (RT ?_));obtain rfl:=oI h;exact q0M G ⟨_,G,H.loadAgg Km Ta47 Ts47 Kf⟩ ⟨_,G,H.loadAgg Km Ta33 Ts33 Kf⟩ H.ext (⟨_,_,_,_,G,q0L _ _,q0L _ _,q0L _ _,q0L _ _⟩)
 rw[if_neg ch] at h;refine SK (TN (SQ (SQ (RG (MV G G (ST (q0O Tu39 z G) G (MV G G (NL (TN ?_)))))))));obtain⟨o5,U,h⟩:=bnd h;refine q07 (fun e w =>∃(l7:List Ls) (v8:Value) (bp:List Ls) (a4:Value) (bq:List Ls) (a5:Value) (br:List Ls) (a6:Value) (a7:Int) (a8:Int) (a9:Int) (M:Mem),e=[(0,a3),(2,ptr E 0),(3,ptr J 0)]/\St w0 M0 M [.blk E (.cells #[v8,a4,a5,a6,I a7] 47), .blk J (.cells #[I a8,I a9] 33)] w/\SlS M 3 xenc70 a3 p0/\Sl M encS v8 l7/\Sl M encS a4 bp/\Sl M encS a5 bq/\Sl M encS a6 br/\some (.inl (l7,bp,bq,br,a7,a8,a9))=some o5) [] ?_ ?_ (trivial)
 ·
  refine BL ?_;refine q0p (fun m e w =>∃(bs:List Ls) (ai:Value) (bt:List Ls) (aj:Value) (bu:List Ls) (ak:Value) (bv:List Ls) (al:Value) (ar:Int) (au:Int) (av:Int) (b5:Int) (M:Mem),e=[(0,a3),(2,ptr E 0),(3,ptr J 0),(14,a3),(15,I (p0.length:Int)),(16,I b5)]/\St w0 M0 M [.blk E (.cells #[ai,aj,ak,al,I ar] 47), .blk J (.cells #[I au,I av] 33)] w/\SlS M 3 xenc70 a3 p0/\Sl M encS ai bs/\Sl M encS aj bt/\Sl M encS ak bu/\Sl M encS al bv/\Y1a p0 m bs bt bu bv ar au av b5=some o5) FU [(0,_),(2,_),(3,_),(14,_),(15,_),(16,_)] ⟨rfl,rfl,rfl,rfl,rfl,rfl,trivial⟩ ⟨_,_,_,_,_,_,_,_,_,_,_,_,_,rfl,(H.pick (L':=[.blk E (.cells #[Value.slice none 0 0,Value.slice none 0 0,Value.slice none 0 0,Value.slice none 0 0,I 0] 47), .blk J (.cells #[I 0,I 0] 33)]) Kp),z,q0L _ _,q0L _ _,q0L _ _,q0L _ _,U⟩ ?_;rintro cj e w ⟨bs,ai,bt,aj,bu,ak,bv,al,ar,au,av,b5,M,rfl,H,z,ab,ac,ad,ae,U⟩;rcases cj with _|cj
  · rw[Y1a] at U;cases U
  rw[Y1a] at U;refine SQ (RG (ST (q0n G G) G (NL (TN (SQ ?_)))));refine CB (p:=b5<(p0.length:Int)) G (fun bx=>?_) fun bx=>?_
  ·
   rw[if_pos bx] at U;refine SK (TN (SQ (BL (SQ ?_))));obtain⟨aa,d0,U⟩:=bnd U;obtain⟨ds,e2,d9,da⟩:=z.atC d0;refine RG (MV G G (ST (q0w d9 Tu39 Ts70 G G) G (ST (q0C H G da Ta70 Ts70 Kf) G ?_)));refine q0f [_,_,_] H Tz70 G (q00 G) G ?_;intro c4 w H;refine AS G G (q05 [_,_,_] H G G G Ku Ts70 G Kf Kf (q00 G) ?_);intro w H;refine NL (TN (BL (SQ (RG (ST (q01 Tu70 G Ts9 Dc G) G (ST (XL H Ta9) G ?_))))));refine ST (q0q Tu9 G) G (ST (q0H G G) G (AS G G (NL (TN ?_))));refine CB (p:=(4000:Int)<(aa.2.1.length:Int)) G (fun bz=>?_) fun bz=>?_
   ·
    rw[if_pos bz] at U;refine SQ ?_;obtain⟨⟨e3,e4⟩,db,U⟩:=bnd U;try dsimp only at U
    refine RG (ST (q0A [Value.slice none 0 0,Value.slice none 0 0,Value.slice none 0 0,Value.slice none 0 0,I 0] Tu47 Tz47 (xplaces47 Tu47) G Kr) G (MV G G (q03 H (Y01 db) G trivial (q00 G) G ?_)));intro e5 M w H u hR;try dsimp only at hR
    obtain rfl:=hR;refine q05 [_,_,_,_,_] H G G G Ku Ts47 G Kf Kf (q00 G) ?_;intro w H;refine q05 [_,_] H G G G Ku Ts33 G Kf Kf (q00 G) ?_;intro w H;refine NL (TN (RT ?_));obtain rfl:=oI U;try dsimp only at h
    obtain rfl:=oI h;exact q0M G ⟨_,G,H.loadAgg Km Ta47 Ts47 Kf⟩ ⟨_,G,H.loadAgg Km Ta33 Ts33 Kf⟩ H.ext (⟨_,_,_,_,G,q0L _ _,q0L _ _,q0L _ _,q0L _ _⟩)
   rw[if_neg bz] at U;refine SQ ?_;obtain⟨dl,c5,U⟩:=bnd U;refine q07 (fun e w =>∃(ck:Bool) (M:Mem),e=[(0,a3),(2,ptr E 0),(3,ptr J 0),(4,I b5),(5,ptr c4 0),(14,a3),(15,I (p0.length:Int)),(16,I b5),(29,Value.bool ck)]/\St w0 M0 M [.blk E (.cells #[ai,aj,ak,al,I ar] 47), .blk J (.cells #[I au,I av] 33), .blk c4 (.cells #[I aa.1,S aa.2.1,I aa.2.2] 70)] w/\SlS M 3 xenc70 a3 p0/\Sl M encS ai bs/\Sl M encS aj bt/\Sl M encS ak bu/\Sl M encS al bv/\some ck=some dl) [] ?_ ?_ (trivial)
   ·
    refine RG (ST (q01 Tu70 G Ts3 Dc G) G (ST (XL H Ta3) G ?_));by_cases bc:aa.1<(1:Int)
    ·
     rw[if_pos bc] at c5;refine DT bc (q0n G G) G (MV G G (q06 3 G G (PT G G G (AS G G (NL ?_)))));exact MN ⟨_,_,G,(H.pick (L':=[.blk E (.cells #[ai,aj,ak,al,I ar] 47), .blk J (.cells #[I au,I av] 33), .blk c4 (.cells #[I aa.1,S aa.2.1,I aa.2.2] 70)]) Kp),z,ab,ac,ad,ae,c5⟩
    rw[if_neg bc] at c5;refine DF bc (q0n G G) G (MV G G (SG (q01 Tu70 G Ts3 Dc G) G G G (SG (XL H Ta3) G G G ?_)));refine SG (q0H G G) G G G (PF G G G (AS G G (NL ?_)));exact MN ⟨_,_,G,(H.pick (L':=[.blk E (.cells #[ai,aj,ak,al,I ar] 47), .blk J (.cells #[I au,I av] 33), .blk c4 (.cells #[I aa.1,S aa.2.1,I aa.2.2] 70)]) Kp),z,ab,ac,ad,ae,c5⟩
   rintro e w ⟨ck,M,rfl,H,z,ab,ac,ad,ae,dm⟩;obtain rfl:=oI dm;refine TN ?_;refine q09 G (fun c0=>?_) (fun c0=>?_)
   ·
    subst c0;rw[if_pos rfl] at U;refine SQ ?_;obtain⟨⟨e7,e8⟩,dc,U⟩:=bnd U;try dsimp only at U
    refine RG (ST (q0A [Value.slice none 0 0,Value.slice none 0 0,Value.slice none 0 0,Value.slice none 0 0,I 0] Tu47 Tz47 (xplaces47 Tu47) G Kr) G (MV G G (q03 H (Y01 dc) G trivial (q00 G) G ?_)));intro e9 M w H u hR;try dsimp only at hR
    obtain rfl:=hR;refine q05 [_,_,_,_,_] H G G G Ku Ts47 G Kf Kf (q00 G) ?_;intro w H;refine q05 [_,_] H G G G Ku Ts33 G Kf Kf (q00 G) ?_;intro w H;refine NL (TN (RT ?_));obtain rfl:=oI U;try dsimp only at h
    obtain rfl:=oI h;exact q0M G ⟨_,G,H.loadAgg Km Ta47 Ts47 Kf⟩ ⟨_,G,H.loadAgg Km Ta33 Ts33 Kf⟩ H.ext (⟨_,_,_,_,G,q0L _ _,q0L _ _,q0L _ _,q0L _ _⟩)
   subst c0;rw[if_neg l00] at U;refine SQ ?_;obtain⟨dn,b6,U⟩:=bnd U;refine q07 (fun e w =>∃(cl:Bool) (M:Mem),e=[(0,a3),(2,ptr E 0),(3,ptr J 0),(4,I b5),(14,a3),(15,I (p0.length:Int)),(16,I b5),(41,Value.bool cl)]/\St w0 M0 M [.blk E (.cells #[ai,aj,ak,al,I ar] 47), .blk J (.cells #[I au,I av] 33)] w/\SlS M 3 xenc70 a3 p0/\Sl M encS ai bs/\Sl M encS aj bt/\Sl M encS ak bu/\Sl M encS al bv/\some cl=some dn) [] ?_ ?_ (trivial)
   ·
    refine RG (ST (q01 Tu70 G Ts3 Dc G) G (ST (XL H Ta3) G ?_));by_cases bd:aa.1=(6:Int)
    ·
     rw[if_pos bd] at b6;refine DT bd (q0j G G) G (MV G G (SG (q01 Tu70 G Ts3 Dc G) G G G (SG (XL H Ta3) G G G ?_)));by_cases be:aa.2.2<(0:Int)
     ·
      rw[if_pos be] at b6;refine DU be (q0n G G) G G G (SG (q02 G) G G G (q06 3 G G (SG (q0t G G) G G G (PT G G G (AS G G (NL ?_))))));exact MN ⟨_,_,G,(H.pick (L':=[.blk E (.cells #[ai,aj,ak,al,I ar] 47), .blk J (.cells #[I au,I av] 33)]) Kp),z,ab,ac,ad,ae,b6⟩
     rw[if_neg be] at b6;refine DG be (q0n G G) G G G (SG (q02 G) G G G (SG (q01 Tu70 G Ts3 Dc G) G G G (SG (XL H Ta3) G G G ?_)));refine SG (q0H G G) G G G (SG (q0u G G) G G G (PT G G G (AS G G (NL ?_))));exact MN ⟨_,_,G,(H.pick (L':=[.blk E (.cells #[ai,aj,ak,al,I ar] 47), .blk J (.cells #[I au,I av] 33)]) Kp),z,ab,ac,ad,ae,b6⟩
    rw[if_neg bd] at b6;refine DF bd (q0j G G) G (MV G G (q06 8 G G (PF G G G (AS G G (NL ?_)))));exact MN ⟨_,_,G,(H.pick (L':=[.blk E (.cells #[ai,aj,ak,al,I ar] 47), .blk J (.cells #[I au,I av] 33)]) Kp),z,ab,ac,ad,ae,b6⟩
   rintro e w ⟨cl,M,rfl,H,z,ab,ac,ad,ae,dp⟩;obtain rfl:=oI dp;refine TN ?_;refine q09 G (fun c1=>?_) (fun c1=>?_)
   ·
    subst c1;rw[if_pos rfl] at U;refine SQ ?_;obtain⟨⟨ea,eb⟩,dd,U⟩:=bnd U;try dsimp only at U
    refine RG (ST (q0A [Value.slice none 0 0,Value.slice none 0 0,Value.slice none 0 0,Value.slice none 0 0,I 0] Tu47 Tz47 (xplaces47 Tu47) G Kr) G (MV G G (q03 H (Y01 dd) G trivial (q00 G) G ?_)));intro ec M w H u hR;try dsimp only at hR
    obtain rfl:=hR;refine q05 [_,_,_,_,_] H G G G Ku Ts47 G Kf Kf (q00 G) ?_;intro w H;refine q05 [_,_] H G G G Ku Ts33 G Kf Kf (q00 G) ?_;intro w H;refine NL (TN (RT ?_));obtain rfl:=oI U;try dsimp only at h
    obtain rfl:=oI h;exact q0M G ⟨_,G,H.loadAgg Km Ta47 Ts47 Kf⟩ ⟨_,G,H.loadAgg Km Ta33 Ts33 Kf⟩ H.ext (⟨_,_,_,_,G,q0L _ _,q0L _ _,q0L _ _,q0L _ _⟩)
   subst c1;rw[if_neg l00] at U;refine SK (IB (IB (TN ?_)));obtain⟨ed,d1,U⟩:=bnd U;refine RG (ST (q0b G G d1) G (MV G G (NL ?_)));exact AG cj ⟨_,_,_,_,_,_,_,_,_,_,_,_,_,G,H,z,ab,ac,ad,ae,U⟩ (l04 _)
  rw[if_neg bx] at U;refine q0o (q04 (q04 (q0g ?_)));exact MN ⟨_,_,_,_,_,_,_,_,_,_,_,_,G,H,z,ab,ac,ad,ae,U⟩
 rintro e w ⟨l7,v8,bp,a4,bq,a5,br,a6,a7,a8,a9,M,rfl,H,z,V,K,N,O,dq⟩;obtain rfl:=oI dq;try dsimp only at h
 refine TN (SQ (RG (q0f [_,_,_,_,_] H Tz47 G (q00 G) G ?_)));intro a2 w H;refine NL (TN (SQ (SQ (RG (MV G G (ST (q0O Tu39 z G) G (MV G G (NL (TN ?_)))))))));obtain⟨d8,f,h⟩:=bnd h;refine q07 (fun e w =>∃(b7:List Ls) (am:Value) (b8:List Ls) (an:Value) (b9:List Ls) (ao:Value) (ba:List Ls) (ap:Value) (bb:Int) (M:Mem),e=[(2,ptr E 0),(3,ptr J 0),(6,ptr a2 0)]/\St w0 M0 M [.blk E (.cells #[v8,a4,a5,a6,I a7] 47), .blk J (.cells #[I a8,I a9] 33), .blk a2 (.cells #[am,an,ao,ap,I bb] 47),RowI 9 encS am b7,RowI 9 encS an b8,RowI 9 encS ao b9,RowI 9 encS ap ba] w/\Sl M encS v8 l7/\Sl M encS a4 bp/\Sl M encS a5 bq/\Sl M encS a6 br/\some (b7,b8,b9,ba,bb)=some d8) [] ?_ ?_ (trivial)
 ·
  refine BL ?_;replace H:=H.newRow 9 encS;replace H:=H.newRow 9 encS;replace H:=H.newRow 9 encS;replace H:=H.newRow 9 encS;refine q0p (fun m e w =>∃(aw:List Ls) (a1:Value) (ax:List Ls) (Y:Value) (ay:List Ls) (Z:Value) (az:List Ls) (a0:Value) (b1:Int) (c6:Int) (M:Mem),e=[(2,ptr E 0),(3,ptr J 0),(6,ptr a2 0),(59,a3),(60,I (p0.length:Int)),(61,I c6)]/\St w0 M0 M [.blk E (.cells #[v8,a4,a5,a6,I a7] 47), .blk J (.cells #[I a8,I a9] 33), .blk a2 (.cells #[a1,Y,Z,a0,I b1] 47),RowI 9 encS a1 aw,RowI 9 encS Y ax,RowI 9 encS Z ay,RowI 9 encS a0 az] w/\Sl M encS v8 l7/\Sl M encS a4 bp/\Sl M encS a5 bq/\Sl M encS a6 br/\SlS M 3 xenc70 a3 p0/\Y0n p0 m aw ax ay az b1 c6=some d8) FU [(2,_),(3,_),(6,_),(59,_),(60,_),(61,_)] ⟨rfl,rfl,rfl,rfl,rfl,rfl,trivial⟩ ⟨_,_,_,_,_,_,_,_,_,_,_,rfl,(H.pick (L':=[.blk E (.cells #[v8,a4,a5,a6,I a7] 47), .blk J (.cells #[I a8,I a9] 33), .blk a2 (.cells #[(Value.slice none 0 0),(Value.slice none 0 0),(Value.slice none 0 0),(Value.slice none 0 0),I 0] 47),RowI 9 encS (Value.slice none 0 0) [],RowI 9 encS (Value.slice none 0 0) [],RowI 9 encS (Value.slice none 0 0) [],RowI 9 encS (Value.slice none 0 0) []]) Kp),V,K,N,O,z,f⟩ ?_;rintro b2 e w ⟨aw,a1,ax,Y,ay,Z,az,a0,b1,c6,M,rfl,H,V,K,N,O,z,f⟩;rcases b2 with _|b2
  · rw[Y0n] at f;cases f
  rw[Y0n] at f;refine SQ (RG (ST (q0n G G) G (NL (TN (SQ ?_)))));refine CB (p:=c6<(p0.length:Int)) G (fun bf=>?_) fun bf=>?_
  ·
   rw[if_pos bf] at f;refine SK (TN (SQ (BL (SQ ?_))));obtain⟨b4,cm,f⟩:=bnd f;obtain⟨dt,ee,de,df⟩:=z.atC cm;refine RG (ST (q0w de Tu39 Ts70 G G) G (ST (q0C H G df Ta70 Ts70 Kf) G ?_));refine q0f [_,_,_] H Tz70 G (q00 G) G ?_;intro ef w H;refine q05 [_,_,_] H G G G Ku Ts70 G Kf Kf (q00 G) ?_;intro w H;refine NL (TN (SQ (RG (ST (q01 Tu70 G Ts3 Dc G) G (ST (XL H Ta3) G ?_)))));refine NL (TN (BL (SQ (RG (ST (q0j G G) G (AS G G (NL (TN ?_))))))));refine CB (p:=b4.1=(1:Int)) G (fun bg=>?_) fun bg=>?_
   ·
    rw[if_pos bg] at f;obtain⟨cn,d2,f⟩:=bnd f;refine RG (ST (q01 Tu47 G Ts45 Dc G) G (XC (A:=[.blk a2 (.cells #[a1,Y,Z,a0,I b1] 47),RowI 9 encS a1 aw]) H (Y5r d2 :) G trivial (q00 G) G Kt ?_));intro eg M w its H u hR;replace z:=z.mono u;replace V:=V.mono u;replace K:=K.mono u;replace N:=N.mono u;replace O:=O.mono u;obtain⟨c7,rfl,rfl⟩:=hR;simp only[l01,l02] at H;refine NL (IB (IB (TN ?_)));obtain⟨du,co,f⟩:=bnd f;refine RG (ST (q0b G G co) G (MV G G (NL ?_)));exact AG b2 ⟨_,_,_,_,_,_,_,_,_,_,_,G,(H.pick (L':=[.blk E (.cells #[v8,a4,a5,a6,I a7] 47), .blk J (.cells #[I a8,I a9] 33), .blk a2 (.cells #[c7,Y,Z,a0,I cn.2.2.2.2] 47),RowI 9 encS c7 cn.1,RowI 9 encS Y ax,RowI 9 encS Z ay,RowI 9 encS a0 az]) Kp),V,K,N,O,z,f⟩ (l04 _)
   rw[if_neg bg] at f;refine SQ (RG (ST (q0j G G) G (AS G G (NL (TN ?_)))));refine CB (p:=b4.1=(2:Int)) G (fun bh=>?_) fun bh=>?_
   ·
    rw[if_pos bh] at f;obtain⟨cp,d3,f⟩:=bnd f;refine RG (ST (q01 Tu47 G Ts45 Dc G) G (ST (q01 Tu70 G Ts9 Dc G) G (ST (XL H Ta9) G ?_)));refine XC (A:=[.blk a2 (.cells #[a1,Y,Z,a0,I b1] 47),RowI 9 encS a1 aw]) H (Y5r d3 :) G trivial (q00 G) G Kt ?_;intro eh M w its H u hR;replace z:=z.mono u;replace V:=V.mono u;replace K:=K.mono u;replace N:=N.mono u;replace O:=O.mono u;obtain⟨c8,rfl,rfl⟩:=hR;simp only[l01,l02] at H;refine NL (IB (IB (TN ?_)));obtain⟨dv,cq,f⟩:=bnd f;refine RG (ST (q0b G G cq) G (MV G G (NL ?_)));exact AG b2 ⟨_,_,_,_,_,_,_,_,_,_,_,G,(H.pick (L':=[.blk E (.cells #[v8,a4,a5,a6,I a7] 47), .blk J (.cells #[I a8,I a9] 33), .blk a2 (.cells #[c8,Y,Z,a0,I cp.2.2.2.2] 47),RowI 9 encS c8 cp.1,RowI 9 encS Y ax,RowI 9 encS Z ay,RowI 9 encS a0 az]) Kp),V,K,N,O,z,f⟩ (l04 _)
   rw[if_neg bh] at f;refine SQ (RG (ST (q0j G G) G (AS G G (NL (TN ?_)))));refine CB (p:=b4.1=(4:Int)) G (fun bi=>?_) fun bi=>?_
   ·
    rw[if_pos bi] at f;obtain⟨cr,d4,f⟩:=bnd f;refine RG (ST (q01 Tu47 G Ts45 Dc G) G (ST (q01 Tu70 G Ts9 Dc G) G (ST (XL H Ta9) G ?_)));refine XC (A:=[.blk a2 (.cells #[a1,Y,Z,a0,I b1] 47),RowI 9 encS Y ax]) H (Y6B d4 :) G trivial (q00 G) G Kt ?_;intro ei M w its H u hR;replace z:=z.mono u;replace V:=V.mono u;replace K:=K.mono u;replace N:=N.mono u;replace O:=O.mono u;obtain⟨c9,rfl,rfl⟩:=hR;simp only[l01,l02] at H;refine NL (IB (IB (TN ?_)));obtain⟨dw,cs,f⟩:=bnd f;refine RG (ST (q0b G G cs) G (MV G G (NL ?_)));exact AG b2 ⟨_,_,_,_,_,_,_,_,_,_,_,G,(H.pick (L':=[.blk E (.cells #[v8,a4,a5,a6,I a7] 47), .blk J (.cells #[I a8,I a9] 33), .blk a2 (.cells #[a1,c9,Z,a0,I cr.2.2.2.2] 47),RowI 9 encS a1 aw,RowI 9 encS c9 cr.2.1,RowI 9 encS Z ay,RowI 9 encS a0 az]) Kp),V,K,N,O,z,f⟩ (l04 _)
   rw[if_neg bi] at f;refine SQ (RG (ST (q0j G G) G (AS G G (NL (TN ?_)))));refine CB (p:=b4.1=(5:Int)) G (fun bj=>?_) fun bj=>?_
   ·
    rw[if_pos bj] at f;obtain⟨ct,d5,f⟩:=bnd f;refine RG (ST (q01 Tu47 G Ts45 Dc G) G (ST (q01 Tu70 G Ts9 Dc G) G (ST (XL H Ta9) G ?_)));refine XC (A:=[.blk a2 (.cells #[a1,Y,Z,a0,I b1] 47),RowI 9 encS Z ay]) H (Y6C d5 :) G trivial (q00 G) G Kt ?_;intro ej M w its H u hR;replace z:=z.mono u;replace V:=V.mono u;replace K:=K.mono u;replace N:=N.mono u;replace O:=O.mono u;obtain⟨ca,rfl,rfl⟩:=hR;simp only[l01,l02] at H;refine NL (IB (IB (TN ?_)));obtain⟨dx,cu,f⟩:=bnd f;refine RG (ST (q0b G G cu) G (MV G G (NL ?_)));exact AG b2 ⟨_,_,_,_,_,_,_,_,_,_,_,G,(H.pick (L':=[.blk E (.cells #[v8,a4,a5,a6,I a7] 47), .blk J (.cells #[I a8,I a9] 33), .blk a2 (.cells #[a1,Y,ca,a0,I ct.2.2.2.2] 47),RowI 9 encS a1 aw,RowI 9 encS Y ax,RowI 9 encS ca ct.2.2.1,RowI 9 encS a0 az]) Kp),V,K,N,O,z,f⟩ (l04 _)
   rw[if_neg bj] at f;refine SQ (RG (ST (q0j G G) G (AS G G (NL (TN ?_)))));refine CB (p:=b4.1=(7:Int)) G (fun bm=>?_) fun bm=>?_
   ·
    rw[if_pos bm] at f;obtain⟨cv,d6,f⟩:=bnd f;refine RG (ST (q01 Tu47 G Ts45 Dc G) G (ST (q01 Tu70 G Ts9 Dc G) G (ST (XL H Ta9) G ?_)));refine XC (A:=[.blk a2 (.cells #[a1,Y,Z,a0,I b1] 47),RowI 9 encS a0 az]) H (Y6D d6 :) G trivial (q00 G) G Kt ?_;intro ek M w its H u hR;replace z:=z.mono u;replace V:=V.mono u;replace K:=K.mono u;replace N:=N.mono u;replace O:=O.mono u;obtain⟨cb,rfl,rfl⟩:=hR;simp only[l01,l02] at H;refine NL (IB (IB (TN ?_)));obtain⟨dy,cw,f⟩:=bnd f;refine RG (ST (q0b G G cw) G (MV G G (NL ?_)));exact AG b2 ⟨_,_,_,_,_,_,_,_,_,_,_,G,(H.pick (L':=[.blk E (.cells #[v8,a4,a5,a6,I a7] 47), .blk J (.cells #[I a8,I a9] 33), .blk a2 (.cells #[a1,Y,Z,cb,I cv.2.2.2.2] 47),RowI 9 encS a1 aw,RowI 9 encS Y ax,RowI 9 encS Z ay,RowI 9 encS cb cv.2.2.2.1]) Kp),V,K,N,O,z,f⟩ (l04 _)
   rw[if_neg bm] at f;refine SQ (RG (ST (q0j G G) G (AS G G (NL (TN ?_)))));refine CB (p:=b4.1=(6:Int)) G (fun bn=>?_) fun bn=>?_
   ·
    rw[if_pos bn] at f;obtain⟨dg,cx,f⟩:=bnd f;refine RG (ST (q01 Tu47 G Ts3 Dc G) G (ST (XL H Ta3) G ?_));refine ST (q01 Tu70 G Ts3 Dc G) G (ST (XL H Ta3) G ?_);refine ST (Ex.orI G G cx) G (ST (q01 Tu47 G Ts3 Dc G) G (q0s [_,_,_,_,_] H G G Ku Kf Ts3 (by first|decide|(simp;done)|(simp;omega)) Kf Kf (q00 G) ?_));intro w H;refine NL (IB (IB (TN ?_)));obtain⟨dz,cy,f⟩:=bnd f;refine RG (ST (q0b G G cy) G (MV G G (NL ?_)));exact AG b2 ⟨_,_,_,_,_,_,_,_,_,_,_,G,(H.pick (L':=[.blk E (.cells #[v8,a4,a5,a6,I a7] 47), .blk J (.cells #[I a8,I a9] 33), .blk a2 (.cells #[a1,Y,Z,a0,I dg] 47),RowI 9 encS a1 aw,RowI 9 encS Y ax,RowI 9 encS Z ay,RowI 9 encS a0 az]) Kp),V,K,N,O,z,f⟩ (l04 _)
   rw[if_neg bn] at f;refine SK (IB (IB (TN ?_)));obtain⟨e0,cz,f⟩:=bnd f;refine RG (ST (q0b G G cz) G (MV G G (NL ?_)));exact AG b2 ⟨_,_,_,_,_,_,_,_,_,_,_,G,(H.pick (L':=[.blk E (.cells #[v8,a4,a5,a6,I a7] 47), .blk J (.cells #[I a8,I a9] 33), .blk a2 (.cells #[a1,Y,Z,a0,I b1] 47),RowI 9 encS a1 aw,RowI 9 encS Y ax,RowI 9 encS Z ay,RowI 9 encS a0 az]) Kp),V,K,N,O,z,f⟩ (l04 _)
  rw[if_neg bf] at f;refine q0o (q04 (q04 (q0g ?_)));exact MN ⟨_,_,_,_,_,_,_,_,_,_,G,H,V,K,N,O,f⟩
 rintro e w ⟨b7,am,b8,an,b9,ao,ba,ap,bb,M,rfl,H,V,K,N,O,dh⟩;obtain rfl:=oI dh;try dsimp only at h
 refine TN (SQ ?_);obtain⟨⟨c2,c3⟩,cc,h⟩:=bnd h;try dsimp only at h
 refine q0Y (fun e w =>∃  (M:Mem),e=[(2,ptr E 0),(3,ptr J 0)]/\St w0 M0 M [.blk E (.cells #[am,an,ao,ap,I bb] 47),RowI 9 encS am b7,RowI 9 encS an b8,RowI 9 encS ao b9,RowI 9 encS ap ba, .blk J (.cells #[I c2,I c3] 33)] w) ?_ ?_
 ·
  refine q0v (m:=4) G G H ?_;intro w H;refine q0F (i:=0) (j:=1) Kr G G ?_ ?_
  ·
   refine ST (q0a H G Km Ta47 Ts47 Kf) G ?_;refine NA (q0i (fuel:=0) [1,2,3] G Kr (q03 H (Y0i cc) G trivial (q00 G) G ?_));intro di M w H u hR;try dsimp only at hR
   obtain rfl:=hR;refine q05 [_,_,_,_,_] H G G G Ku Ts47 G Kf (by simp only[l0f,l0j,(H.rowOne (v:=am) Km).2,(H.rowOne (v:=an) Km).2,(H.rowOne (v:=ao) Km).2,(H.rowOne (v:=ap) Km).2];rfl) (q00 G) ?_;intro w H;refine q05 [_,_] H G G G Ku Ts33 G Kf Kf (q00 G) ?_;intro w H;refine NA (q0d Kr ?_);exact MP ⟨_,G,(H.pick (L':=[.blk E (.cells #[am,an,ao,ap,I bb] 47),RowI 9 encS am b7,RowI 9 encS an b8,RowI 9 encS ao b9,RowI 9 encS ap ba, .blk J (.cells #[I c2,I c3] 33)]) Kp)⟩
  refine q03 H (Y0i cc) G trivial (q00 G) G ?_;intro di M w H u hR;try dsimp only at hR
  obtain rfl:=hR;refine NA (q0i (fuel:=0) [0,2,3] G Kr (ST (q0a H G Km Ta47 Ts47 Kf) G ?_));refine q05 [_,_,_,_,_] H G G G Ku Ts47 G Kf (by simp only[l0f,l0j,(H.rowOne (v:=am) Km).2,(H.rowOne (v:=an) Km).2,(H.rowOne (v:=ao) Km).2,(H.rowOne (v:=ap) Km).2];rfl) (q00 G) ?_;intro w H;refine q05 [_,_] H G G G Ku Ts33 G Kf Kf (q00 G) ?_;intro w H;refine NA (q0d Kr ?_);exact MP ⟨_,G,(H.pick (L':=[.blk E (.cells #[am,an,ao,ap,I bb] 47),RowI 9 encS am b7,RowI 9 encS an b8,RowI 9 encS ao b9,RowI 9 encS ap ba, .blk J (.cells #[I c2,I c3] 33)]) Kp)⟩
 rintro e w ⟨M,rfl,H⟩;refine TN (RT ?_);obtain⟨M,u,ah,H⟩:=H.freezeRow (v:=am) (enc:=encS) (t:=9) Kv;obtain⟨M,u,b3,H⟩:=H.freezeRow (v:=an) (enc:=encS) (t:=9) Kv;replace ah:=ah.mono u;obtain⟨M,u,bo,H⟩:=H.freezeRow (v:=ao) (enc:=encS) (t:=9) Kv;replace ah:=ah.mono u;replace b3:=b3.mono u;obtain⟨M,u,d7,H⟩:=H.freezeRow (v:=ap) (enc:=encS) (t:=9) Kv;replace ah:=ah.mono u;replace b3:=b3.mono u;replace bo:=bo.mono u;obtain rfl:=oI h;exact q0M G ⟨_,G,H.loadAgg Km Ta47 Ts47 Kf⟩ ⟨_,G,H.loadAgg Km Ta33 Ts33 Kf⟩ H.ext (⟨_,_,_,_,G,ah,b3,bo,d7⟩)
theorem Y4p {O:List Z02}{Y:List Z02}{U:Value}{V:Value}{r:Bool}(h:Y1i O Y=some r):Ct Tryz.prog 10 [U,V] (fun M=>SlS M 3 xenc70 U O/\SlS M 3 xenc70 V Y) (fun v M=>v=Value.bool r):=by
 refine Ct.of Tryz.func10 (enters Tryz.func10 Kr G) G G G ?_;intro w0 M0 H hp;obtain⟨E,N⟩:=hp;unfold Y1i at h;refine SQ (RG (AS G G (NL (TN (SQ (SQ (RG (MV G G (ST (q0O Tu39 E G) G (MV G G (ST (q0O Tu39 N G) G (ST (q0E G G) G (NL (TN ?_))))))))))))));refine q09 G (fun u=>?_) (fun u=>?_)
 ·
  replace u :¬((O.length:Int)=(Y.length:Int)):=of_not_decide u;rw[if_neg u] at h;refine SQ (RG (AS G G (NL (TN (RT ?_)))));obtain rfl:=oI h;exact q08 G G H.ext G
 replace u:(O.length:Int)=(Y.length:Int):=of_not_decide' u;rw[if_pos u] at h;refine SK (TN (SQ (SQ (RG (AS G G (NL (TN ?_)))))));obtain⟨o2,f,h⟩:=bnd h;refine q07 (fun e w =>∃  (M:Mem),e=[]/\St w0 M0 M [] w/\some (.inl ())=some o2) [] ?_ ?_ (trivial)
 ·
  refine BL (q0p (fun m e w =>∃(n4:Int) (M:Mem),e=[(0,U),(1,V),(5,I n4)]/\St w0 M0 M [] w/\SlS M 3 xenc70 U O/\SlS M 3 xenc70 V Y/\Y0a O Y m n4=some o2) FU [(0,_),(1,_),(5,_)] ⟨rfl,rfl,rfl,trivial⟩ ⟨_,_,rfl,H,E,N,f⟩ ?_);rintro m5 e w ⟨n4,M,rfl,H,E,N,f⟩;rcases m5 with _|m5
  · rw[Y0a] at f;cases f
  rw[Y0a] at f;refine SQ (SQ (RG (MV G G (MV G G (ST (q0O Tu39 E G) G (ST (q0n G G) G (NL (TN ?_))))))));refine CB (p:=n4<(O.length:Int)) G (fun Z=>?_) fun Z=>?_
  ·
   rw[if_pos Z] at f;refine SK (TN (SQ (BL (SQ ?_))));obtain⟨J,a3,f⟩:=bnd f;obtain⟨ae,ai,a4,a5⟩:=E.atC a3;obtain⟨K,a6,f⟩:=bnd f;obtain⟨ah,aj,a9,aa⟩:=N.atC a6;refine q0v (m:=9) G G H ?_;intro w H;refine TK 0 G (fun _=>q02 G) G (TK 1 G (fun _=>q02 G) G (TK 2 G (fun _=>q0w a4 Tu39 Ts70 G G) G (TK 4 G (fun _=>q02 G) G (TK 5 G (fun _=>q02 G) G (TK 6 G (fun _=>q0w a9 Tu39 Ts70 G G) G (q0B (i:=3) [7] G Kr Kr Kr (q0C H G a5 Ta70 Ts70 Kf) (q00 G) G G (fun _ _=>G) ?_))))));refine q0i (fuel:=0) [7,8] G Kr (ST (q0C H G aa Ta70 Ts70 Kf) G ?_);refine ST (Ex.neqAggC G G Kr (xeq70 J.1 K.1 J.2.1 K.2.1 J.2.2 K.2.2)) G (NA (q0d Kr (TN ?_)));refine q09 G (fun z=>?_) (fun z=>?_)
   ·
    replace z :¬(J.1=K.1/\J.2.1=K.2.1/\J.2.2=K.2.2):=of_not_decide z;rw[if_neg z] at f;refine SQ (RG (AS G G (NL (TN (RT ?_)))));obtain rfl:=oI f;try dsimp only at h
    obtain rfl:=oI h;exact q08 G G H.ext G
   replace z:J.1=K.1/\J.2.1=K.2.1/\J.2.2=K.2.2:=of_not_decide' z;rw[if_pos z] at f;refine SK (IB (TN ?_));obtain⟨ak,a1,f⟩:=bnd f;refine RG (MV G G (ST (q0b G G a1) G (AS G G (NL ?_))));exact AG m5 ⟨_,_,G,H,E,N,f⟩ (l04 _)
  rw[if_neg Z] at f;refine q0o (q04 (q04 (q0g ?_)));exact MN ⟨_,G,H,f⟩
 rintro e w ⟨M,rfl,H,ad⟩;obtain rfl:=oI ad;try dsimp only at h
 refine TN (SQ (RG (AS G G (NL (TN (RT ?_))))));obtain rfl:=oI h;exact q08 G G H.ext G
theorem Y6E {f:Z01}{u:Value}{r:Bool}(h:Y4N f=some r):Ct Tryz.prog 102 [Value.agg #[I f.1,u,S f.2.2.1,I f.2.2.2.1,S f.2.2.2.2.1,I f.2.2.2.2.2]] (fun M=>SlR xrl89 M u f.2.1) (fun v M=>v=Value.bool r):=by
 refine Ct.of Tryz.func102 (enters Tryz.func102 Kr G) G G G ?_;intro J M0 H hp;have z:=hp;unfold Y4N at h;refine SQ (RG (q0I [_,_,_,_,_,_] H G G (q00 G) G ?_));intro E w H;refine AS G G (NL (TN (SQ (RG (ST (q01 Tu89 G Ts3 Dc G) G (ST (XL H Ta3) G ?_))))));refine ST (q0H G G) G (AS G G (NL (TN (RT ?_))));obtain rfl:=oI h;exact q08 G G H.ext G
theorem Y70 {u:Z01}{z:Z01}{E:Value}{J:Value}{r:Bool}(h:Y4u u z=some r):Ct Tryz.prog 126 [Value.agg #[I u.1,E,S u.2.2.1,I u.2.2.2.1,S u.2.2.2.2.1,I u.2.2.2.2.2],Value.agg #[I z.1,J,S z.2.2.1,I z.2.2.2.1,S z.2.2.2.2.1,I z.2.2.2.2.2]] (fun M=>SlR xrl89 M E u.2.1/\SlR xrl89 M J z.2.1) (fun v M=>v=Value.bool r):=by
 refine Ct.of Tryz.func126 (enters Tryz.func126 Kr G) G G G ?_;intro w0 M0 H hp;obtain⟨Y,Z⟩:=hp;unfold Y4u at h;refine SQ (RG (q0I [_,_,_,_,_,_] H G G (q00 G) G ?_));intro a3 w H;refine q0I [_,_,_,_,_,_] H G G (q00 G) G ?_;intro a4 w H;refine AS G G (NL (TN (SQ ?_)));obtain⟨o1,f,h⟩:=bnd h;refine q07 (fun e w =>∃(V:Bool) (M:Mem),e=[(4,Value.bool V)]/\St w0 M0 M [] w/\some V=some o1) [] ?_ ?_ (trivial)
 ·
  refine RG (ST (q01 Tu89 G Ts3 Dc G) G (ST (XL H Ta3) G ?_));refine ST (q01 Tu89 G Ts3 Dc G) G (ST (XL H Ta3) G ?_);by_cases K:u.1=z.1
  ·
   rw[if_pos K] at f;refine DT K (q0j G G) G (MV G G (SG (q01 Tu89 G Ts9 Dc G) G G G (SG (XL H Ta9) G G G ?_)));refine SG (q01 Tu89 G Ts9 Dc G) G G G (SG (XL H Ta9) G G G ?_);by_cases N:u.2.2.1=z.2.2.1
   ·
    rw[if_pos N] at f;refine DU N (q0N G G) G G G (PT G G G (MV G G (SG (q01 Tu89 G Ts3 Dc G) G G G (SG (XL H Ta3) G G G ?_))));refine SG (q01 Tu89 G Ts3 Dc G) G G G (SG (XL H Ta3) G G G ?_);by_cases O:u.2.2.2.1=z.2.2.2.1
    ·
     rw[if_pos O] at f;refine DU O (q0j G G) G G G (PT G G G (MV G G (SG (q01 Tu89 G Ts9 Dc G) G G G (SG (XL H Ta9) G G G ?_))));refine SG (q01 Tu89 G Ts9 Dc G) G G G (SG (XL H Ta9) G G G ?_);by_cases U:u.2.2.2.2.1=z.2.2.2.2.1
     ·
      rw[if_pos U] at f;refine DU U (q0N G G) G G G (PT G G G (MV G G (SG (q01 Tu89 G Ts3 Dc G) G G G (SG (XL H Ta3) G G G ?_))));refine SG (q01 Tu89 G Ts3 Dc G) G G G (SG (XL H Ta3) G G G ?_);refine SG (q0j G G) G G G (PT G G G (AS G G (NL ?_)));exact MN ⟨_,_,G,(H.pick (L':=[]) Kp),f⟩
     rw[if_neg U] at f;refine DG U (q0N G G) G G G (PT G G G (MV G G (q06 5 G G (PF G G G (AS G G (NL ?_))))));exact MN ⟨_,_,G,(H.pick (L':=[]) Kp),f⟩
    rw[if_neg O] at f;refine DG O (q0j G G) G G G (PT G G G (MV G G (q06 5 G G (PF G G G (MV G G (q06 5 G G (PF G G G (AS G G (NL ?_)))))))));exact MN ⟨_,_,G,(H.pick (L':=[]) Kp),f⟩
   rw[if_neg N] at f;refine DG N (q0N G G) G G G (PT G G G (MV G G (q06 5 G G (PF G G G (MV G G (q06 5 G G (PF G G G (MV G G (q06 5 G G (PF G G G (AS G G (NL ?_))))))))))));exact MN ⟨_,_,G,(H.pick (L':=[]) Kp),f⟩
  rw[if_neg K] at f;refine DF K (q0j G G) G (MV G G (q06 5 G G (PF G G G (MV G G (q06 5 G G (PF G G G (MV G G (q06 5 G G (PF G G G (MV G G (q06 5 G G (PF G G G (AS G G (NL ?_))))))))))))));exact MN ⟨_,_,G,(H.pick (L':=[]) Kp),f⟩
 rintro e w ⟨V,M,rfl,H,q8⟩;obtain rfl:=oI q8;refine TN (RT ?_);obtain rfl:=oI h;exact q08 G G H.ext G
theorem Y6F {f:Z01}{u:Z01}{z:Value}{N:Nat}{E:Value}{r:Bool}(h:Y3u f u=some r):Ct Tryz.prog 125 [Value.agg #[I f.1,z,S f.2.2.1,I f.2.2.2.1,S f.2.2.2.2.1,I f.2.2.2.2.2],ptr N 0] (fun M=>SlR xrl89 M z f.2.1/\PtM M N (.cells #[I u.1,E,S u.2.2.1,I u.2.2.2.1,S u.2.2.2.2.1,I u.2.2.2.2.2] 89)/\SlR xrl89 M E u.2.1) (fun v M=>v=Value.bool r):=by
 refine Ct.of Tryz.func125 (enters Tryz.func125 Kr G) G G G ?_;intro Z M0 H hp;obtain⟨J,O,K⟩:=hp;unfold Y3u at h;refine SQ (RG (q0I [_,_,_,_,_,_] H G G (q00 G) G ?_));intro V w H;refine AS G G (NL (TN (SQ ?_)));obtain⟨b1,U,h⟩:=bnd h;refine RG (ST (q0a H G Km Ta89 Ts89 Kf) G ?_);refine ST (q0C H G O.all Ta89 Ts89 Kf) G ?_;refine q03 H (Y70 U) G ⟨J,K⟩ (q00 G) G ?_;intro v6 M w H Y hR;obtain rfl:=hR;refine AS G G (NL (TN (RT ?_)));obtain rfl:=oI h;exact q08 G G H.ext G
theorem Y4I {N:List BT88}{p1c0:Z01}{J:Value}{bp1c0:Nat}{vp1c0_1:Value}{r:Int}(h:Y25 N p1c0=some r):Ct Tryz.prog 124 [J,(Value.func (.func 125) #[] #[ptr bp1c0 0])] (fun M=>SlR xrl89 M J N/\PtM M bp1c0 (.cells #[I p1c0.1,vp1c0_1,S p1c0.2.2.1,I p1c0.2.2.2.1,S p1c0.2.2.2.2.1,I p1c0.2.2.2.2.2] 89)/\SlR xrl89 M vp1c0_1 p1c0.2.1) (fun v M=>v=I r):=by
 refine Ct.of Tf124 (enters Tf124 Kr G) G G G ?_;intro w0 M0 H hp;obtain⟨u,hp1c0,hp1c0_1⟩:=hp;unfold Y25 at h;refine SQ (RG (AS G G (NL (TN (SQ (SQ (RG (MV G G (ST (q0S Tu87 u G) G (MV G G (NL (TN ?_))))))))))));obtain⟨o1,f,h⟩:=bnd h;refine q07 (fun e w =>∃  (M:Mem),e=[]/\St w0 M0 M [] w/\some (.inl ())=some o1) [] ?_ ?_ (trivial)
 ·
  refine BL (q0p (fun m e w =>∃(Z:Int) (M:Mem),e=[(0,J),(1,(Value.func (.func 125) #[] #[ptr bp1c0 0])),(7,I (N.length:Int)),(8,I Z)]/\St w0 M0 M [] w/\SlR xrl89 M J N/\PtM M bp1c0 (.cells #[I p1c0.1,vp1c0_1,S p1c0.2.2.1,I p1c0.2.2.2.1,S p1c0.2.2.2.2.1,I p1c0.2.2.2.2.2] 89)/\SlR xrl89 M vp1c0_1 p1c0.2.1/\Y06 N p1c0 m Z=some o1) FU [(0,_),(1,_),(7,_),(8,_)] ⟨rfl,rfl,rfl,rfl,trivial⟩ ⟨_,_,rfl,H,u,hp1c0,hp1c0_1,f⟩ ?_);rintro m4 e w ⟨Z,M,rfl,H,u,hp1c0,hp1c0_1,f⟩;rcases m4 with _|m4
  · rw[Y06] at f;cases f
  rw[Y06] at f;refine SQ (RG (ST (q0n G G) G (NL (TN (SQ ?_)))));refine CB (p:=Z<(N.length:Int)) G (fun O=>?_) fun O=>?_
  ·
   rw[if_pos O] at f;refine SK (TN (SQ (BL (SQ (RG (MV G G (AS G G (NL (TN (SQ ?_))))))))));obtain⟨z,a8,f⟩:=bnd f;obtain⟨ai,aj,a9,aa,ab,E⟩:=u.atC a8;obtain⟨a0,K,a1,a2,a3,a4⟩:=a9;replace E:a0=z.out.1/\SlR xrl89 _ (hv K) z.out.2.1/\a1=z.out.2.2.1/\a2=z.out.2.2.2.1/\a3=z.out.2.2.2.2.1/\a4=z.out.2.2.2.2.2:=run88 E;obtain⟨rfl,U,rfl,rfl,rfl,rfl⟩:=E;obtain⟨b7,ae,f⟩:=bnd f;refine RG (MV G G (MV G G (MV G G (ST (q0w aa Tu87 Ts89 G G) G (ST (q0C H G ab Ta89 Ts89 Kf) G ?_)))));refine q1i (vs:=[Value.agg #[I z.out.1,(hv K),S z.out.2.2.1,I z.out.2.2.2.1,S z.out.2.2.2.2.1,I z.out.2.2.2.2.2]]) (cap:=[ptr bp1c0 0]) H (Y6F ae) G G ⟨U,hp1c0,hp1c0_1⟩ (q00 G) G ?_;intro ak M w H V hR;replace u:=u.mono V;replace hp1c0_1:=hp1c0_1.mono V;replace hp1c0:=hp1c0.mono V;obtain rfl:=hR;refine NL (TN ?_);refine q09 G (fun Y=>?_) (fun Y=>?_)
   ·
    subst Y;rw[if_pos rfl] at f;refine SQ (RG (MV G G (AS G G (NL (TN (RT ?_))))));obtain rfl:=oI f;try dsimp only at h
    obtain rfl:=oI h;exact q08 G G H.ext G
   subst Y;rw[if_neg l00] at f;refine SK (IB (TN ?_));obtain⟨al,a5,f⟩:=bnd f;refine RG (ST (q0b G G a5) G (MV G G (NL ?_)));exact AG m4 ⟨_,_,G,H,u,hp1c0,hp1c0_1,f⟩ (l04 _)
  rw[if_neg O] at f;refine q0o (q04 (q04 (q0g ?_)));exact MN ⟨_,G,H,f⟩
 rintro e w ⟨M,rfl,H,ah⟩;obtain rfl:=oI ah;try dsimp only at h
 refine TN (SQ (RG (AS G G (NL (TN (RT ?_))))));obtain rfl:=oI h;exact q08 G G H.ext G
theorem Y60 {N:List BT88}{u:Z01}{K:Value}{z:Value}{r:Int}(h:Y3v N u=some r):Ct Tryz.prog 103 [K,Value.agg #[I u.1,z,S u.2.2.1,I u.2.2.2.1,S u.2.2.2.2.1,I u.2.2.2.2.2]] (fun M=>SlR xrl89 M K N/\SlR xrl89 M z u.2.1) (fun v M=>v=I r):=by
 refine Ct.of Tryz.func103 (enters Tryz.func103 Kr G) G G G ?_;intro Y M0 H hp;obtain⟨E,f⟩:=hp;unfold Y3v at h;refine SQ (RG (q0I [_,_,_,_,_,_] H G G (q00 G) G ?_));intro O w H;refine AS G G (NL (TN (SQ ?_)));obtain⟨Z,U,h⟩:=bnd h;refine RG (MV G G ?_);obtain⟨M,J,V,H⟩:=H.freezeVar (b:=O) Kv;replace E:=E.mono J;replace f:=f.mono J;refine ST (q1m G) G (q03 H (Y4I U) G ⟨E,V,f⟩ (q00 G) G ?_);intro v7 M w H J hR;obtain rfl:=hR;refine AS G G (NL (TN (RT ?_)));obtain rfl:=oI h;exact q08 G G H.ext G
theorem Y61 {self:(List BT88)->Z01->Option (List BT88)}(ih :∀{p0:List BT88} {u:Z01} {K:Value} {J:List Z06} {z:Value} {r:List BT88},self p0 u=some r->CtX Tryz.prog 71 [K,Value.agg #[I u.1,z,S u.2.2.1,I u.2.2.2.1,S u.2.2.2.2.1,I u.2.2.2.2.2]] [RowS 89 xrl89.k xrl89.enc K J] (fun M=>RelL xrl89 M J p0/\SlR xrl89 M z u.2.1) (fun v M its =>∃g,RelL xrl89 M g r/\its=[RowS 89 xrl89.k xrl89.enc v g])){p0:List BT88}{u:Z01}{K:Value}{J:List Z06}{z:Value}{r:List BT88}(h:Y3B self p0 u=some r):CtX Tryz.prog 71 [K,Value.agg #[I u.1,z,S u.2.2.1,I u.2.2.2.1,S u.2.2.2.2.1,I u.2.2.2.2.2]] [RowS 89 xrl89.k xrl89.enc K J] (fun M=>RelL xrl89 M J p0/\SlR xrl89 M z u.2.1) (fun v M its =>∃g,RelL xrl89 M g r/\its=[RowS 89 xrl89.k xrl89.enc v g]):=by
 refine q0T Tryz.func71 (enters Tryz.func71 Kr G) G G G ?_;intro w0 M0 H hp;obtain⟨N,f⟩:=hp;unfold Y3B at h;refine SQ (RG (q0I [_,_,_,_,_,_] H G G (q00 G) G ?_));intro U w H;refine AS G G (NL (TN (SQ (SQ ?_))));obtain⟨o1,Z,h⟩:=bnd h;refine q07 (fun e w =>∃(b3:Bool) (M:Mem),e=[(0,K),(3,ptr U 0),(14,Value.bool b3)]/\StX (feet [RowS 89 xrl89.k xrl89.enc K J]) w0 M0 M [RowS 89 xrl89.k xrl89.enc K J, .blk U (.cells #[I u.1,z,S u.2.2.1,I u.2.2.2.1,S u.2.2.2.2.1,I u.2.2.2.2.2] 89)] w/\RelL xrl89 M J p0/\SlR xrl89 M z u.2.1/\some b3=some o1) [] ?_ ?_ (trivial)
 ·
  obtain⟨b4,b9,Z⟩:=bnd Z;refine RG (ST (q0a H G Km Ta89 Ts89 Kf) G ?_);refine q03 H (Y6E b9) G (f) (q00 G) G ?_;intro v8 M w H O hR;replace N:=N.mono O;replace f:=f.mono O;obtain rfl:=hR;refine MV G G ?_;rcases b4 with _|_
  ·
   rw[if_neg l00] at Z;refine q06 4 G G (PF G G G (NL ?_));exact MN ⟨_,_,G,(H.pick (L':=[RowS 89 xrl89.k xrl89.enc K J, .blk U (.cells #[I u.1,z,S u.2.2.1,I u.2.2.2.1,S u.2.2.2.2.1,I u.2.2.2.2.2] 89)]) Kp),N,f,Z⟩
  rw[if_pos rfl] at Z;obtain⟨n6,ba,Z⟩:=bnd Z;refine SG (q02 G) G G G (SG (q0a H G Km Ta89 Ts89 Kf) G G G ?_);refine WR.callLendS (l:=J) (enc:=xrl89.enc) (t:=89) H Km (fun _=>G) (Y60 ba) (fun _ _ _ h=>h) G (fun _ ax hbor=>⟨(q1q (R:=xrl89) hbor (N.mono ax)),(f).mono ax⟩) (q0h G G G) G ?_;intro bn M w H O hR;replace N:=N.mono O;replace f:=f.mono O;obtain rfl:=hR;refine SG (q0n G G) G G G (PT G G G (NL ?_));exact MN ⟨_,_,G,(H.pick (L':=[RowS 89 xrl89.k xrl89.enc K J, .blk U (.cells #[I u.1,z,S u.2.2.1,I u.2.2.2.1,S u.2.2.2.2.1,I u.2.2.2.2.2] 89)]) Kp),N,f,Z⟩
 rintro e w ⟨b3,M,rfl,H,N,f,q8⟩;obtain rfl:=oI q8;refine TN ?_;obtain⟨o9,V,h⟩:=bnd h;refine q07 (fun e w =>∃(ad:List BT88) (a6:Value) (a7:List Z06) (M:Mem),e=[(0,a6),(3,ptr U 0)]/\StX (feet [RowS 89 xrl89.k xrl89.enc K J]) w0 M0 M [RowS 89 xrl89.k xrl89.enc a6 a7, .blk U (.cells #[I u.1,z,S u.2.2.1,I u.2.2.2.1,S u.2.2.2.2.1,I u.2.2.2.2.2] 89)] w/\RelL xrl89 M a7 ad/\SlR xrl89 M z u.2.1/\some ad=some o9) [] ?_ ?_ (trivial)
 ·
  refine q09 G (fun a2=>?_) (fun a2=>?_)
  ·
   subst a2;rw[if_pos rfl] at V;obtain⟨bo,al,V⟩:=bnd V;refine RG (MV G G (ST (q0a H G Km Ta89 Ts89 Kf) G ?_));have Hn:=H;obtain⟨bb,rfl⟩:=f.hd;have H:=Hn;refine q0Q (enc:=xrl89.enc) xty87 ([(u.1,bb,u.2.2.1,u.2.2.2.1,u.2.2.2.2.1,u.2.2.2.2.2)]:List Z06) H (fun _=>G) G Kr G G G (q00 G) G ?_;intro bp M w H O a3;replace N:=N.mono O;replace f:=f.mono O;replace a3:=q1q (R:=xrl89) (l:=([(BT88.of (u.1,u.2.1,u.2.2.1,u.2.2.2.1,u.2.2.2.2.1,u.2.2.2.2.2))]:List BT88)) a3 ⟨(rmk88 ⟨rfl,f,rfl,rfl,rfl,rfl⟩),trivial⟩;refine WR.appRC (R:=xrl89) (l:=p0) xty87 G H N G (fun _=>by repeat first|exact .head|apply Upd.tail) G (a3) al (q00 G) G ?_;intro bq br w b0 H;refine AS G G (NL ?_);exact MN ⟨_,_,_,_,G,H,b0,f,V⟩
  subst a2;rw[if_neg l00] at V;refine SK ?_;exact MN ⟨_,_,_,_,G,H,N,f,V⟩
 rintro e w ⟨ad,a6,a7,M,rfl,H,b1,f,bc⟩;obtain rfl:=oI bc;refine TN (SQ (SQ (RG (ST (q01 Tu89 G Ts87 Dc G) G (ST (XL H Ta87) G ?_)))));refine ST (q0S Tu87 f G) G (MV G G (NL (TN ?_)));obtain⟨ay,E,h⟩:=bnd h;refine q07 (fun e w =>∃(ae:List BT88) (a8:Value) (a9:List Z06) (M:Mem),e=[(0,a8)]/\StX (feet [RowS 89 xrl89.k xrl89.enc K J]) w0 M0 M [RowS 89 xrl89.k xrl89.enc a8 a9] w/\RelL xrl89 M a9 ae/\some ae=some ay) [] ?_ ?_ (trivial)
 ·
  refine BL ?_;refine q0p (fun m e w =>∃(ah:List BT88) (aa:Value) (ab:List Z06) (ac:Int) (M:Mem),e=[(0,aa),(20,z),(21,I (u.2.1.length:Int)),(22,I ac)]/\StX (feet [RowS 89 xrl89.k xrl89.enc K J]) w0 M0 M [RowS 89 xrl89.k xrl89.enc aa ab] w/\RelL xrl89 M ab ah/\SlR xrl89 M z u.2.1/\Y0Q self u m ah ac=some ay) FU [(0,_),(20,_),(21,_),(22,_)] ⟨rfl,rfl,rfl,rfl,trivial⟩ ⟨_,_,_,_,_,rfl,(H.pick (L':=[RowS 89 xrl89.k xrl89.enc a6 a7]) Kp),b1,f,E⟩ ?_;rintro ai e w ⟨ah,aa,ab,ac,M,rfl,H,aj,f,E⟩;rcases ai with _|ai
  · rw[Y0Q] at E;cases E
  rw[Y0Q] at E;refine SQ (RG (ST (q0n G G) G (NL (TN (SQ ?_)))));refine CB (p:=ac<(u.2.1.length:Int)) G (fun a4=>?_) fun a4=>?_
  ·
   rw[if_pos a4] at E;refine SK (TN (SQ (BL (SQ ?_))));obtain⟨Y,am,E⟩:=bnd E;obtain⟨bm,bs,b2,b5,b6,a5⟩:=f.atC am;obtain⟨an,ao,ap,aq,ar,au⟩:=b2;replace a5:an=Y.out.1/\SlR xrl89 _ (hv ao) Y.out.2.1/\ap=Y.out.2.2.1/\aq=Y.out.2.2.2.1/\ar=Y.out.2.2.2.2.1/\au=Y.out.2.2.2.2.2:=run88 a5;obtain⟨rfl,a0,rfl,rfl,rfl,rfl⟩:=a5;refine RG (ST (q0w b5 Tu87 Ts89 G G) G (ST (q0C H G b6 Ta89 Ts89 Kf) G ?_));refine q0f [_,_,_,_,_,_] H Tz89 G (q00 G) G ?_;intro bt w H;refine q05 [_,_,_,_,_,_] H G G G Ku Ts89 G Kf (by simp only[l0f,l0j,(a0).one.2];rfl) (q00 G) ?_;intro w H;refine NL (TN ?_);obtain⟨bu,av,E⟩:=bnd E;refine RG (MV G G (ST (q0a H G Km Ta89 Ts89 Kf) G ?_));refine XC (A:=[RowS 89 xrl89.k xrl89.enc aa ab]) H (ih av) G ⟨aj,a0⟩ (q00 G) G Kt ?_;intro bd M w its H O hR;replace f:=f.mono O;obtain⟨be,b7,rfl⟩:=hR;simp only[l01,l02] at H;refine AS G G (NL (IB (TN ?_)));obtain⟨bv,aw,E⟩:=bnd E;refine RG (ST (q0b G G aw) G (MV G G (NL ?_)));exact AG ai ⟨_,_,_,_,_,G,(H.pick (L':=[RowS 89 xrl89.k xrl89.enc bd be]) Kp),b7,f,E⟩ (l04 _)
  rw[if_neg a4] at E;refine q0o (q04 (q04 (q0g ?_)));exact MN ⟨_,_,_,_,G,H,aj,E⟩
 rintro e w ⟨ae,a8,a9,M,rfl,H,b8,bf⟩;obtain rfl:=oI bf;refine TN (SQ (RG (MV G G (AS G G (NL (TN (RT ?_)))))));obtain rfl:=oI h;exact q0x (its:=[RowS 89 xrl89.k xrl89.enc a8 a9]) G G H Kp ⟨_,b8,G⟩
theorem Y50 :∀(m:Nat) {J:List BT88} {f:Z01} {z:Value} {E:List Z06} {u:Value} {r:List BT88},Y14 m J f=some r->CtX Tryz.prog 71 [z,Value.agg #[I f.1,u,S f.2.2.1,I f.2.2.2.1,S f.2.2.2.2.1,I f.2.2.2.2.2]] [RowS 89 xrl89.k xrl89.enc z E] (fun M=>RelL xrl89 M E J/\SlR xrl89 M u f.2.1) (fun v M its =>∃g,RelL xrl89 M g r/\its=[RowS 89 xrl89.k xrl89.enc v g])
 | 0,_,_,_,_,_,_,h=>by rw[Y14] at h;cases h
 | m+1,_,_,_,_,_,_,h=>Y61 (fun h=>Y50 m h) (by rw[Y14] at h;exact h)
theorem Y6o {J:List BT88}{f:Z01}{z:Value}{E:List Z06}{u:Value}{r:List BT88}(h:Y4o J f=some r):CtX Tryz.prog 71 [z,Value.agg #[I f.1,u,S f.2.2.1,I f.2.2.2.1,S f.2.2.2.2.1,I f.2.2.2.2.2]] [RowS 89 xrl89.k xrl89.enc z E] (fun M=>RelL xrl89 M E J/\SlR xrl89 M u f.2.1) (fun v M its =>∃g,RelL xrl89 M g r/\its=[RowS 89 xrl89.k xrl89.enc v g]):=Y50 FU h
theorem Y6p {self:(List BT88)->(List BT90)->Option (List BT88)}(ih :∀{p0:List BT88} {Y:List BT90} {U:Value} {V:List Z06} {O:Value} {r:List BT88},self p0 Y=some r->CtX Tryz.prog 39 [U,O] [RowS 89 xrl89.k xrl89.enc U V] (fun M=>RelL xrl89 M V p0/\SlR xrl91 M O Y) (fun v M its =>∃g,RelL xrl89 M g r/\its=[RowS 89 xrl89.k xrl89.enc v g])){p0:List BT88}{Y:List BT90}{U:Value}{V:List Z06}{O:Value}{r:List BT88}(h:Y3C self p0 Y=some r):CtX Tryz.prog 39 [U,O] [RowS 89 xrl89.k xrl89.enc U V] (fun M=>RelL xrl89 M V p0/\SlR xrl91 M O Y) (fun v M its =>∃g,RelL xrl89 M g r/\its=[RowS 89 xrl89.k xrl89.enc v g]):=by
 refine q0T Tryz.func39 (enters Tryz.func39 Kr G) G G G ?_;intro w0 M0 H hp;obtain⟨bi,z⟩:=hp;unfold Y3C at h;refine SQ (RG (AS G G (NL (TN (SQ (SQ (RG (MV G G (ST (q0S Tu31 z G) G (MV G G (NL (TN ?_))))))))))));obtain⟨o1,N,h⟩:=bnd h;refine q07 (fun e w =>∃(l4:List BT88) (v5:Value) (g6:List Z06) (M:Mem),e=[(0,v5)]/\StX (feet [RowS 89 xrl89.k xrl89.enc U V]) w0 M0 M [RowS 89 xrl89.k xrl89.enc v5 g6] w/\RelL xrl89 M g6 l4/\some l4=some o1) [] ?_ ?_ (trivial)
 ·
  refine BL (q0p (fun m e w =>∃(l9:List BT88) (a4:Value) (a5:List Z06) (a2:Int) (M:Mem),e=[(0,a4),(7,O),(8,I (Y.length:Int)),(9,I a2)]/\StX (feet [RowS 89 xrl89.k xrl89.enc U V]) w0 M0 M [RowS 89 xrl89.k xrl89.enc a4 a5] w/\RelL xrl89 M a5 l9/\SlR xrl91 M O Y/\Y1j self Y m l9 a2=some o1) FU [(0,_),(7,_),(8,_),(9,_)] ⟨rfl,rfl,rfl,rfl,trivial⟩ ⟨_,_,_,_,_,rfl,H,bi,z,N⟩ ?_);rintro aj e w ⟨l9,a4,a5,a2,M,rfl,H,a8,z,N⟩;rcases aj with _|aj
  · rw[Y1j] at N;cases N
  rw[Y1j] at N;refine SQ (RG (ST (q0n G G) G (NL (TN (SQ ?_)))));refine CB (p:=a2<(Y.length:Int)) G (fun a9=>?_) fun a9=>?_
  ·
   rw[if_pos a9] at N;refine SK (TN (SQ (BL (SQ ?_))));obtain⟨f,b1,N⟩:=bnd N;obtain⟨br,bs,bd,be,bf,aa⟩:=z.atC b1;obtain⟨b2,b3,Z,b4,b5,b6,b7,a0,a1,b8,ak,al,am⟩:=bd;replace aa:b2=f.out.1/\b3=f.out.2.1/\SlR xrl89 _ (hv Z) f.out.2.2.1/\b4=f.out.2.2.2.1/\b5=f.out.2.2.2.2.1/\b6=f.out.2.2.2.2.2.1/\b7=f.out.2.2.2.2.2.2.1/\SlR xrl91 _ (hv a0) f.out.2.2.2.2.2.2.2.1/\SlR xrl91 _ (hv a1) f.out.2.2.2.2.2.2.2.2.1/\b8=f.out.2.2.2.2.2.2.2.2.2.1/\ak=f.out.2.2.2.2.2.2.2.2.2.2.1/\al=f.out.2.2.2.2.2.2.2.2.2.2.2.1/\am=f.out.2.2.2.2.2.2.2.2.2.2.2.2:=run90 aa;obtain⟨rfl,rfl,J,rfl,rfl,rfl,rfl,E,u,rfl,rfl,rfl,rfl⟩:=aa;refine RG (ST (q0w be Tu31 Ts91 G G) G (ST (q0C H G bf Ta91 Ts91 Kf) G ?_));refine q0f [_,_,_,_,_,_,_,_,_,_,_,_,_] H Tz91 G (q00 G) G ?_;intro an w H;refine q05 [_,_,_,_,_,_,_,_,_,_,_,_,_] H G G G Ku Ts91 G Kf (by simp only[l0f,l0j,(J).one.2,(E).one.2,(u).one.2];rfl) (q00 G) ?_;intro w H;refine NL (TN (SQ (SQ (RG (ST (q01 Tu91 G Ts3 Dc G) G (ST (XL H Ta3) G ?_))))));refine ST (q0j G G) G (NL (TN ?_));obtain⟨bm,a3,N⟩:=bnd N;refine q07 (fun e w =>∃(ao:List BT88) (a6:Value) (a7:List Z06) (M:Mem),e=[(0,a6),(6,ptr an 0),(7,O),(8,I (Y.length:Int)),(9,I a2)]/\StX (feet [RowS 89 xrl89.k xrl89.enc U V]) w0 M0 M [RowS 89 xrl89.k xrl89.enc a6 a7, .blk an (.cells #[I f.out.1,I f.out.2.1,(hv Z),S f.out.2.2.2.1,I f.out.2.2.2.2.1,S f.out.2.2.2.2.2.1,I f.out.2.2.2.2.2.2.1,(hv a0),(hv a1),I f.out.2.2.2.2.2.2.2.2.2.1,S f.out.2.2.2.2.2.2.2.2.2.2.1,S f.out.2.2.2.2.2.2.2.2.2.2.2.1,I f.out.2.2.2.2.2.2.2.2.2.2.2.2] 91)] w/\RelL xrl89 M a7 ao/\SlR xrl89 M (hv Z) f.out.2.2.1/\SlR xrl91 M (hv a0) f.out.2.2.2.2.2.2.2.1/\SlR xrl91 M (hv a1) f.out.2.2.2.2.2.2.2.2.1/\SlR xrl91 M O Y/\some ao=some bm) [] ?_ ?_ (trivial)
   ·
    refine CB (p:=f.out.1=(1:Int)) G (fun ab=>?_) fun ab=>?_
    ·
     rw[if_pos ab] at a3;obtain⟨bt,b9,a3⟩:=bnd a3;refine RG (MV G G (ST (q01 Tu91 G Ts89 Dc G) G (ST (q1n (us:=[_,_,_,_,_,_]) H G Km Ta89 Ts89 G G) G ?_)));refine XC (A:=[RowS 89 xrl89.k xrl89.enc a4 a5]) H (Y6o b9) G ⟨a8,J⟩ (q00 G) G Kt ?_;intro bu M w its H K hR;replace z:=z.mono K;replace J:=J.mono K;replace E:=E.mono K;replace u:=u.mono K;obtain⟨bv,bg,rfl⟩:=hR;simp only[l01,l02] at H;refine AS G G (NL ?_);exact MN ⟨_,_,_,_,G,H,bg,J,E,u,z,a3⟩
    rw[if_neg ab] at a3;refine SK ?_;exact MN ⟨_,_,_,_,G,(H.pick (L':=[RowS 89 xrl89.k xrl89.enc a4 a5, .blk an (.cells #[I f.out.1,I f.out.2.1,(hv Z),S f.out.2.2.2.1,I f.out.2.2.2.2.1,S f.out.2.2.2.2.2.1,I f.out.2.2.2.2.2.2.1,(hv a0),(hv a1),I f.out.2.2.2.2.2.2.2.2.2.1,S f.out.2.2.2.2.2.2.2.2.2.2.1,S f.out.2.2.2.2.2.2.2.2.2.2.2.1,I f.out.2.2.2.2.2.2.2.2.2.2.2.2] 91)]) Kp),a8,J,E,u,z,a3⟩
   rintro e w ⟨ao,a6,a7,M,rfl,H,ap,J,E,u,z,bn⟩;obtain rfl:=oI bn;refine TN ?_;obtain⟨bw,ae,N⟩:=bnd N;obtain⟨bo,ah,N⟩:=bnd N;refine q0Y (fun e w =>∃(aq:Value) (ar:List Z06) (M:Mem),e=[(0,aq),(7,O),(8,I (Y.length:Int)),(9,I a2)]/\StX (feet [RowS 89 xrl89.k xrl89.enc U V]) w0 M0 M [RowS 89 xrl89.k xrl89.enc aq ar] w/\RelL xrl89 M ar bo/\SlR xrl91 M O Y) ?_ ?_
   ·
    refine q0v (m:=8) G G H ?_;intro w H;refine TK 0 G (fun _=>q02 G) G (TK 1 G (fun _=>q01 Tu91 G Ts31 Dc G) G (TK 4 G (fun _=>q01 Tu91 G Ts31 Dc G) G (q0B (i:=2) [5] G Kr Kr Kr (XL H Ta31) (q00 G) G G (fun _ _=>G) ?_)));refine q0F (i:=3) (j:=5) Kr G G ?_ ?_
    ·
     refine XC (A:=[RowS 89 xrl89.k xrl89.enc a6 a7]) H (ih ae) G ⟨ap,E⟩ (q00 G) G Kt ?_;intro au M w its H K hR;replace z:=z.mono K;replace u:=u.mono K;obtain⟨av,ac,rfl⟩:=hR;simp only[l01,l02] at H;refine NA (q0i (fuel:=0) [5,6,7] G Kr (ST (XL H Ta31) G ?_));refine XC (A:=[RowS 89 xrl89.k xrl89.enc au av]) H (ih ah) G ⟨ac,u⟩ (q00 G) G Kt ?_;intro aw M w its H K hR;replace z:=z.mono K;obtain⟨ax,ad,rfl⟩:=hR;simp only[l01,l02] at H;refine AS G G (NA (q0d Kr ?_));exact MP ⟨_,_,_,G,(H.pick (L':=[RowS 89 xrl89.k xrl89.enc aw ax]) Kp),ad,z⟩
    refine ST (XL H Ta31) G ?_;refine NA (q0i (fuel:=0) [3,6,7] G Kr (XC (A:=[RowS 89 xrl89.k xrl89.enc a6 a7]) H (ih ae) G ⟨ap,E⟩ (q00 G) G Kt ?_));intro au M w its H K hR;replace z:=z.mono K;replace u:=u.mono K;obtain⟨av,ac,rfl⟩:=hR;simp only[l01,l02] at H;refine XC (A:=[RowS 89 xrl89.k xrl89.enc au av]) H (ih ah) G ⟨ac,u⟩ (q00 G) G Kt ?_;intro aw M w its H K hR;replace z:=z.mono K;obtain⟨ax,ad,rfl⟩:=hR;simp only[l01,l02] at H;refine AS G G (NA (q0d Kr ?_));exact MP ⟨_,_,_,G,(H.pick (L':=[RowS 89 xrl89.k xrl89.enc aw ax]) Kp),ad,z⟩
   rintro e w ⟨aq,ar,M,rfl,H,bh,z⟩;refine IB (TN ?_);obtain⟨bx,ba,N⟩:=bnd N;refine RG (ST (q0b G G ba) G (MV G G (NL ?_)));exact AG aj ⟨_,_,_,_,_,G,H,bh,z,N⟩ (l04 _)
  rw[if_neg a9] at N;refine q0o (q04 (q04 (q0g ?_)));exact MN ⟨_,_,_,_,G,H,a8,N⟩
 rintro e w ⟨l4,v5,g6,M,rfl,H,bp,bq⟩;obtain rfl:=oI bq;refine TN (SQ (RG (MV G G (AS G G (NL (TN (RT ?_)))))));obtain rfl:=oI h;exact q0x (its:=[RowS 89 xrl89.k xrl89.enc v5 g6]) G G H Kp ⟨_,bp,G⟩
theorem Y5s :∀(m:Nat) {E:List BT88} {J:List BT90} {f:Value} {u:List Z06} {z:Value} {r:List BT88},Y1R m E J=some r->CtX Tryz.prog 39 [f,z] [RowS 89 xrl89.k xrl89.enc f u] (fun M=>RelL xrl89 M u E/\SlR xrl91 M z J) (fun v M its =>∃g,RelL xrl89 M g r/\its=[RowS 89 xrl89.k xrl89.enc v g])
 | 0,_,_,_,_,_,_,h=>by rw[Y1R] at h;cases h
 | m+1,_,_,_,_,_,_,h=>Y6p (fun h=>Y5s m h) (by rw[Y1R] at h;exact h)
theorem Y6P {E:List BT88}{J:List BT90}{f:Value}{u:List Z06}{z:Value}{r:List BT88}(h:Y5P E J=some r):CtX Tryz.prog 39 [f,z] [RowS 89 xrl89.k xrl89.enc f u] (fun M=>RelL xrl89 M u E/\SlR xrl91 M z J) (fun v M its =>∃g,RelL xrl89 M g r/\its=[RowS 89 xrl89.k xrl89.enc v g]):=Y5s FU h
theorem Y5f {self:Z04->Z01->Option Bool}(ih :∀{f:Z04} {u:Z01} {a0:Nat} {z:Value} {N:Value} {O:Value} {E:Value} {r:Bool},self f u=some r->Ct Tryz.prog 72 [ptr a0 0,Value.agg #[I u.1,E,S u.2.2.1,I u.2.2.2.1,S u.2.2.2.2.1,I u.2.2.2.2.2]] (fun M=>PtM M a0 (.cells #[z,I f.2.1,N,O] 106)/\SlR xrl89 M z f.1/\SlR xrl89 M E u.2.1) (fun v M=>v=Value.bool r)){f:Z01}{u:Z04}{J:Value}{a1:Nat}{a2:Nat}{K:Value}{U:Value}{V:Value}{r:Bool}(h:Y2K self f u=some r):Ct Tryz.prog 105 [Value.agg #[I f.1,J,S f.2.2.1,I f.2.2.2.1,S f.2.2.2.2.1,I f.2.2.2.2.2],ptr a1 0] (fun M=>SlR xrl89 M J f.2.1/\PtM M a1 (.cells #[ptr a2 0] 104)/\PtM M a2 (.cells #[K,I u.2.1,U,V] 106)/\SlR xrl89 M K u.1) (fun v M=>v=Value.bool r):=by
 refine Ct.of Tryz.func105 (enters Tryz.func105 Kr G) G G G ?_;intro w0 M0 H hp;obtain⟨Y,a3,a4,Z⟩:=hp;unfold Y2K at h;refine SQ (RG (q0I [_,_,_,_,_,_] H G G (q00 G) G ?_));intro a6 w H;refine AS G G (NL (TN (SQ ?_)));obtain⟨b1,a5,h⟩:=bnd h;refine RG (ST (q0m H G (a3.cell (j:=0) G) Ta104) G (ST (q0a H G Km Ta89 Ts89 Kf) G ?_));refine q03 H (ih a5) G ⟨a4,Z,Y⟩ (q00 G) G ?_;intro v6 M w H a7 hR;obtain rfl:=hR;refine ST (q0y G) G (AS G G (NL (TN (RT ?_))));obtain rfl:=oI h;exact q08 G G H.ext G
theorem Y4J {self:Z04->Z01->Option Bool}(ih :∀{E:Z04} {J:Z01} {ac:Nat} {N:Value} {a2:Value} {a3:Value} {O:Value} {r:Bool},self E J=some r->Ct Tryz.prog 72 [ptr ac 0,Value.agg #[I J.1,O,S J.2.2.1,I J.2.2.2.1,S J.2.2.2.2.1,I J.2.2.2.2.2]] (fun M=>PtM M ac (.cells #[N,I E.2.1,a2,a3] 106)/\SlR xrl89 M N E.1/\SlR xrl89 M O J.2.1) (fun v M=>v=Value.bool r)){E:List BT88}{p1c0:Z04}{U:Value}{qp1c0:Nat}{bp1c0:Nat}{vp1c0_0:Value}{vp1c0_2:Value}{vp1c0_3:Value}{r:Int}(h:Y26 self E p1c0=some r):Ct Tryz.prog 124 [U,(Value.func (.func 105) #[] #[ptr qp1c0 0])] (fun M=>SlR xrl89 M U E/\PtM M qp1c0 (.cells #[ptr bp1c0 0] 104)/\PtM M bp1c0 (.cells #[vp1c0_0,I p1c0.2.1,vp1c0_2,vp1c0_3] 106)/\SlR xrl89 M vp1c0_0 p1c0.1) (fun v M=>v=I r):=by
 refine Ct.of Tf124 (enters Tf124 Kr G) G G G ?_;intro w0 M0 H hp;obtain⟨u,hqp1c0,hp1c0,hp1c0_0⟩:=hp;unfold Y26 at h;refine SQ (RG (AS G G (NL (TN (SQ (SQ (RG (MV G G (ST (q0S Tu87 u G) G (MV G G (NL (TN ?_))))))))))));obtain⟨o1,f,h⟩:=bnd h;refine q07 (fun e w =>∃  (M:Mem),e=[]/\St w0 M0 M [] w/\some (.inl ())=some o1) [] ?_ ?_ (trivial)
 ·
  refine BL (q0p (fun m e w =>∃(n3:Int) (M:Mem),e=[(0,U),(1,(Value.func (.func 105) #[] #[ptr qp1c0 0])),(7,I (E.length:Int)),(8,I n3)]/\St w0 M0 M [] w/\SlR xrl89 M U E/\PtM M qp1c0 (.cells #[ptr bp1c0 0] 104)/\PtM M bp1c0 (.cells #[vp1c0_0,I p1c0.2.1,vp1c0_2,vp1c0_3] 106)/\SlR xrl89 M vp1c0_0 p1c0.1/\Y0s self E p1c0 m n3=some o1) FU [(0,_),(1,_),(7,_),(8,_)] ⟨rfl,rfl,rfl,rfl,trivial⟩ ⟨_,_,rfl,H,u,hqp1c0,hp1c0,hp1c0_0,f⟩ ?_);rintro m4 e w ⟨n3,M,rfl,H,u,hqp1c0,hp1c0,hp1c0_0,f⟩;rcases m4 with _|m4
  · rw[Y0s] at f;cases f
  rw[Y0s] at f;refine SQ (RG (ST (q0n G G) G (NL (TN (SQ ?_)))));refine CB (p:=n3<(E.length:Int)) G (fun Z=>?_) fun Z=>?_
  ·
   rw[if_pos Z] at f;refine SK (TN (SQ (BL (SQ (RG (MV G G (AS G G (NL (TN (SQ ?_))))))))));obtain⟨z,ae,f⟩:=bnd f;obtain⟨ao,ap,ah,ai,aj,K⟩:=u.atC ae;obtain⟨a5,V,a7,a8,a9,aa⟩:=ah;replace K:a5=z.out.1/\SlR xrl89 _ (hv V) z.out.2.1/\a7=z.out.2.2.1/\a8=z.out.2.2.2.1/\a9=z.out.2.2.2.2.1/\aa=z.out.2.2.2.2.2:=run88 K;obtain⟨rfl,a0,rfl,rfl,rfl,rfl⟩:=K;obtain⟨b7,am,f⟩:=bnd f;refine RG (MV G G (MV G G (MV G G (ST (q0w ai Tu87 Ts89 G G) G (ST (q0C H G aj Ta89 Ts89 Kf) G ?_)))));refine q1i (vs:=[Value.agg #[I z.out.1,(hv V),S z.out.2.2.1,I z.out.2.2.2.1,S z.out.2.2.2.2.1,I z.out.2.2.2.2.2]]) (cap:=[ptr qp1c0 0]) H (Y5f @ih am) G G ⟨a0,hqp1c0,hp1c0,hp1c0_0⟩ (q00 G) G ?_;intro aq M w H Y hR;replace u:=u.mono Y;replace hp1c0_0:=hp1c0_0.mono Y;replace hp1c0:=hp1c0.mono Y;replace hqp1c0:=hqp1c0.mono Y;obtain rfl:=hR;refine NL (TN ?_);refine q09 G (fun a1=>?_) (fun a1=>?_)
   ·
    subst a1;rw[if_pos rfl] at f;refine SQ (RG (MV G G (AS G G (NL (TN (RT ?_))))));obtain rfl:=oI f;try dsimp only at h
    obtain rfl:=oI h;exact q08 G G H.ext G
   subst a1;rw[if_neg l00] at f;refine SK (IB (TN ?_));obtain⟨ar,ab,f⟩:=bnd f;refine RG (ST (q0b G G ab) G (MV G G (NL ?_)));exact AG m4 ⟨_,_,G,H,u,hqp1c0,hp1c0,hp1c0_0,f⟩ (l04 _)
  rw[if_neg Z] at f;refine q0o (q04 (q04 (q0g ?_)));exact MN ⟨_,G,H,f⟩
 rintro e w ⟨M,rfl,H,an⟩;obtain rfl:=oI an;try dsimp only at h
 refine TN (SQ (RG (AS G G (NL (TN (RT ?_))))));obtain rfl:=oI h;exact q08 G G H.ext G
theorem Y4c {self:Z04->Z01->Option Bool}(ih :∀{E:Z04} {f:Z01} {N:Nat} {u:Value} {J:Value} {K:Value} {z:Value} {r:Bool},self E f=some r->Ct Tryz.prog 72 [ptr N 0,Value.agg #[I f.1,z,S f.2.2.1,I f.2.2.2.1,S f.2.2.2.2.1,I f.2.2.2.2.2]] (fun M=>PtM M N (.cells #[u,I E.2.1,J,K] 106)/\SlR xrl89 M u E.1/\SlR xrl89 M z f.2.1) (fun v M=>v=Value.bool r)){E:List BT88}{p1c0:Z04}{O:Value}{qp1c0:Nat}{bp1c0:Nat}{vp1c0_0:Value}{vp1c0_2:Value}{vp1c0_3:Value}{r:Bool}(h:Y1F self E p1c0=some r):Ct Tryz.prog 104 [O,(Value.func (.func 105) #[] #[ptr qp1c0 0])] (fun M=>SlR xrl89 M O E/\PtM M qp1c0 (.cells #[ptr bp1c0 0] 104)/\PtM M bp1c0 (.cells #[vp1c0_0,I p1c0.2.1,vp1c0_2,vp1c0_3] 106)/\SlR xrl89 M vp1c0_0 p1c0.1) (fun v M=>v=Value.bool r):=by
 refine Ct.of Tryz.func104 (enters Tryz.func104 Kr G) G G G ?_;intro Z M0 H hp;obtain⟨U,hqp1c0,hp1c0,hp1c0_0⟩:=hp;unfold Y1F at h;refine SQ (RG (AS G G (NL (TN (SQ ?_)))));obtain⟨n1,V,h⟩:=bnd h;refine RG (MV G G (MV G G (q03 H (Y4J @ih V) G ⟨U,hqp1c0,hp1c0,hp1c0_0⟩ (q00 G) G ?_)));intro v7 M w H Y hR;obtain rfl:=hR;refine ST (q1a G G) G (AS G G (NL (TN (RT ?_))));obtain rfl:=oI h;exact q08 G G H.ext G
theorem Y4K {self:Z04->Z01->Option Bool}(ih :∀{z:Z04} {E:Z01} {ac:Nat} {K:Value} {a1:Value} {a2:Value} {N:Value} {r:Bool},self z E=some r->Ct Tryz.prog 72 [ptr ac 0,Value.agg #[I E.1,N,S E.2.2.1,I E.2.2.2.1,S E.2.2.2.2.1,I E.2.2.2.2.2]] (fun M=>PtM M ac (.cells #[K,I z.2.1,a1,a2] 106)/\SlR xrl89 M K z.1/\SlR xrl89 M N E.2.1) (fun v M=>v=Value.bool r)){z:List BT88}{p1c0:Z04}{O:Value}{bp1c0:Nat}{vp1c0_0:Value}{vp1c0_2:Value}{vp1c0_3:Value}{r:Int}(h:Y27 self z p1c0=some r):Ct Tryz.prog 124 [O,(Value.func (.func 72) #[ptr bp1c0 0] #[])] (fun M=>SlR xrl89 M O z/\PtM M bp1c0 (.cells #[vp1c0_0,I p1c0.2.1,vp1c0_2,vp1c0_3] 106)/\SlR xrl89 M vp1c0_0 p1c0.1) (fun v M=>v=I r):=by
 refine Ct.of Tf124 (enters Tf124 Kr G) G G G ?_;intro w0 M0 H hp;obtain⟨u,hp1c0,hp1c0_0⟩:=hp;unfold Y27 at h;refine SQ (RG (AS G G (NL (TN (SQ (SQ (RG (MV G G (ST (q0S Tu87 u G) G (MV G G (NL (TN ?_))))))))))));obtain⟨o1,f,h⟩:=bnd h;refine q07 (fun e w =>∃  (M:Mem),e=[]/\St w0 M0 M [] w/\some (.inl ())=some o1) [] ?_ ?_ (trivial)
 ·
  refine BL (q0p (fun m e w =>∃(n3:Int) (M:Mem),e=[(0,O),(1,(Value.func (.func 72) #[ptr bp1c0 0] #[])),(7,I (z.length:Int)),(8,I n3)]/\St w0 M0 M [] w/\SlR xrl89 M O z/\PtM M bp1c0 (.cells #[vp1c0_0,I p1c0.2.1,vp1c0_2,vp1c0_3] 106)/\SlR xrl89 M vp1c0_0 p1c0.1/\Y0t self z p1c0 m n3=some o1) FU [(0,_),(1,_),(7,_),(8,_)] ⟨rfl,rfl,rfl,rfl,trivial⟩ ⟨_,_,rfl,H,u,hp1c0,hp1c0_0,f⟩ ?_);rintro m4 e w ⟨n3,M,rfl,H,u,hp1c0,hp1c0_0,f⟩;rcases m4 with _|m4
  · rw[Y0t] at f;cases f
  rw[Y0t] at f;refine SQ (RG (ST (q0n G G) G (NL (TN (SQ ?_)))));refine CB (p:=n3<(z.length:Int)) G (fun V=>?_) fun V=>?_
  ·
   rw[if_pos V] at f;refine SK (TN (SQ (BL (SQ (RG (MV G G (AS G G (NL (TN (SQ ?_))))))))));obtain⟨U,ae,f⟩:=bnd f;obtain⟨ao,ap,ah,ai,aj,J⟩:=u.atC ae;obtain⟨a4,a5,a7,a8,a9,aa⟩:=ah;replace J:a4=U.out.1/\SlR xrl89 _ (hv a5) U.out.2.1/\a7=U.out.2.2.1/\a8=U.out.2.2.2.1/\a9=U.out.2.2.2.2.1/\aa=U.out.2.2.2.2.2:=run88 J;obtain⟨rfl,Y,rfl,rfl,rfl,rfl⟩:=J;obtain⟨b7,am,f⟩:=bnd f;refine RG (MV G G (MV G G (MV G G (ST (q0w ai Tu87 Ts89 G G) G (ST (q0C H G aj Ta89 Ts89 Kf) G ?_)))));refine WR.callVF (fst:=[ptr bp1c0 0]) (cap:=[]) H (ih am) G G ⟨hp1c0,hp1c0_0,Y⟩ (q00 G) G ?_;intro aq M w H Z hR;replace u:=u.mono Z;replace hp1c0_0:=hp1c0_0.mono Z;replace hp1c0:=hp1c0.mono Z;obtain rfl:=hR;refine NL (TN ?_);refine q09 G (fun a0=>?_) (fun a0=>?_)
   ·
    subst a0;rw[if_pos rfl] at f;refine SQ (RG (MV G G (AS G G (NL (TN (RT ?_))))));obtain rfl:=oI f;try dsimp only at h
    obtain rfl:=oI h;exact q08 G G H.ext G
   subst a0;rw[if_neg l00] at f;refine SK (IB (TN ?_));obtain⟨ar,ab,f⟩:=bnd f;refine RG (ST (q0b G G ab) G (MV G G (NL ?_)));exact AG m4 ⟨_,_,G,H,u,hp1c0,hp1c0_0,f⟩ (l04 _)
  rw[if_neg V] at f;refine q0o (q04 (q04 (q0g ?_)));exact MN ⟨_,G,H,f⟩
 rintro e w ⟨M,rfl,H,an⟩;obtain rfl:=oI an;try dsimp only at h
 refine TN (SQ (RG (AS G G (NL (TN (RT ?_))))));obtain rfl:=oI h;exact q08 G G H.ext G
theorem Y4d {self:Z04->Z01->Option Bool}(ih :∀{E:Z04} {f:Z01} {N:Nat} {u:Value} {J:Value} {K:Value} {z:Value} {r:Bool},self E f=some r->Ct Tryz.prog 72 [ptr N 0,Value.agg #[I f.1,z,S f.2.2.1,I f.2.2.2.1,S f.2.2.2.2.1,I f.2.2.2.2.2]] (fun M=>PtM M N (.cells #[u,I E.2.1,J,K] 106)/\SlR xrl89 M u E.1/\SlR xrl89 M z f.2.1) (fun v M=>v=Value.bool r)){E:List BT88}{p1c0:Z04}{O:Value}{bp1c0:Nat}{vp1c0_0:Value}{vp1c0_2:Value}{vp1c0_3:Value}{r:Bool}(h:Y1G self E p1c0=some r):Ct Tryz.prog 104 [O,(Value.func (.func 72) #[ptr bp1c0 0] #[])] (fun M=>SlR xrl89 M O E/\PtM M bp1c0 (.cells #[vp1c0_0,I p1c0.2.1,vp1c0_2,vp1c0_3] 106)/\SlR xrl89 M vp1c0_0 p1c0.1) (fun v M=>v=Value.bool r):=by
 refine Ct.of Tryz.func104 (enters Tryz.func104 Kr G) G G G ?_;intro Z M0 H hp;obtain⟨U,hp1c0,hp1c0_0⟩:=hp;unfold Y1G at h;refine SQ (RG (AS G G (NL (TN (SQ ?_)))));obtain⟨n1,V,h⟩:=bnd h;refine RG (MV G G (MV G G (q03 H (Y4K @ih V) G ⟨U,hp1c0,hp1c0_0⟩ (q00 G) G ?_)));intro v7 M w H Y hR;obtain rfl:=hR;refine ST (q1a G G) G (AS G G (NL (TN (RT ?_))));obtain rfl:=oI h;exact q08 G G H.ext G
theorem Y5g {self:Z04->Z01->Option Bool}(ih :∀{Z:Z04} {u:Z01} {K:Nat} {O:Value} {V:Value} {Y:Value} {U:Value} {r:Bool},self Z u=some r->Ct Tryz.prog 72 [ptr K 0,Value.agg #[I u.1,U,S u.2.2.1,I u.2.2.2.1,S u.2.2.2.2.1,I u.2.2.2.2.2]] (fun M=>PtM M K (.cells #[O,I Z.2.1,V,Y] 106)/\SlR xrl89 M O Z.1/\SlR xrl89 M U u.2.1) (fun v M=>v=Value.bool r)){Z:Z04}{u:Z01}{K:Nat}{O:Value}{V:Value}{Y:Value}{U:Value}{r:Bool}(h:Y2L self Z u=some r):Ct Tryz.prog 72 [ptr K 0,Value.agg #[I u.1,U,S u.2.2.1,I u.2.2.2.1,S u.2.2.2.2.1,I u.2.2.2.2.2]] (fun M=>PtM M K (.cells #[O,I Z.2.1,V,Y] 106)/\SlR xrl89 M O Z.1/\SlR xrl89 M U u.2.1) (fun v M=>v=Value.bool r):=by
 refine Ct.of Tryz.func72 (enters Tryz.func72 Kr G) G G G ?_;intro w0 M0 H hp;obtain⟨N,z,J⟩:=hp;unfold Y2L at h;refine SQ (RG (q0I [_] H G G (q00 G) G ?_));intro ap w H;refine q0I [_,_,_,_,_,_] H G G (q00 G) G ?_;intro ay w H;refine AS G G (NL (TN (SQ (SQ (RG (ST (q01 Tu89 G Ts3 Dc G) G (ST (XL H Ta3) G ?_)))))));refine NL (TN (BL (SQ (RG (ST (q0j G G) G (AS G G (NL (TN ?_))))))));refine CB (p:=u.1=(1:Int)) G (fun a4=>?_) fun a4=>?_
 ·
  rw[if_pos a4] at h;refine SQ (RG (AS G G (NL (TN (RT ?_)))));obtain rfl:=oI h;exact q08 G G H.ext G
 rw[if_neg a4] at h;refine SQ (RG (ST (q0j G G) G (AS G G (NL (TN ?_)))));refine CB (p:=u.1=(2:Int)) G (fun a5=>?_) fun a5=>?_
 ·
  rw[if_pos a5] at h;refine SQ ?_;obtain⟨a3,aj,h⟩:=bnd h;obtain⟨ax,az,ak,al,am,a0⟩:=J.atC aj;obtain⟨a9,aa,ab,ac,ad,ae⟩:=ak;replace a0:a9=a3.out.1/\SlR xrl89 _ (hv aa) a3.out.2.1/\ab=a3.out.2.2.1/\ac=a3.out.2.2.2.1/\ad=a3.out.2.2.2.2.1/\ae=a3.out.2.2.2.2.2:=run88 a0;obtain⟨rfl,a6,rfl,rfl,rfl,rfl⟩:=a0;obtain⟨b4,aq,h⟩:=bnd h;refine q0v (m:=8) G G H ?_;intro w H;refine TK 1 G (fun _=>q01 Tu89 G Ts87 Dc G) G (q0B (i:=2) [0] G Kr Kr Kr (XL H Ta87) (q00 G) G G (fun _ _=>G) ?_);refine TK 3 G (fun _=>q0w al Tu87 Ts89 G G) G (q0B (i:=0) [4] G Kr Kr Kr (XL H Ta104) (q00 G) G G (fun _ _=>G) ?_);refine q0i (fuel:=0) [4,5,6,7] G Kr (ST (q0C H G am Ta89 Ts89 Kf) G ?_);refine q03 H (ih aq) G ⟨N,z,a6⟩ (q00 G) G ?_;intro b0 M w H f hR;obtain rfl:=hR;refine ST (q0y G) G (AS G G (NA (q0d Kr (TN (RT ?_)))));obtain rfl:=oI h;exact q08 G G H.ext G
 rw[if_neg a5] at h;refine SQ (RG (ST (q0j G G) G (AS G G (NL (TN ?_)))));refine CB (p:=u.1=(3:Int)) G (fun a7=>?_) fun a7=>?_
 ·
  rw[if_pos a7] at h;refine SQ ?_;obtain⟨b8,ar,h⟩:=bnd h;refine RG (ST (q01 Tu89 G Ts87 Dc G) G (ST (XL H Ta87) G ?_));obtain⟨M,f,au,H⟩:=H.freezeVar (b:=ap) Kv;replace J:=J.mono f;replace z:=z.mono f;replace N:=N.mono f;refine ST (q1m G) G (q03 H (Y4c @ih ar) G ⟨J,au,N,z⟩ (q00 G) G ?_);intro b1 M w H f hR;obtain rfl:=hR;refine ST (q0y G) G (AS G G (NL (TN (RT ?_))));obtain rfl:=oI h;exact q08 G G H.ext G
 rw[if_neg a7] at h;refine SQ (RG (ST (q0j G G) G (AS G G (NL (TN ?_)))));refine CB (p:=u.1=(4:Int)) G (fun a1=>?_) fun a1=>?_
 ·
  rw[if_pos a1] at h;refine SQ ?_;obtain⟨b2,an,h⟩:=bnd h;refine RG (ST (q01 Tu89 G Ts87 Dc G) G (ST (XL H Ta87) G ?_));refine ST (XL H Ta104) G ?_;refine ST (Ex.makeFuncF G) G (q03 H (Y4d @ih an) G ⟨J,N,z⟩ (q00 G) G ?_);intro b3 M w H f hR;obtain rfl:=hR;refine AS G G (NL (TN (RT ?_)));obtain rfl:=oI h;exact q08 G G H.ext G
 rw[if_neg a1] at h;refine SK (IB (TN (SQ ?_)));obtain⟨av,ao,h⟩:=bnd h;obtain⟨aw,ah,h⟩:=bnd h;obtain⟨a8,ai,h⟩:=bnd h;refine WC.sub (e':=[(2,_),(3,_)]) ⟨G,G,trivial⟩ (q0v (m:=14) G G H ?_);intro w H;refine WA.conf (c:=14) [(32,ptr K 0,[]),(33,ptr K 0,[0]),(34,ptr K 1,[1]),(35,I Z.2.1,[2]),(36,ptr K 0,[]),(37,ptr K 0,[4]),(38,ptr K 0,[5]),(39,O,[6]),(40,Value.agg #[I u.1,U,S u.2.2.1,I u.2.2.2.1,S u.2.2.2.2.1,I u.2.2.2.2.2],[]),(41,I av,[7,8]),(42,I aw,[3,9]),(43,I a8,[10]),(44,Value.bool (decide (a8=(1:Int))),[11]),(4,Value.bool (decide (a8=(1:Int))),[12])] G G Kr G G H ⟨⟨_,G,fun E w M H f Qk kk=>?_⟩,⟨_,G,fun E w M H f Qk kk=>?_⟩,⟨_,G,fun E w M H f Qk kk=>?_⟩,⟨_,G,fun E w M H f Qk kk=>?_⟩,⟨_,G,fun E w M H f Qk kk=>?_⟩,⟨_,G,fun E w M H f Qk kk=>?_⟩,⟨_,G,fun E w M H f Qk kk=>?_⟩,⟨_,G,fun E w M H f Qk kk=>?_⟩,⟨_,G,fun E w M H f Qk kk=>?_⟩,⟨_,G,fun E w M H f Qk kk=>?_⟩,⟨_,G,fun E w M H f Qk kk=>?_⟩,⟨_,G,fun E w M H f Qk kk=>?_⟩,⟨_,G,fun E w M H f Qk kk=>?_⟩,⟨_,G,fun E w M H f Qk kk=>?_⟩,trivial⟩ ?_
 ·
  refine ST (XL H Ta104) G ?_;exact q0c (kk _ _ H (Mem.le.refl _))
 ·
  refine ST (q0k G) G ?_;exact q0c (kk _ _ H (Mem.le.refl _))
 ·
  refine ST (q01 Tu106 G Ts3 Dc G) G ?_;exact q0c (kk _ _ H (Mem.le.refl _))
 ·
  have N:=N.mono f;refine ST (q0m H G (N.cell (j:=1) G) Ta3) G ?_;exact q0c (kk _ _ H (Mem.le.refl _))
 ·
  refine ST (XL H Ta104) G ?_;exact q0c (kk _ _ H (Mem.le.refl _))
 ·
  refine ST (q0k G) G ?_;exact q0c (kk _ _ H (Mem.le.refl _))
 ·
  refine ST (q01 Tu106 G Ts87 Dc G) G ?_;exact q0c (kk _ _ H (Mem.le.refl _))
 ·
  have N:=N.mono f;refine ST (q0m H G (N.cell (j:=0) G) Ta87) G ?_;exact q0c (kk _ _ H (Mem.le.refl _))
 ·
  refine ST (q0a H G Km Ta89 Ts89 Kf) G ?_;exact q0c (kk _ _ H (Mem.le.refl _))
 ·
  have J:=J.mono f;have z:=z.mono f;refine q03 H (Y60 ao) G ⟨z,J⟩ (q00 G) G ?_;intro b5 M w H f hR;obtain rfl:=hR;exact q0c (kk _ _ H f)
 ·
  refine ST (Ex.shrI G G ah) G ?_;exact q0c (kk _ _ H (Mem.le.refl _))
 ·
  refine ST (Ex.andI G G ai) G ?_;exact q0c (kk _ _ H (Mem.le.refl _))
 ·
  refine ST (q0j G G) G ?_;exact q0c (kk _ _ H (Mem.le.refl _))
 ·
  refine AS G G ?_;exact q0c (kk _ _ H (Mem.le.refl _))
 intro w M H f;refine q0d Kr (TN (RT ?_));obtain rfl:=oI h;exact q08 G G H.ext G
theorem Y46 :∀(m:Nat) {N:Z04} {f:Z01} {K:Nat} {u:Value} {E:Value} {J:Value} {z:Value} {r:Bool},Y0G m N f=some r->Ct Tryz.prog 72 [ptr K 0,Value.agg #[I f.1,z,S f.2.2.1,I f.2.2.2.1,S f.2.2.2.2.1,I f.2.2.2.2.2]] (fun M=>PtM M K (.cells #[u,I N.2.1,E,J] 106)/\SlR xrl89 M u N.1/\SlR xrl89 M z f.2.1) (fun v M=>v=Value.bool r)
 | 0,_,_,_,_,_,_,_,_,h=>by rw[Y0G] at h;cases h
 | m+1,_,_,_,_,_,_,_,_,h=>Y5g (fun h=>Y46 m h) (by rw[Y0G] at h;exact h)
theorem Y5D {N:Z04}{f:Z01}{K:Nat}{u:Value}{E:Value}{J:Value}{z:Value}{r:Bool}(h:Y3T N f=some r):Ct Tryz.prog 72 [ptr K 0,Value.agg #[I f.1,z,S f.2.2.1,I f.2.2.2.1,S f.2.2.2.2.1,I f.2.2.2.2.2]] (fun M=>PtM M K (.cells #[u,I N.2.1,E,J] 106)/\SlR xrl89 M u N.1/\SlR xrl89 M z f.2.1) (fun v M=>v=Value.bool r):=Y46 FU h
theorem Y51 {self:Z0C->(List BT90)->Int->Option Z0T}(ih :∀{p0:Z0C} {p1:List BT90} {p2:Int} {V:Nat} {E:Value} {u:Value} {Y:Value} {a6:Value} {r:Z0T},self p0 p1 p2=some r->CtX Tryz.prog 41 [ptr V 0,a6,I p2] [.blk V (.cells #[E,I p0.2.1,u,Y] 106),RowI 4 encBo u p0.2.2.1,RowS 70 3 xenc70 Y p0.2.2.2] (fun M=>SlR xrl89 M E p0.1/\SlR xrl91 M a6 p1) (fun v M its =>∃an,v=Value.bool r.1/\its=[.blk V (.cells #[E,I r.2.2.1,u,an] 106),RowI 4 encBo u r.2.2.2.1,RowS 70 3 xenc70 an r.2.2.2.2])){p0:Z0C}{p1:List BT90}{p2:Int}{V:Nat}{E:Value}{u:Value}{Y:Value}{a6:Value}{r:Z0T}(h:Y1V self p0 p1 p2=some r):CtX Tryz.prog 41 [ptr V 0,a6,I p2] [.blk V (.cells #[E,I p0.2.1,u,Y] 106),RowI 4 encBo u p0.2.2.1,RowS 70 3 xenc70 Y p0.2.2.2] (fun M=>SlR xrl89 M E p0.1/\SlR xrl91 M a6 p1) (fun v M its =>∃an,v=Value.bool r.1/\its=[.blk V (.cells #[E,I r.2.2.1,u,an] 106),RowI 4 encBo u r.2.2.2.1,RowS 70 3 xenc70 an r.2.2.2.2]):=by
 refine q0T Tryz.func41 (enters Tryz.func41 Kr G) G G G ?_;intro w0 M0 H hp;obtain⟨z,U⟩:=hp;unfold Y1V at h;refine SQ (RG (AS G G (NL (TN (SQ (SQ (RG (MV G G (ST (q0S Tu31 U G) G (MV G G (NL (TN ?_))))))))))));obtain⟨o1,e2,h⟩:=bnd h;refine q07 (fun e w =>∃(n3:Int) (l4:List Bool) (l6:List Z02) (v7:Value) (M:Mem),e=[]/\StX (feet [.blk V (.cells #[E,I p0.2.1,u,Y] 106),RowI 4 encBo u p0.2.2.1,RowS 70 3 xenc70 Y p0.2.2.2]) w0 M0 M [.blk V (.cells #[E,I n3,u,v7] 106),RowI 4 encBo u l4,RowS 70 3 xenc70 v7 l6] w/\SlR xrl89 M E p0.1/\some (.inl (n3,l4,l6))=some o1) [] ?_ ?_ (trivial)
 ·
  refine BL (q0p (fun m e w =>∃(n8:Int) (l9:List Bool) (a8:List Z02) (a5:Value) (aj:Int) (ah:Int) (M:Mem),e=[(0,ptr V 0),(2,I aj),(11,a6),(12,I (p1.length:Int)),(13,I ah)]/\StX (feet [.blk V (.cells #[E,I p0.2.1,u,Y] 106),RowI 4 encBo u p0.2.2.1,RowS 70 3 xenc70 Y p0.2.2.2]) w0 M0 M [.blk V (.cells #[E,I n8,u,a5] 106),RowI 4 encBo u l9,RowS 70 3 xenc70 a5 a8] w/\SlR xrl89 M E p0.1/\SlR xrl91 M a6 p1/\Y0g self p0 p1 m n8 l9 a8 aj ah=some o1) FU [(0,_),(2,_),(11,_),(12,_),(13,_)] ⟨rfl,rfl,rfl,rfl,rfl,trivial⟩ ⟨_,_,_,_,_,_,_,rfl,H,z,U,e2⟩ ?_);rintro b6 e w ⟨n8,l9,a8,a5,aj,ah,M,rfl,H,z,U,e2⟩;rcases b6 with _|b6
  · rw[Y0g] at e2;cases e2
  rw[Y0g] at e2;refine SQ (RG (ST (q0n G G) G (NL (TN (SQ ?_)))));refine CB (p:=ah<(p1.length:Int)) G (fun aq=>?_) fun aq=>?_
  ·
   rw[if_pos aq] at e2;refine SK (TN (SQ (BL (SQ ?_))));obtain⟨f,bp,e2⟩:=bnd e2;obtain⟨cp,cq,c6,c7,c8,ar⟩:=U.atC bp;obtain⟨bq,br,a1,bs,bt,bu,bv,a2,Z,bw,b7,b8,b9⟩:=c6;replace ar:bq=f.out.1/\br=f.out.2.1/\SlR xrl89 _ (hv a1) f.out.2.2.1/\bs=f.out.2.2.2.1/\bt=f.out.2.2.2.2.1/\bu=f.out.2.2.2.2.2.1/\bv=f.out.2.2.2.2.2.2.1/\SlR xrl91 _ (hv a2) f.out.2.2.2.2.2.2.2.1/\SlR xrl91 _ (hv Z) f.out.2.2.2.2.2.2.2.2.1/\bw=f.out.2.2.2.2.2.2.2.2.2.1/\b7=f.out.2.2.2.2.2.2.2.2.2.2.1/\b8=f.out.2.2.2.2.2.2.2.2.2.2.2.1/\b9=f.out.2.2.2.2.2.2.2.2.2.2.2.2:=run90 ar;obtain⟨rfl,rfl,N,rfl,rfl,rfl,rfl,K,J,rfl,rfl,rfl,rfl⟩:=ar;refine RG (ST (q0w c7 Tu31 Ts91 G G) G (ST (q0C H G c8 Ta91 Ts91 Kf) G ?_));refine q0f [_,_,_,_,_,_,_,_,_,_,_,_,_] H Tz91 G (q00 G) G ?_;intro a7 w H;refine q05 [_,_,_,_,_,_,_,_,_,_,_,_,_] H G G G Ku Ts91 G Kf (by simp only[l0f,l0j,(N).one.2,(K).one.2,(J).one.2];rfl) (q00 G) ?_;intro w H;refine NL (TN (SQ ?_));obtain⟨cr,bx,e2⟩:=bnd e2;obtain⟨aa,bz,e2⟩:=bnd e2;refine RG (MV G G (FN G G Tu106 G Ts71 G G (ST (XL H Ta71) G ?_)));refine MV G G (WR.idxRowC (l:=l9) H Tu71 Ts4 Km G G bx (q00 G) G ?_);intro cs c9;refine q1k (a:=true) H G G ⟨G,G⟩ c9 (fun _=>by repeat first|exact .head|apply Upd.tail) bz Ts4 (q00 G) ?_;intro w H;refine NL (TN (SQ (SQ (RG (ST (q01 Tu91 G Ts3 Dc G) G (ST (XL H Ta3) G ?_))))));refine NL (TN (BL (SQ (RG (ST (q0j G G) G (AS G G (NL (TN ?_))))))));obtain⟨ce,a3,e2⟩:=bnd e2
   refine q07 (fun e w =>∃(ak:Int) (al:List Bool) (am:List Z02) (ai:Value) (M:Mem),e=[(0,ptr V 0),(2,I aj),(8,ptr a7 0),(11,a6),(12,I (p1.length:Int)),(13,I ah)]/\StX (feet [.blk V (.cells #[E,I p0.2.1,u,Y] 106),RowI 4 encBo u p0.2.2.1,RowS 70 3 xenc70 Y p0.2.2.2]) w0 M0 M [.blk V (.cells #[E,I ak,u,ai] 106),RowI 4 encBo u al,RowS 70 3 xenc70 ai am, .blk a7 (.cells #[I f.out.1,I f.out.2.1,(hv a1),S f.out.2.2.2.1,I f.out.2.2.2.2.1,S f.out.2.2.2.2.2.1,I f.out.2.2.2.2.2.2.1,(hv a2),(hv Z),I f.out.2.2.2.2.2.2.2.2.2.1,S f.out.2.2.2.2.2.2.2.2.2.2.1,S f.out.2.2.2.2.2.2.2.2.2.2.2.1,I f.out.2.2.2.2.2.2.2.2.2.2.2.2] 91)] w/\SlR xrl89 M E p0.1/\SlR xrl89 M (hv a1) f.out.2.2.1/\SlR xrl91 M (hv a2) f.out.2.2.2.2.2.2.2.1/\SlR xrl91 M (hv Z) f.out.2.2.2.2.2.2.2.2.1/\SlR xrl91 M a6 p1/\some (.inl (ak,al,am))=some ce) [] ?_ ?_ (trivial)
   ·
    refine CB (p:=f.out.1=(1:Int)) G (fun au=>?_) fun au=>?_
    ·
     rw[if_pos au] at a3;refine SQ ?_;obtain⟨ct,c0,a3⟩:=bnd a3;refine RG (ST (q01 Tu91 G Ts31 Dc G) G (ST (XL H Ta31) G ?_));refine MV G G (ST (q0b G G c0) G (AS G G (AS G G (NL (TN (SQ (SQ ?_)))))));obtain⟨c3,ca,a3⟩:=bnd a3;refine RG (MV G G (ST (q01 Tu91 G Ts89 Dc G) G (ST (q1n (us:=[_,_,_,_,_,_]) H G Km Ta89 Ts89 G G) G ?_)));refine WR.callLendB (b:=V) (o := .cells #[E,I n8,u,a5] 106) H Km (Y5D ca) (fun _ _ _ h=>h) G (fun _ c4 hbor=>⟨hbor,(z).mono c4,(N).mono c4⟩) (q00 G) G ?_;intro cu M w H O hR;replace U:=U.mono O;replace N:=N.mono O;replace K:=K.mono O;replace J:=J.mono O;replace z:=z.mono O;obtain rfl:=hR;refine ST (q0y G) G (NL (TN ?_));obtain⟨cf,ab,a3⟩:=bnd a3;refine q07 (fun e w =>∃(ba:List BT90) (bb:Value) (bc:Int) (M:Mem),e=[(0,ptr V 0),(2,I aj),(8,ptr a7 0),(9,bb),(10,I bc),(11,a6),(12,I (p1.length:Int)),(13,I ah)]/\StX (feet [.blk V (.cells #[E,I p0.2.1,u,Y] 106),RowI 4 encBo u p0.2.2.1,RowS 70 3 xenc70 Y p0.2.2.2]) w0 M0 M [.blk V (.cells #[E,I n8,u,a5] 106),RowI 4 encBo u aa,RowS 70 3 xenc70 a5 a8, .blk a7 (.cells #[I f.out.1,I f.out.2.1,(hv a1),S f.out.2.2.2.1,I f.out.2.2.2.2.1,S f.out.2.2.2.2.2.1,I f.out.2.2.2.2.2.2.1,(hv a2),(hv Z),I f.out.2.2.2.2.2.2.2.2.2.1,S f.out.2.2.2.2.2.2.2.2.2.2.1,S f.out.2.2.2.2.2.2.2.2.2.2.2.1,I f.out.2.2.2.2.2.2.2.2.2.2.2.2] 91)] w/\SlR xrl89 M E p0.1/\SlR xrl89 M (hv a1) f.out.2.2.1/\SlR xrl91 M (hv a2) f.out.2.2.2.2.2.2.2.1/\SlR xrl91 M (hv Z) f.out.2.2.2.2.2.2.2.2.1/\SlR xrl91 M bb ba/\SlR xrl91 M a6 p1/\some (ba,bc)=some cf) [] ?_ ?_ (trivial)
     ·
      refine q09 G (fun ad=>?_) (fun ad=>?_)
      ·
       replace ad:c3=false:=by simpa using ad
       subst ad;rw[if_neg l00] at ab;obtain⟨cv,c1,ab⟩:=bnd ab;obtain⟨cw,bd,ab⟩:=bnd ab;obtain⟨cg,ay,ab⟩:=bnd ab;refine q0Y (fun e w =>∃  (M:Mem),e=[(0,ptr V 0),(2,I aj),(8,ptr a7 0),(9,(hv Z)),(10,I cg),(11,a6),(12,I (p1.length:Int)),(13,I ah)]/\StX (feet [.blk V (.cells #[E,I p0.2.1,u,Y] 106),RowI 4 encBo u p0.2.2.1,RowS 70 3 xenc70 Y p0.2.2.2]) w0 M0 M [.blk V (.cells #[E,I n8,u,a5] 106),RowI 4 encBo u aa,RowS 70 3 xenc70 a5 a8, .blk a7 (.cells #[I f.out.1,I f.out.2.1,(hv a1),S f.out.2.2.2.1,I f.out.2.2.2.2.1,S f.out.2.2.2.2.2.1,I f.out.2.2.2.2.2.2.1,(hv a2),(hv Z),I f.out.2.2.2.2.2.2.2.2.2.1,S f.out.2.2.2.2.2.2.2.2.2.2.1,S f.out.2.2.2.2.2.2.2.2.2.2.2.1,I f.out.2.2.2.2.2.2.2.2.2.2.2.2] 91)] w/\SlR xrl89 M E p0.1/\SlR xrl89 M (hv a1) f.out.2.2.1/\SlR xrl91 M (hv a2) f.out.2.2.2.2.2.2.2.1/\SlR xrl91 M (hv Z) f.out.2.2.2.2.2.2.2.2.1/\SlR xrl91 M a6 p1) ?_ ?_
       ·
        refine q0v (m:=10) G G H ?_;intro w H;refine TK 0 G (fun _=>q01 Tu91 G Ts31 Dc G) G (TK 2 G (fun _=>q02 G) G (TK 3 G (fun _=>q0b G G c1) G (TK 4 G (fun _=>q01 Tu91 G Ts31 Dc G) G (q0B (i:=5) [1] G Kr Kr Kr (XL H Ta31) (q00 G) G G (fun _ _=>G) ?_))));refine q0F (i:=1) (j:=6) Kr G G ?_ ?_
        ·
         refine ST (XL H Ta31) G ?_;refine NA (ON 6 Kr G (q03 H (Y0v bd) G (K) (q00 G) G ?_));intro ch M w H O hR;replace U:=U.mono O;replace N:=N.mono O;replace K:=K.mono O;replace J:=J.mono O;replace z:=z.mono O;obtain rfl:=hR;refine NA (TK 7 G (fun _=>q0b G G ay) G (q0i (fuel:=0) [8,9] G Kr (AS G G (AS G G (NA (q0d Kr ?_))))));exact MP ⟨_,G,(H.pick (L':=[.blk V (.cells #[E,I n8,u,a5] 106),RowI 4 encBo u aa,RowS 70 3 xenc70 a5 a8, .blk a7 (.cells #[I f.out.1,I f.out.2.1,(hv a1),S f.out.2.2.2.1,I f.out.2.2.2.2.1,S f.out.2.2.2.2.2.1,I f.out.2.2.2.2.2.2.1,(hv a2),(hv Z),I f.out.2.2.2.2.2.2.2.2.2.1,S f.out.2.2.2.2.2.2.2.2.2.2.1,S f.out.2.2.2.2.2.2.2.2.2.2.2.1,I f.out.2.2.2.2.2.2.2.2.2.2.2.2] 91)]) Kp),z,N,K,J,U⟩
        refine q03 H (Y0v bd) G (K) (q00 G) G ?_;intro ch M w H O hR;replace U:=U.mono O;replace N:=N.mono O;replace K:=K.mono O;replace J:=J.mono O;replace z:=z.mono O;obtain rfl:=hR;refine NA (TK 7 G (fun _=>q0b G G ay) G (q0i (fuel:=0) [1,8,9] G Kr (ST (XL H Ta31) G ?_)));refine AS G G (AS G G (NA (q0d Kr ?_)));exact MP ⟨_,G,(H.pick (L':=[.blk V (.cells #[E,I n8,u,a5] 106),RowI 4 encBo u aa,RowS 70 3 xenc70 a5 a8, .blk a7 (.cells #[I f.out.1,I f.out.2.1,(hv a1),S f.out.2.2.2.1,I f.out.2.2.2.2.1,S f.out.2.2.2.2.2.1,I f.out.2.2.2.2.2.2.1,(hv a2),(hv Z),I f.out.2.2.2.2.2.2.2.2.2.1,S f.out.2.2.2.2.2.2.2.2.2.2.1,S f.out.2.2.2.2.2.2.2.2.2.2.2.1,I f.out.2.2.2.2.2.2.2.2.2.2.2.2] 91)]) Kp),z,N,K,J,U⟩
       rintro e w ⟨M,rfl,H,z,N,K,J,U⟩;exact MN ⟨_,_,_,_,G,H,z,N,K,J,J,U,ab⟩
      replace ad:c3=true:=by simpa using ad
      subst ad;rw[if_pos rfl] at ab;refine SK ?_;exact MN ⟨_,_,_,_,G,(H.pick (L':=[.blk V (.cells #[E,I n8,u,a5] 106),RowI 4 encBo u aa,RowS 70 3 xenc70 a5 a8, .blk a7 (.cells #[I f.out.1,I f.out.2.1,(hv a1),S f.out.2.2.2.1,I f.out.2.2.2.2.1,S f.out.2.2.2.2.2.1,I f.out.2.2.2.2.2.2.1,(hv a2),(hv Z),I f.out.2.2.2.2.2.2.2.2.2.1,S f.out.2.2.2.2.2.2.2.2.2.2.1,S f.out.2.2.2.2.2.2.2.2.2.2.2.1,I f.out.2.2.2.2.2.2.2.2.2.2.2.2] 91)]) Kp),z,N,K,J,K,U,ab⟩
     rintro e w ⟨ba,bb,bc,M,rfl,H,z,N,K,J,cb,U,ci⟩;obtain rfl:=oI ci;try dsimp only at a3
     refine TN (SQ ?_);obtain⟨⟨c5,be⟩,cc,a3⟩:=bnd a3;try dsimp only at a3
     refine RG (MV G G (MV G G (MV G G (XC (A:=[.blk V (.cells #[E,I n8,u,a5] 106),RowI 4 encBo u aa,RowS 70 3 xenc70 a5 a8]) H (ih cc :) G ⟨z,cb⟩ (q00 G) G Kt ?_))));intro cx M w its H O hR;replace U:=U.mono O;replace z:=z.mono O;replace N:=N.mono O;replace K:=K.mono O;replace J:=J.mono O;try dsimp only at hR
     obtain⟨az,rfl,rfl⟩:=hR;simp only[l01,l02] at H;refine ST (q0y G) G (NL (TN ?_));refine q09 G (fun ae=>?_) (fun ae=>?_)
     ·
      replace ae:c5=false:=by simpa using ae
      subst ae;rw[if_neg l00] at a3;refine SQ (RG (AS G G (NL (TN (RT ?_)))));obtain rfl:=oI a3;try dsimp only at e2
      obtain rfl:=oI e2;try dsimp only at h
      obtain rfl:=oI h;exact q0x (its:=[.blk V (.cells #[E,I be.2.1,u,az] 106),RowI 4 encBo u be.2.2.1,RowS 70 3 xenc70 az be.2.2.2]) G G H Kp ⟨_,G,G⟩
     replace ae:c5=true:=by simpa using ae
     subst ae;rw[if_pos rfl] at a3;refine SK ?_;exact MN ⟨_,_,_,_,_,G,H,z,N,K,J,U,a3⟩
    rw[if_neg au] at a3;refine SQ (RG (ST (q0j G G) G (AS G G (NL (TN ?_)))));refine CB (p:=f.out.1=(2:Int)) G (fun av=>?_) fun av=>?_
    ·
     rw[if_pos av] at a3;obtain⟨bf,b0,a3⟩:=bnd a3;refine q0Y (fun e w =>∃(bg:Value) (M:Mem),e=[(0,ptr V 0),(2,I aj),(8,ptr a7 0),(11,a6),(12,I (p1.length:Int)),(13,I ah)]/\StX (feet [.blk V (.cells #[E,I p0.2.1,u,Y] 106),RowI 4 encBo u p0.2.2.1,RowS 70 3 xenc70 Y p0.2.2.2]) w0 M0 M [.blk V (.cells #[E,I n8,u,bg] 106),RowI 4 encBo u aa,RowS 70 3 xenc70 bg bf, .blk a7 (.cells #[I f.out.1,I f.out.2.1,(hv a1),S f.out.2.2.2.1,I f.out.2.2.2.2.1,S f.out.2.2.2.2.2.1,I f.out.2.2.2.2.2.2.1,(hv a2),(hv Z),I f.out.2.2.2.2.2.2.2.2.2.1,S f.out.2.2.2.2.2.2.2.2.2.2.1,S f.out.2.2.2.2.2.2.2.2.2.2.2.1,I f.out.2.2.2.2.2.2.2.2.2.2.2.2] 91)] w/\SlR xrl89 M E p0.1/\SlR xrl89 M (hv a1) f.out.2.2.1/\SlR xrl91 M (hv a2) f.out.2.2.2.2.2.2.2.1/\SlR xrl91 M (hv Z) f.out.2.2.2.2.2.2.2.2.1/\SlR xrl91 M a6 p1) ?_ ?_
     ·
      refine q0v (m:=13) G G H ?_;intro w H;refine TK 0 G (fun _=>q02 G) G (TK 1 G (fun _=>q02 G) G (TK 2 G (fun _=>q0k G) G (TK 3 G (fun _=>q01 Tu106 G Ts39 Dc G) G (TK 5 G (fun _=>q01 Tu91 G Ts3 Dc G) G (q0B (i:=6) [4] G Kr Kr Kr (XL H Ta3) (q00 G) G G (fun _ _=>G) ?_)))));refine TK 7 G (fun _=>q0A [I f.out.2.2.2.2.2.2.2.2.2.1,S [],I 0] Tu70 Tz70 (xplaces70 Tu70) G G) G ?_;refine q0F (i:=4) (j:=8) Kr G G ?_ ?_
      ·
       refine ST (XL H Ta39) G ?_;refine NA (q0i (fuel:=0) [8,9,10,11,12] G Kr (q0Q (enc:=xenc70) xty39 ([(f.out.2.2.2.2.2.2.2.2.2.1,[],0)]:List Z02) H (fun _=>G) G Kr G G G (q00 G) G ?_));intro cj M w H O aw;replace U:=U.mono O;replace N:=N.mono O;replace K:=K.mono O;replace J:=J.mono O;replace z:=z.mono O;refine q1j (l:=a8) xty39 G xone70 H G (fun _=>by repeat first|exact .head|apply Upd.tail) G (aw) b0 (q00 G) G ?_;intro ao w H;refine FN G G Tu106 G Ts39 G G (q0J [_,_,_,_] H G G (H.rowOneS Km) Ku Kf Ts39 (by first|decide|(simp;done)|(simp;omega)) (q00 G) ?_);intro w H;refine NA (q0d Kr ?_);exact MP ⟨_,_,G,(H.pick (L':=[.blk V (.cells #[E,I n8,u,ao] 106),RowI 4 encBo u aa,RowS 70 3 xenc70 ao bf, .blk a7 (.cells #[I f.out.1,I f.out.2.1,(hv a1),S f.out.2.2.2.1,I f.out.2.2.2.2.1,S f.out.2.2.2.2.2.1,I f.out.2.2.2.2.2.2.1,(hv a2),(hv Z),I f.out.2.2.2.2.2.2.2.2.2.1,S f.out.2.2.2.2.2.2.2.2.2.2.1,S f.out.2.2.2.2.2.2.2.2.2.2.2.1,I f.out.2.2.2.2.2.2.2.2.2.2.2.2] 91)]) Kp),z,N,K,J,U⟩
      refine q0Q (enc:=xenc70) xty39 ([(f.out.2.2.2.2.2.2.2.2.2.1,[],0)]:List Z02) H (fun _=>G) G Kr G G G (q00 G) G ?_;intro cj M w H O aw;replace U:=U.mono O;replace N:=N.mono O;replace K:=K.mono O;replace J:=J.mono O;replace z:=z.mono O;refine NA (q0i (fuel:=0) [4,9,10,11,12] G Kr (ST (XL H Ta39) G ?_));refine q1j (l:=a8) xty39 G xone70 H G (fun _=>by repeat first|exact .head|apply Upd.tail) G (aw) b0 (q00 G) G ?_;intro ao w H;refine FN G G Tu106 G Ts39 G G (q0J [_,_,_,_] H G G (H.rowOneS Km) Ku Kf Ts39 (by first|decide|(simp;done)|(simp;omega)) (q00 G) ?_);intro w H;refine NA (q0d Kr ?_);exact MP ⟨_,_,G,(H.pick (L':=[.blk V (.cells #[E,I n8,u,ao] 106),RowI 4 encBo u aa,RowS 70 3 xenc70 ao bf, .blk a7 (.cells #[I f.out.1,I f.out.2.1,(hv a1),S f.out.2.2.2.1,I f.out.2.2.2.2.1,S f.out.2.2.2.2.2.1,I f.out.2.2.2.2.2.2.1,(hv a2),(hv Z),I f.out.2.2.2.2.2.2.2.2.2.1,S f.out.2.2.2.2.2.2.2.2.2.2.1,S f.out.2.2.2.2.2.2.2.2.2.2.2.1,I f.out.2.2.2.2.2.2.2.2.2.2.2.2] 91)]) Kp),z,N,K,J,U⟩
     rintro e w ⟨bg,M,rfl,H,z,N,K,J,U⟩;exact MN ⟨_,_,_,_,_,G,H,z,N,K,J,U,a3⟩
    rw[if_neg av] at a3;refine SQ (RG (ST (q0j G G) G (AS G G (NL (TN ?_)))));refine CB (p:=f.out.1=(4:Int)) G (fun ax=>?_) fun ax=>?_
    ·
     rw[if_pos ax] at a3;refine SQ (RG (AS G G (NL (TN (RT ?_)))));obtain rfl:=oI a3;try dsimp only at e2
     obtain rfl:=oI e2;try dsimp only at h
     obtain rfl:=oI h;exact q0x (its:=[.blk V (.cells #[E,I n8,u,a5] 106),RowI 4 encBo u aa,RowS 70 3 xenc70 a5 a8]) G G H Kp ⟨_,G,G⟩
    rw[if_neg ax] at a3;refine SK ?_;exact MN ⟨_,_,_,_,_,G,(H.pick (L':=[.blk V (.cells #[E,I n8,u,a5] 106),RowI 4 encBo u aa,RowS 70 3 xenc70 a5 a8, .blk a7 (.cells #[I f.out.1,I f.out.2.1,(hv a1),S f.out.2.2.2.1,I f.out.2.2.2.2.1,S f.out.2.2.2.2.2.1,I f.out.2.2.2.2.2.2.1,(hv a2),(hv Z),I f.out.2.2.2.2.2.2.2.2.2.1,S f.out.2.2.2.2.2.2.2.2.2.2.1,S f.out.2.2.2.2.2.2.2.2.2.2.2.1,I f.out.2.2.2.2.2.2.2.2.2.2.2.2] 91)]) Kp),z,N,K,J,U,a3⟩
   rintro e w ⟨ak,al,am,ai,M,rfl,H,z,N,K,J,U,ck⟩;obtain rfl:=oI ck;try dsimp only at e2
   refine IB (TN ?_);obtain⟨cy,bh,e2⟩:=bnd e2;obtain⟨cz,b1,e2⟩:=bnd e2;obtain⟨d0,bi,e2⟩:=bnd e2;obtain⟨d1,b2,e2⟩:=bnd e2;obtain⟨cl,b3,e2⟩:=bnd e2;refine q0Y (fun e w =>∃  (M:Mem),e=[(0,ptr V 0),(2,I cl),(11,a6),(12,I (p1.length:Int)),(13,I ah)]/\StX (feet [.blk V (.cells #[E,I p0.2.1,u,Y] 106),RowI 4 encBo u p0.2.2.1,RowS 70 3 xenc70 Y p0.2.2.2]) w0 M0 M [.blk V (.cells #[E,I ak,u,ai] 106),RowI 4 encBo u al,RowS 70 3 xenc70 ai am] w/\SlR xrl89 M E p0.1/\SlR xrl91 M a6 p1) ?_ ?_
   ·
    refine q0v (m:=11) G G H ?_;intro w H;refine TK 0 G (fun _=>q02 G) G (TK 1 G (fun _=>q01 Tu91 G Ts31 Dc G) G (TK 5 G (fun _=>q01 Tu91 G Ts31 Dc G) G (q0B (i:=2) [6] G Kr Kr Kr (XL H Ta31) (q00 G) G G (fun _ _=>G) ?_)));refine q0F (i:=3) (j:=6) Kr G G ?_ ?_
    ·
     refine q03 H (Y0v bh) G (K) (q00 G) G ?_;intro cm M w H O hR;replace U:=U.mono O;replace z:=z.mono O;replace J:=J.mono O;obtain rfl:=hR;refine NA (TK 4 G (fun _=>q0b G G b1) G (q0i (fuel:=0) [6,7,8,9,10] G Kr (ST (XL H Ta31) G ?_)));refine q03 H (Y0v bi) G (J) (q00 G) G ?_;intro cn M w H O hR;replace U:=U.mono O;replace z:=z.mono O;obtain rfl:=hR;refine ST (q0b G G b2) G (ST (q0b G G b3) G (AS G G (NA (q0d Kr ?_))));exact MP ⟨_,G,(H.pick (L':=[.blk V (.cells #[E,I ak,u,ai] 106),RowI 4 encBo u al,RowS 70 3 xenc70 ai am]) Kp),z,U⟩
    refine ST (XL H Ta31) G ?_;refine NA (ON 3 Kr G (q03 H (Y0v bh) G (K) (q00 G) G ?_));intro cm M w H O hR;replace U:=U.mono O;replace z:=z.mono O;replace J:=J.mono O;obtain rfl:=hR;refine NA (TK 4 G (fun _=>q0b G G b1) G (q0i (fuel:=0) [7,8,9,10] G Kr (q03 H (Y0v bi) G (J) (q00 G) G ?_)));intro cn M w H O hR;replace U:=U.mono O;replace z:=z.mono O;obtain rfl:=hR;refine ST (q0b G G b2) G (ST (q0b G G b3) G (AS G G (NA (q0d Kr ?_))));exact MP ⟨_,G,(H.pick (L':=[.blk V (.cells #[E,I ak,u,ai] 106),RowI 4 encBo u al,RowS 70 3 xenc70 ai am]) Kp),z,U⟩
   rintro e w ⟨M,rfl,H,z,U⟩;refine IB (TN ?_);obtain⟨d2,c2,e2⟩:=bnd e2;refine RG (ST (q0b G G c2) G (MV G G (NL ?_)));exact AG b6 ⟨_,_,_,_,_,_,_,G,H,z,U,e2⟩ (l04 _)
  rw[if_neg aq] at e2;refine q0o (q04 (q04 (q0g ?_)));exact MN ⟨_,_,_,_,_,G,H,z,e2⟩
 rintro e w ⟨n3,l4,l6,v7,M,rfl,H,z,co⟩;obtain rfl:=oI co;try dsimp only at h
 refine TN (SQ (RG (AS G G (NL (TN (RT ?_))))));obtain rfl:=oI h;exact q0x (its:=[.blk V (.cells #[E,I n3,u,v7] 106),RowI 4 encBo u l4,RowS 70 3 xenc70 v7 l6]) G G H Kp ⟨_,G,G⟩
theorem Y3G :∀(m:Nat) {E:Z0C} {O:List BT90} {U:Int} {J:Nat} {u:Value} {f:Value} {z:Value} {K:Value} {r:Z0T},Y0x m E O U=some r->CtX Tryz.prog 41 [ptr J 0,K,I U] [.blk J (.cells #[u,I E.2.1,f,z] 106),RowI 4 encBo f E.2.2.1,RowS 70 3 xenc70 z E.2.2.2] (fun M=>SlR xrl89 M u E.1/\SlR xrl91 M K O) (fun v M its =>∃N,v=Value.bool r.1/\its=[.blk J (.cells #[u,I r.2.2.1,f,N] 106),RowI 4 encBo f r.2.2.2.1,RowS 70 3 xenc70 N r.2.2.2.2])
 | 0,_,_,_,_,_,_,_,_,_,h=>by rw[Y0x] at h;cases h
 | m+1,_,_,_,_,_,_,_,_,_,h=>Y51 (fun h=>Y3G m h) (by rw[Y0x] at h;exact h)
theorem Y5h {E:Z0C}{O:List BT90}{U:Int}{J:Nat}{u:Value}{f:Value}{z:Value}{K:Value}{r:Z0T}(h:Y3k E O U=some r):CtX Tryz.prog 41 [ptr J 0,K,I U] [.blk J (.cells #[u,I E.2.1,f,z] 106),RowI 4 encBo f E.2.2.1,RowS 70 3 xenc70 z E.2.2.2] (fun M=>SlR xrl89 M u E.1/\SlR xrl91 M K O) (fun v M its =>∃N,v=Value.bool r.1/\its=[.blk J (.cells #[u,I r.2.2.1,f,N] 106),RowI 4 encBo f r.2.2.2.1,RowS 70 3 xenc70 N r.2.2.2.2]):=Y3G FU h
theorem Y4L {K:List Z02}{U:(Z02->Option Bool)}{E:Value}{J:Value}{r:Int}(h:Y28 K U=some r):Ct Tryz.prog 42 [E,J] (fun M=>SlS M 3 xenc70 E K/\FnT75 M J U) (fun v M=>v=I r):=by
 refine Ct.of Tryz.func42 (enters Tryz.func42 Kr G) G G G ?_;intro w0 M0 H hp;obtain⟨u,z⟩:=hp;unfold Y28 at h;refine SQ (RG (AS G G (NL (TN (SQ (SQ (RG (MV G G (ST (q0O Tu39 u G) G (MV G G (NL (TN ?_))))))))))));obtain⟨o1,f,h⟩:=bnd h;refine q07 (fun e w =>∃  (M:Mem),e=[]/\St w0 M0 M [] w/\some (.inl ())=some o1) [] ?_ ?_ (trivial)
 ·
  refine BL (q0p (fun m e w =>∃(V:Int) (M:Mem),e=[(0,E),(1,J),(7,I (K.length:Int)),(8,I V)]/\St w0 M0 M [] w/\SlS M 3 xenc70 E K/\FnT75 M J U/\Y0e K U m V=some o1) FU [(0,_),(1,_),(7,_),(8,_)] ⟨rfl,rfl,rfl,rfl,trivial⟩ ⟨_,_,rfl,H,u,z,f⟩ ?_);rintro m4 e w ⟨V,M,rfl,H,u,z,f⟩;rcases m4 with _|m4
  · rw[Y0e] at f;cases f
  rw[Y0e] at f;refine SQ (RG (ST (q0n G G) G (NL (TN (SQ ?_)))));refine CB (p:=V<(K.length:Int)) G (fun N=>?_) fun N=>?_
  ·
   rw[if_pos N] at f;refine SK (TN (SQ (BL (SQ (RG (MV G G (AS G G (NL (TN (SQ ?_))))))))));obtain⟨a6,a1,f⟩:=bnd f;obtain⟨a9,aa,a2,a3⟩:=u.atC a1;obtain⟨b7,a7,f⟩:=bnd f;refine RG (MV G G (MV G G (MV G G (ST (q0w a2 Tu39 Ts70 G G) G (ST (q0C H G a3 Ta70 Ts70 Kf) G ?_)))));refine WR.callF H (z _ _ a7) G G (q00 G) G ?_;intro ab M w H Z hR;replace u:=u.mono Z;replace z:=z.mono Z;obtain rfl:=hR;refine NL (TN ?_);refine q09 G (fun O=>?_) (fun O=>?_)
   ·
    subst O;rw[if_pos rfl] at f;refine SQ (RG (MV G G (AS G G (NL (TN (RT ?_))))));obtain rfl:=oI f;try dsimp only at h
    obtain rfl:=oI h;exact q08 G G H.ext G
   subst O;rw[if_neg l00] at f;refine SK (IB (TN ?_));obtain⟨ac,Y,f⟩:=bnd f;refine RG (ST (q0b G G Y) G (MV G G (NL ?_)));exact AG m4 ⟨_,_,G,H,u,z,f⟩ (l04 _)
  rw[if_neg N] at f;refine q0o (q04 (q04 (q0g ?_)));exact MN ⟨_,G,H,f⟩
 rintro e w ⟨M,rfl,H,a8⟩;obtain rfl:=oI a8;try dsimp only at h
 refine TN (SQ (RG (AS G G (NL (TN (RT ?_))))));obtain rfl:=oI h;exact q08 G G H.ext G
theorem Y4e {z:List Z02}{E:(Z02->Option Bool)}{f:Value}{u:Value}{r:Bool}(h:Y1c z E=some r):Ct Tryz.prog 20 [f,u] (fun M=>SlS M 3 xenc70 f z/\FnT75 M u E) (fun v M=>v=Value.bool r):=by
 refine Ct.of Tryz.func20 (enters Tryz.func20 Kr G) G G G ?_;intro U M0 H hp;obtain⟨J,K⟩:=hp;unfold Y1c at h;refine SQ (RG (AS G G (NL (TN (SQ ?_)))));obtain⟨V,N,h⟩:=bnd h;refine RG (MV G G (MV G G (q03 H (Y4L N) G ⟨J,K⟩ (q00 G) G ?_)));intro Y M w H O hR;obtain rfl:=hR;refine ST (q1a G G) G (AS G G (NL (TN (RT ?_))));obtain rfl:=oI h;exact q08 G G H.ext G
theorem Y62 {u:Z02}{r:Bool}(h:Y1k u=some r):Ct Tryz.prog 21 [Value.agg #[I u.1,S u.2.1,I u.2.2]] (fun M=>True) (fun v M=>v=Value.bool r):=by
 refine Ct.of Tryz.func21 (enters Tryz.func21 Kr G) G G G ?_;intro J M0 H hp;unfold Y1k at h;refine SQ (RG (q0I [_,_,_] H G G (q00 G) G ?_));intro O w H;refine AS G G (NL (TN (SQ ?_)));obtain⟨K,z,h⟩:=bnd h;refine q07 (fun e w =>∃(E:Bool) (M:Mem),e=[(2,Value.bool E)]/\St J M0 M [] w/\some E=some K) [] ?_ ?_ (trivial)
 ·
  refine RG (ST (q01 Tu70 G Ts3 Dc G) G (ST (XL H Ta3) G ?_));by_cases f:u.1=(1:Int)
  ·
   rw[if_pos f] at z;refine DT f (q0j G G) G (MV G G (q06 3 G G (PT G G G (AS G G (NL ?_)))));exact MN ⟨_,_,G,(H.pick (L':=[]) Kp),z⟩
  rw[if_neg f] at z;refine DF f (q0j G G) G (MV G G (SG (q01 Tu70 G Ts3 Dc G) G G G (SG (XL H Ta3) G G G ?_)));refine SG (q0j G G) G G G (PF G G G (AS G G (NL ?_)));exact MN ⟨_,_,G,(H.pick (L':=[]) Kp),z⟩
 rintro e w ⟨E,M,rfl,H,N⟩;obtain rfl:=oI N;refine TN (RT ?_);obtain rfl:=oI h;exact q08 G G H.ext G
end Go.Proofs.YtgicephoflppiaaGreatDoor
end
section
namespace Go.Proofs.YtgicephoflppiaaGreatDoor
open Go Go.RowKit Go.Ph Go.Ph.Pl Go.Ph.Pf
theorem Y3m {J:List Z02}{z:Value}{r:Bool}(h:Y1Y J=some r):Ct Tryz.prog 22 [z] (fun M=>SlS M 3 xenc70 z J) (fun v M=>v=Value.bool r):=by
 refine Ct.of Tryz.func22 (enters Tryz.func22 Kr G) G G G ?_;intro Y M0 H hp;have u:=hp;unfold Y1Y at h;refine SQ (RG (AS G G (NL (TN (SQ (SQ (RG (MV G G (ST (q0O Tu39 u G) G (MV G G (NL (TN ?_))))))))))));obtain⟨o1,f,h⟩:=bnd h;refine q07 (fun e w =>∃  (M:Mem),e=[]/\St Y M0 M [] w/\some (.inl ())=some o1) [] ?_ ?_ (trivial)
 ·
  refine BL (q0p (fun m e w =>∃(N:Int) (M:Mem),e=[(5,z),(6,I (J.length:Int)),(7,I N)]/\St Y M0 M [] w/\SlS M 3 xenc70 z J/\Y15 J m N=some o1) FU [(5,_),(6,_),(7,_)] ⟨rfl,rfl,rfl,trivial⟩ ⟨_,_,rfl,H,u,f⟩ ?_);rintro Z e w ⟨N,M,rfl,H,u,f⟩;rcases Z with _|Z
  · rw[Y15] at f;cases f
  rw[Y15] at f;refine SQ (RG (ST (q0n G G) G (NL (TN (SQ ?_)))));refine CB (p:=N<(J.length:Int)) G (fun O=>?_) fun O=>?_
  ·
   rw[if_pos O] at f;refine SK (TN (SQ (BL (SQ ?_))));obtain⟨a6,a0,f⟩:=bnd f;obtain⟨aa,o9,a3,a4⟩:=u.atC a0;refine RG (ST (q0w a3 Tu39 Ts70 G G) G (ST (q0C H G a4 Ta70 Ts70 Kf) G ?_));refine q0f [_,_,_] H Tz70 G (q00 G) G ?_;intro ab w H;refine q05 [_,_,_] H G G G Ku Ts70 G Kf Kf (q00 G) ?_;intro w H;refine NL (TN (SQ ?_));obtain⟨o7,U,f⟩:=bnd f;refine q07 (fun e w =>∃(b9:Bool) (M:Mem),e=[(5,z),(6,I (J.length:Int)),(7,I N),(18,Value.bool b9)]/\St Y M0 M [] w/\SlS M 3 xenc70 z J/\some b9=some o7) [] ?_ ?_ (trivial)
   ·
    refine RG (ST (q01 Tu70 G Ts3 Dc G) G (ST (XL H Ta3) G ?_));by_cases E:a6.1=(6:Int)
    ·
     rw[if_pos E] at U;refine q0l (v' := .bool false) (q0E G G) (congrArg Value.bool (by rw[decide_eq_true E];rfl)) (q00 G) G G ?_;refine MV G G (q06 3 G G (PF G G G (NL ?_)));exact MN ⟨_,_,G,(H.pick (L':=[]) Kp),u,U⟩
    rw[if_neg E] at U;refine q0l (v' := .bool true) (q0E G G) (congrArg Value.bool (by rw[decide_eq_false E];rfl)) (q00 G) G G ?_;refine MV G G (SG (q01 Tu70 G Ts3 Dc G) G G G (SG (XL H Ta3) G G G ?_));refine SG (q0E G G) G G G (PT G G G (NL ?_));exact MN ⟨_,_,G,(H.pick (L':=[]) Kp),u,U⟩
   rintro e w ⟨b9,M,rfl,H,u,a5⟩;obtain rfl:=oI a5;refine TN ?_;refine q09 G (fun K=>?_) (fun K=>?_)
   ·
    subst K;rw[if_pos rfl] at f;refine SQ (RG (AS G G (NL (TN (RT ?_)))));obtain rfl:=oI f;try dsimp only at h
    obtain rfl:=oI h;exact q08 G G H.ext G
   subst K;rw[if_neg l00] at f;refine SK (IB (TN ?_));obtain⟨ac,V,f⟩:=bnd f;refine RG (ST (q0b G G V) G (MV G G (NL ?_)));exact AG Z ⟨_,_,G,H,u,f⟩ (l04 _)
  rw[if_neg O] at f;refine q0o (q04 (q04 (q0g ?_)));exact MN ⟨_,G,H,f⟩
 rintro e w ⟨M,rfl,H,a7⟩;obtain rfl:=oI a7;try dsimp only at h
 refine TN (SQ (RG (AS G G (NL (TN (RT ?_))))));obtain rfl:=oI h;exact q08 G G H.ext G
theorem Y6q {O:List Z02}{E:Bool}{K:Value}{f:Nat}{r:Bool}(h:Y3D O E=some r):CtX Tryz.prog 19 [K,ptr f 0] [.blk f (.cells #[Value.bool E] 4)] (fun M=>SlS M 3 xenc70 K O) (fun v M its=>v=Value.tuple #[]/\its=[.blk f (.cells #[Value.bool r] 4)]):=by
 refine q0T Tryz.func19 (enters Tryz.func19 Kr G) G G G ?_;intro Y M0 H hp;have z:=hp;unfold Y3D at h;refine SQ ?_;obtain⟨Z,U,h⟩:=bnd h;refine RG (MV G G (q03 H (Y4e U) G ⟨z,(fun _ _ h=>FnV.of (Y62 h) (fun _ _=>trivial))⟩ (q00 G) G ?_));intro v5 M w H N hR;replace z:=z.mono N;obtain rfl:=hR;refine AS G G (NL (TN ?_));obtain⟨o3,u,h⟩:=bnd h;refine q07 (fun e w =>∃(J:Bool) (M:Mem),e=[]/\StX (feet [.blk f (.cells #[Value.bool E] 4)]) Y M0 M [.blk f (.cells #[Value.bool J] 4)] w/\some J=some o3) [] ?_ ?_ (trivial)
 ·
  refine RG (ST (XL H Ta4) G ?_);refine MV G G ?_;rcases E with _|_
  ·
   rw[if_neg l00] at u;refine q06 6 G G (PF G G G (q05 [_] H G G G Ku Ts4 G Kf Kf (q00 G) ?_));intro w H;refine NL ?_;exact MN ⟨_,_,G,H,u⟩
  rw[if_pos rfl] at u;refine SG (q02 G) G G G (SG (q02 G) G G G ?_);rcases Z with _|_
  ·
   rw[if_neg l00] at u;obtain⟨b6,V,u⟩:=bnd u;refine SG (q02 G) G G G (q03 H (Y3m V) G (z) (q0h G G G) G ?_);intro a2 M w H N hR;obtain rfl:=hR;refine SG (q0y G) G G G (SG (q0u G G) G G G (PT G G G (q05 [_] H G G G Ku Ts4 G Kf Kf (q00 G) ?_)));intro w H;refine NL ?_;exact MN ⟨_,_,G,H,u⟩
  rw[if_pos rfl] at u;refine q06 3 G G (SG (q0t G G) G G G (PT G G G (q05 [_] H G G G Ku Ts4 G Kf Kf (q00 G) ?_)));intro w H;refine NL ?_;exact MN ⟨_,_,G,H,u⟩
 rintro e w ⟨J,M,rfl,H,q8⟩;obtain rfl:=oI q8;obtain rfl:=oI h;exact q1e (its:=[.blk f (.cells #[Value.bool J] 4)]) G H Kp ⟨G,G⟩
theorem Y79 {p0:List BT90}{p1c:Bool}{a1:Value}{bp1c:Nat}{r:(List Bool × Z0a × Bool)}(h:Y5Y p0 p1c=some r):CtX Tryz.prog 18 [a1,(Value.func (.func 19) #[] #[ptr bp1c 0])] [.blk bp1c (.cells #[Value.bool p1c] 4)] (fun M=>SlR xrl91 M a1 p0) (fun v M its =>∃x0,v=Value.tuple #[x0,Value.agg #[I r.2.1.1,I r.2.1.2]]/\Sl M encBo x0 r.1/\its=[.blk bp1c (.cells #[Value.bool r.2.2] 4)]):=by
 refine q0T Tryz.func18 (enters Tryz.func18 Kr G) G G G ?_;intro w0 M0 H hp;have f:=hp;unfold Y5Y at h;refine SQ (RG (AS G G (q0f [_,_] H Tz33 G (q00 G) G ?_)));intro K w H;refine NL (TN (SQ (SQ ?_)));obtain⟨⟨n1,n2⟩,au,h⟩:=bnd h;try dsimp only at h
 refine RG (MV G G (q03 H (Y3c au) G (f) (q00 G) G ?_));intro b0 M w H u hR;replace f:=f.mono u;try dsimp only at hR
 obtain rfl:=hR;refine q0f [_,_] H Tz33 G (q00 G) G ?_;intro b1 w H;refine q05 [_,_] H G G G Ku Ts33 G Kf Kf (q00 G) ?_;intro w H;refine NL (TN (SQ ?_));obtain⟨b4,av,h⟩:=bnd h;refine RG (ST (q0a H G Km Ta33 Ts33 Kf) G ?_);refine q03 H (Y05 av) G trivial (q00 G) G ?_;intro b2 M w H u hR;replace f:=f.mono u;obtain rfl:=hR;refine NL (TN ?_);refine q09 G (fun a3=>?_) (fun a3=>?_)
 ·
  subst a3;rw[if_pos rfl] at h;refine SQ (q0v (m:=3) G G H ?_);intro w H;refine TK 1 G (fun _=>q1o G) G (q0i (fuel:=0) [0,2] G Kr (ST (q0a H G Km Ta33 Ts33 Kf) G ?_));refine q05 [_,_] H G G G Ku Ts33 G Kf Kf (q00 G) ?_;intro w H;refine NA (q0d Kr (TN (RT ?_)));obtain rfl:=oI h;exact WQ.retX2 (its:=[.blk bp1c (.cells #[Value.bool p1c] 4)]) G G ⟨_,G,H.loadAgg Km Ta33 Ts33 Kf⟩ H Kp ⟨_,G,q0L _ _,G⟩
 subst a3;rw[if_neg l00] at h;refine SK (TN (SQ ?_));obtain⟨l9,ah,h⟩:=bnd h;refine RG (MV G G ?_);replace H:=H.newRowS 89 xrl89.k xrl89.enc;first|have ac:RelL xrl89 M [] []:=RelL.nil|have ac:RelL xrl89 M0 [] []:=RelL.nil
 refine XC (A:=[RowS 89 xrl89.k xrl89.enc (Value.slice none 0 0) ([]:List Z06)]) H (Y6P ah) G ⟨ac,f⟩ (q00 G) G Kt ?_;intro O M w its H u hR;replace f:=f.mono u;obtain⟨b3,Y,rfl⟩:=hR;simp only[l01,l02] at H;obtain⟨M,u,z,H⟩:=H.freezeRowSN (v:=O) (enc:=xrl89.enc) (t:=89) Kv (fun _=>rfl) ⟨⟨_,Km⟩,trivial⟩;replace f:=f.mono u;replace Y:=Y.mono u;replace z:=q1q (R:=xrl89) z Y;refine AS G G (NL (TN (SQ (SQ (RG (MV G G (ST (q0S Tu87 z G) G (ST (q0H G G) G (NL (TN ?_))))))))));refine CB (p:=(10:Int)<(l9.length:Int)) G (fun Z=>?_) fun Z=>?_
 ·
  rw[if_pos Z] at h;refine SQ ?_;obtain⟨⟨b5,b6⟩,ai,h⟩:=bnd h;try dsimp only at h
  refine RG (q03 H (Y01 ai) G trivial (q00 G) G ?_);intro b7 M w H u hR;try dsimp only at hR
  obtain rfl:=hR;refine AS G G (q05 [_,_] H G G G Ku Ts33 G Kf Kf (q00 G) ?_);intro w H;refine NL (TN (RT ?_));obtain rfl:=oI h;exact WQ.retX2 (its:=[.blk bp1c (.cells #[Value.bool p1c] 4)]) G G ⟨_,G,H.loadAgg Km Ta33 Ts33 Kf⟩ H Kp ⟨_,G,q0L _ _,G⟩
 rw[if_neg Z] at h;refine SK (TN (SQ ?_));obtain⟨b8,aj,h⟩:=bnd h;obtain⟨aw,a8,h⟩:=bnd h;refine RG (MV G G (q03 H (Y0v aj) G (f) (q00 G) G ?_));intro b9 M w H u hR;replace f:=f.mono u;replace z:=z.mono u;obtain rfl:=hR;refine WR.mkC (enc:=encBo) (z0:=(false:Bool)) xty71 G H G G a8 (q00 G) G ?_;intro J w H;refine AS G G (NL (TN (SQ (SQ ?_))));obtain⟨a4,a9,h⟩:=bnd h;refine RG (MV G G (ST (q0S Tu87 z G) G (ST (Ex.shlI G G a9) G (MV G G (NL (TN ?_))))));obtain⟨ad,E,h⟩:=bnd h;refine q07 (fun e w =>∃(a5:List Bool) (a2:Bool) (M:Mem),e=[(5,ptr K 0),(8,J)]/\StX (feet [.blk bp1c (.cells #[Value.bool p1c] 4)]) w0 M0 M [.blk K (.cells #[I 0,I 0] 33),RowI 4 encBo J a5, .blk bp1c (.cells #[Value.bool a2] 4)] w/\some (a5,a2)=some ad) [] ?_ ?_ (trivial)
 ·
  refine BL ?_;refine q0p (fun m e w =>∃(U:Bool) (V:List Bool) (N:Int) (M:Mem),e=[(0,a1),(1,(Value.func (.func 19) #[] #[ptr bp1c 0])),(5,ptr K 0),(7,O),(8,J),(27,I a4),(28,I N)]/\StX (feet [.blk bp1c (.cells #[Value.bool p1c] 4)]) w0 M0 M [.blk bp1c (.cells #[Value.bool U] 4), .blk K (.cells #[I 0,I 0] 33),RowI 4 encBo J V] w/\SlR xrl91 M a1 p0/\SlR xrl89 M O l9/\Y2c p0 l9 a4 m U V N=some ad) FU [(0,_),(1,_),(5,_),(7,_),(8,_),(27,_),(28,_)] ⟨rfl,rfl,rfl,rfl,rfl,rfl,rfl,trivial⟩ ⟨_,_,_,_,rfl,(H.pick (L':=[.blk bp1c (.cells #[Value.bool p1c] 4), .blk K (.cells #[I 0,I 0] 33),RowI 4 encBo J aw]) Kp),f,z,E⟩ ?_;rintro a6 e w ⟨U,V,N,M,rfl,H,f,z,E⟩;rcases a6 with _|a6
  · rw[Y2c] at E;cases E
  rw[Y2c] at E;refine SQ (RG (ST (q0n G G) G (NL (TN (SQ ?_)))));refine CB (p:=N<a4) G (fun a0=>?_) fun a0=>?_
  ·
   rw[if_pos a0] at E;refine SK (TN (SQ (BL (SQ (RG (MV G G (AS G G (NL (TN (SQ (RG (MV G G (MV G G (MV G G (ST (q0A [O,I N,J,Value.slice none 0 0] Tu106 Tryz.zeroValue106 (xplaces106 Tu106) G (by obtain⟨_,⟨_,_,_,hv,-⟩,-⟩:=z;rw [hv];clear hv;obtain ⟨_,_,_,hv⟩:=H.rowHd (v:=J) Km;rw [hv];clear hv;rfl)) G ?_)))))))))))))));refine q0I [_,_,_,_] H G G (q00 G) G ?_;intro ak w H;refine AS G G (NL (TN (SQ ?_)));obtain⟨⟨ba,ax⟩,al,E⟩:=bnd E;try dsimp only at E
   refine RG (MV G G (MV G G ?_));replace H:=H.newRowS 70 3 xenc70;refine XC (A:=[.blk ak (.cells #[O,I N,J,(Value.slice none 0 0)] 106),RowI 4 encBo J V,RowS 70 3 xenc70 (Value.slice none 0 0) []]) H (Y5h al :) G ⟨z,f⟩ (q00 G) G Kt ?_;intro bb M w its H u hR;replace f:=f.mono u;replace z:=z.mono u;try dsimp only at hR
   obtain⟨aa,rfl,rfl⟩:=hR;simp only[l01,l02] at H;refine NL (TN ?_);obtain⟨ay,am,E⟩:=bnd E;refine RG (MV G G (MV G G (FN G G Tu106 G Ts39 G G (ST (XL H Ta39) G ?_))));obtain⟨M,u,an,H⟩:=H.freezeRowSN (v:=aa) (enc:=xenc70) (t:=70) Kv (fun _=>rfl) ⟨⟨_,Km⟩,trivial⟩;replace f:=f.mono u;replace z:=z.mono u;refine XV (cap:=[ptr bp1c 0]) (A:=[.blk bp1c (.cells #[Value.bool U] 4)]) H (Y6q am) G G (an) (q00 G) G Kt ?_;intro bc M w its H u hR;replace f:=f.mono u;replace z:=z.mono u;obtain⟨rfl,rfl⟩:=hR;simp only[l01,l02] at H;refine NL (IB (TN ?_));obtain⟨bd,ab,E⟩:=bnd E;refine RG (ST (q0b G G ab) G (MV G G (NL ?_)));exact AG a6 ⟨_,_,_,_,G,(H.pick (L':=[.blk bp1c (.cells #[Value.bool ay] 4), .blk K (.cells #[I 0,I 0] 33),RowI 4 encBo J ax.2.2.1]) Kp),f,z,E⟩ (l04 _)
  rw[if_neg a0] at E;refine q0o (q04 (q04 (q0g ?_)));exact MN ⟨_,_,_,G,(H.pick (L':=[.blk K (.cells #[I 0,I 0] 33),RowI 4 encBo J V, .blk bp1c (.cells #[Value.bool U] 4)]) Kp),E⟩
 rintro e w ⟨a5,a2,M,rfl,H,az⟩;obtain rfl:=oI az;try dsimp only at h
 refine TN (SQ ?_);obtain⟨⟨be,bf⟩,ao,h⟩:=bnd h;try dsimp only at h
 refine RG (MV G G (q03 H (Y0i ao) G trivial (q00 G) G ?_));intro bg M w H u hR;try dsimp only at hR
 obtain rfl:=hR;refine AS G G (q05 [_,_] H G G G Ku Ts33 G Kf Kf (q00 G) ?_);intro w H;refine NL (TN (RT ?_));obtain⟨M,u,ap,H⟩:=H.freezeRowN (v:=J) (enc:=encBo) (t:=4) Kv ⟨⟨_,Km⟩,trivial⟩;obtain rfl:=oI h;exact WQ.retX2 (its:=[.blk bp1c (.cells #[Value.bool a2] 4)]) G G ⟨_,G,H.loadAgg Km Ta33 Ts33 Kf⟩ H Kp ⟨_,G,ap,G⟩
theorem Y6Q {Y:List BT90}{N:Value}{r:(Bool × Z0a)}(h:Y4y Y=some r):Ct Tryz.prog 6 [N] (fun M=>SlR xrl91 M N Y) (fun v M=>v=Value.tuple #[Value.bool r.1,Value.agg #[I r.2.1,I r.2.2]]):=by
 refine Ct.of Tryz.func6 (enters Tryz.func6 Kr G) G G G ?_;intro w0 M0 H hp;have Z:=hp;unfold Y4y at h;refine SQ (RG (AS G G (q0f [_,_] H Tz33 G (q00 G) G ?_)));intro f w H;refine NL (TN (SQ (RG (q0f [_] H Tz4 G (q00 G) G ?_))));intro a0 w H;refine q05 [_] H G G G Ku Ts4 G Kf Kf (q00 G) ?_;intro w H;refine NL (TN (SQ ?_));obtain⟨⟨l1,⟨J,K⟩,o4⟩,a1,h⟩:=bnd h;try dsimp only at h
 refine RG (MV G G (ST (q1m G) G (XC (A:=[.blk a0 (.cells #[Value.bool true] 4)]) H (Y79 a1) G (Z) (q00 G) G Kt ?_)));intro a9 M w its H O hR;try dsimp only at hR
 obtain⟨a4,rfl,a5,rfl⟩:=hR;simp only[l01,l02] at H;refine MV G G (ST (q0e G G) G (ST (q0e G G) G (q0f [_,_] H Tz33 G (q00 G) G ?_)));intro aa w H;refine AS G G (q05 [_,_] H G G G Ku Ts33 G Kf Kf (q00 G) ?_);intro w H;refine NL (TN (SQ ?_));obtain⟨o6,u,h⟩:=bnd h;refine q07 (fun e w =>∃(U:Bool) (V:Int) (z:Int) (M:Mem),e=[(2,Value.bool U),(3,ptr f 0)]/\St w0 M0 M [.blk f (.cells #[I V,I z] 33)] w/\some (U,V,z)=some o6) [] ?_ ?_ (trivial)
 ·
  refine q0v (m:=9) G G H ?_;intro w H;refine q0B (i:=0) [6] G Kr Kr Kr (XL H Ta4) (q00 G) G G (fun _ _=>G) ?_;refine TK 1 G (fun _=>q02 G) G ?_;rcases o4 with _|_
  ·
   rw[if_neg l00] at u;refine WA.takeN (i:=2) G Kr Kr Kr (wanted_g (b:=false) G G G) G G (fun _ _=>G) ?_;refine q0F (i:=3) (j:=6) Kr G G ?_ ?_
   ·
    refine GF G G G (NA (WA.takeN (i:=4) G Kr Kr Kr (wanted_g (b:=false) G G G) G G (fun _ _=>G) (TK 5 G (fun _=>q0u G G) G (TK 7 G (fun _=>q1o G) G (q0i (fuel:=0) [6,8] G Kr (ST (q0a H G Km Ta33 Ts33 Kf) G ?_))))));refine q05 [_,_] H G G G Ku Ts33 G Kf Kf (q00 G) ?_;intro w H;refine NA (q0d Kr ?_);exact MN ⟨_,_,_,_,G,(H.pick (L':=[.blk f (.cells #[I J,I K] 33)]) Kp),u⟩
   refine ST (q0a H G Km Ta33 Ts33 Kf) G ?_;refine NA (q0i (fuel:=0) [3,4,5,7,8] G Kr (GF G G G (GF G G G (PF G G G (AS G G (q05 [_,_] H G G G Ku Ts33 G Kf Kf (q00 G) ?_))))));intro w H;refine NA (q0d Kr ?_);exact MN ⟨_,_,_,_,G,(H.pick (L':=[.blk f (.cells #[I J,I K] 33)]) Kp),u⟩
  rw[if_pos rfl] at u;obtain⟨ab,E,u⟩:=bnd u;refine q0B (i:=2) [6] G Kr Kr Kr (q0a H G Km Ta33 Ts33 Kf) (q0h G G G) G G (fun _ _=>G) ?_;refine q0F (i:=3) (j:=6) Kr G G ?_ ?_
  ·
   refine q03 H (Y05 E) G trivial (q0h G G G) G ?_;intro a2 M w H O hR;obtain rfl:=hR;refine NA (q1l (i:=4) G Kr Kr Kr (fun _=>q0y G) (q0h G G G) G G (fun _ _=>G) (TK 5 G (fun _=>q0t G G) G (TK 7 G (fun _=>q1o G) G (q0i (fuel:=0) [6,8] G Kr (ST (q0a H G Km Ta33 Ts33 Kf) G ?_)))));refine q05 [_,_] H G G G Ku Ts33 G Kf Kf (q00 G) ?_;intro w H;refine NA (q0d Kr ?_);exact MN ⟨_,_,_,_,G,(H.pick (L':=[.blk f (.cells #[I J,I K] 33)]) Kp),u⟩
  refine ST (q0a H G Km Ta33 Ts33 Kf) G ?_;refine NA (q0i (fuel:=0) [3,4,5,7,8] G Kr (q03 H (Y05 E) G trivial (q0h G G G) G ?_));intro a2 M w H O hR;obtain rfl:=hR;refine SG (q0y G) G G G (PT G G G (AS G G (q05 [_,_] H G G G Ku Ts33 G Kf Kf (q00 G) ?_)));intro w H;refine NA (q0d Kr ?_);exact MN ⟨_,_,_,_,G,(H.pick (L':=[.blk f (.cells #[I J,I K] 33)]) Kp),u⟩
 rintro e w ⟨U,V,z,M,rfl,H,a3⟩;obtain rfl:=oI a3;try dsimp only at h
 refine TN (RT ?_);obtain rfl:=oI h;exact q0M G G ⟨_,G,H.loadAgg Km Ta33 Ts33 Kf⟩ H.ext G
theorem Y5i {K:Ls}{u:Ls}{r:Int}(h:Y2k K u=some r):Ct Tryz.prog 154 [S K,S u] (fun M=>True) (fun v M=>v=I r):=by
 refine Ct.of Tf154 (enters Tf154 Kr G) G G G ?_;intro V M0 H hp;unfold Y2k at h;refine SQ (RG (AS G G (NL (TN (SQ (RG (MV G G (ST (q0q Tu9 G) G (AS G G (NL (TN (SQ (BL (SQ ?_))))))))))))));obtain⟨Y,J,h⟩:=bnd h;refine q07 (fun e w =>∃(N:Bool) (M:Mem),e=[(0,S K),(1,S u),(5,I (u.length:Int)),(16,Value.bool N)]/\St V M0 M [] w/\some N=some Y) [] ?_ ?_ (trivial)
 ·
  by_cases f:(u.length:Int)=(0:Int)
  ·
   rw[if_pos f] at J;refine RG (MV G G (DT f (q0j G G) G (MV G G (q06 3 G G (PT G G G (AS G G (NL ?_)))))));exact MN ⟨_,_,G,H,J⟩
  rw[if_neg f] at J;refine RG (MV G G (DF f (q0j G G) G (MV G G (SG (q02 G) G G G (SG (q02 G) G G G (SG (q0N G G) G G G (PF G G G (AS G G (NL ?_)))))))));exact MN ⟨_,_,G,H,J⟩
 rintro e w ⟨N,M,rfl,H,Z⟩;obtain rfl:=oI Z;refine TN ?_;refine q09 G (fun z=>?_) (fun z=>?_)
 ·
  subst z;rw[if_pos rfl] at h;refine SQ (RG (AS G G (NL (TN (RT ?_)))));obtain rfl:=oI h;exact q08 G G H.ext G
 subst z;rw[if_neg l00] at h;refine SQ (RG (MV G G (ST (q0j G G) G (AS G G (NL (TN ?_))))));refine CB (p:=(u.length:Int)=(1:Int)) G (fun E=>?_) fun E=>?_
 ·
  rw[if_pos E] at h;refine SQ ?_;obtain⟨c8,O,h⟩:=bnd h;obtain⟨n9,U,h⟩:=bnd h;refine RG (MV G G (MV G G (ST (q0G Tu9 G G O) G (q03 H (Y4Z U) G trivial (q00 G) G ?_))));intro a0 M w H a1 hR;obtain rfl:=hR;refine AS G G (NL (TN (RT ?_)));obtain rfl:=oI h;exact q08 G G H.ext G
 rw[if_neg E] at h;cases h
theorem Y5E {J:Ls}{K:Ls}{r:Z0i}(h:Y38 J K=some r):Ct Tryz.prog 135 [S J,S K] (fun M=>True) (fun v M=>v=Value.tuple #[S r.1,S r.2.1,Value.bool r.2.2]):=by
 refine Ct.of Tf135 (enters Tf135 Kr G) G G G ?_;intro Y M0 H hp;unfold Y38 at h;refine SQ (RG (AS G G (AS G G (AS G G (NL (TN (SQ (SQ ?_))))))));obtain⟨O,N,h⟩:=bnd h;refine RG (MV G G (MV G G (q03 H (Y5i N) G trivial (q00 G) G ?_)));intro U M w H V hR;obtain rfl:=hR;refine AS G G (NL (TN (SQ (RG (MV G G (ST (q1a G G) G (NL (TN ?_))))))));refine CB (p:=(0:Int)<=O) G (fun f=>?_) fun f=>?_
 ·
  rw[if_pos f] at h;refine SQ ?_;obtain⟨Z,u,h⟩:=bnd h;obtain⟨n5,z,h⟩:=bnd h;obtain⟨s6,E,h⟩:=bnd h;refine q0v (m:=12) G G H ?_;intro w H;refine TK 0 G (fun _=>q02 G) G (TK 1 G (fun _=>q02 G) G (TK 2 G (fun _=>Ex.sliceH Tu9 G G u) G (TK 3 G (fun _=>q02 G) G (TK 4 G (fun _=>q02 G) G (TK 5 G (fun _=>q02 G) G (TK 6 G (fun _=>q0q Tu9 G) G ?_))))));refine TK 7 G (fun _=>q0b G G z) G (TK 8 G (fun _=>Ex.sliceL Tu9 G G E) G (q0i (fuel:=0) [9,10,11] G Kr (AS G G (AS G G (AS G G (NA (q0d Kr (TN (RT ?_)))))))));obtain rfl:=oI h;exact q1c G G G G H.ext G
 rw[if_neg f] at h;refine SK (TN (SQ (RG (MV G G (AS G G (AS G G (AS G G (NL (TN (RT ?_))))))))));obtain rfl:=oI h;exact q1c G G G G H.ext G
theorem Y6r {f:Ls}{u:Ls}{r:Z0i}(h:Y3E f u=some r):Ct Tryz.prog 112 [S f,S u] (fun M=>True) (fun v M=>v=Value.tuple #[S r.1,S r.2.1,Value.bool r.2.2]):=by
 refine Ct.of Tf112 (enters Tf112 Kr G) G G G ?_;intro J M0 H hp;unfold Y3E at h;refine SQ (RG (AS G G (AS G G (AS G G (NL (TN (SQ ?_)))))));obtain⟨⟨K,N,O⟩,z,h⟩:=bnd h;try dsimp only at h
 refine RG (MV G G (MV G G (q03 H (Y5E z) G trivial (q00 G) G ?_)));intro U M w H E hR;try dsimp only at hR
 obtain rfl:=hR;refine ST (q0e G G) G (ST (q0e G G) G (ST (q0e G G) G (AS G G (AS G G (AS G G (NL (TN (RT ?_))))))));obtain rfl:=oI h;exact q1c G G G G H.ext G
theorem Y5t {f:UInt8}{r:Bool}(h:Y3w f=some r):Ct Tryz.prog 94 [encB f] (fun M=>True) (fun v M=>v=Value.bool r):=by
 refine Ct.of Tryz.func94 (enters Tryz.func94 Kr G) G G G ?_;intro w0 M0 H hp;unfold Y3w at h;refine SQ (RG (AS G G (NL (TN (SQ ?_)))));obtain⟨o1,u,h⟩:=bnd h;refine q07 (fun e w =>∃(b3:Bool) (M:Mem),e=[(2,Value.bool b3)]/\St w0 M0 M [] w/\some b3=some o1) [] ?_ ?_ (trivial)
 ·
  by_cases N:97<=f.toNat
  ·
   rw[if_pos N] at u;refine RG (MV G G (DT N (q0K (i:=f.toNat) (j:=97) G G) G (MV G G (SG (q02 G) G G G ?_))));by_cases O:f.toNat<=122
   ·
    rw[if_pos O] at u;refine DU O (q0X (i:=f.toNat) (j:=122) G G) G G G (PT G G G (MV G G (q06 6 G G (PT G G G (MV G G (q06 6 G G (PT G G G (AS G G (NL ?_)))))))));exact MN ⟨_,_,G,H,u⟩
   rw[if_neg O] at u;refine DG O (q0X (i:=f.toNat) (j:=122) G G) G G G (PT G G G (MV G G (SG (q02 G) G G G ?_)));by_cases U:65<=f.toNat
   ·
    rw[if_pos U] at u;refine DU U (q0K (i:=f.toNat) (j:=65) G G) G G G (SG (q02 G) G G G (SG (q02 G) G G G ?_));by_cases V:f.toNat<=90
    ·
     rw[if_pos V] at u;refine DU V (q0X (i:=f.toNat) (j:=90) G G) G G G (SG (q0t G G) G G G (PF G G G (MV G G (q06 6 G G (PT G G G (AS G G (NL ?_)))))));exact MN ⟨_,_,G,H,u⟩
    rw[if_neg V] at u;refine DG V (q0X (i:=f.toNat) (j:=90) G G) G G G (SG (q0t G G) G G G (PF G G G (MV G G (SG (q02 G) G G G ?_))));by_cases Y:48<=f.toNat
    ·
     rw[if_pos Y] at u;refine DU Y (q0K (i:=f.toNat) (j:=48) G G) G G G (SG (q02 G) G G G (SG (q02 G) G G G (SG (q0X (i:=f.toNat) (j:=57) G G) G G G (SG (q0t G G) G G G (PF G G G (AS G G (NL ?_)))))));exact MN ⟨_,_,G,H,u⟩
    rw[if_neg Y] at u;refine DG Y (q0K (i:=f.toNat) (j:=48) G G) G G G (SG (q02 G) G G G (GF G G G (GF G G G (SG (q0u G G) G G G (PF G G G (AS G G (NL ?_)))))));exact MN ⟨_,_,G,H,u⟩
   rw[if_neg U] at u;refine DG U (q0K (i:=f.toNat) (j:=65) G G) G G G (SG (q02 G) G G G (GF G G G (GF G G G (SG (q0u G G) G G G (PF G G G (MV G G (SG (q02 G) G G G ?_)))))));by_cases Z:48<=f.toNat
   ·
    rw[if_pos Z] at u;refine DU Z (q0K (i:=f.toNat) (j:=48) G G) G G G (SG (q02 G) G G G (SG (q02 G) G G G (SG (q0X (i:=f.toNat) (j:=57) G G) G G G (SG (q0t G G) G G G (PF G G G (AS G G (NL ?_)))))));exact MN ⟨_,_,G,H,u⟩
   rw[if_neg Z] at u;refine DG Z (q0K (i:=f.toNat) (j:=48) G G) G G G (SG (q02 G) G G G (GF G G G (GF G G G (SG (q0u G G) G G G (PF G G G (AS G G (NL ?_)))))));exact MN ⟨_,_,G,H,u⟩
  rw[if_neg N] at u;refine RG (MV G G (DF N (q0K (i:=f.toNat) (j:=97) G G) G (MV G G (GF G G G (GF G G G (PF G G G (MV G G (SG (q02 G) G G G ?_))))))));by_cases z:65<=f.toNat
  ·
   rw[if_pos z] at u;refine DU z (q0K (i:=f.toNat) (j:=65) G G) G G G (SG (q02 G) G G G (SG (q02 G) G G G ?_));by_cases E:f.toNat<=90
   ·
    rw[if_pos E] at u;refine DU E (q0X (i:=f.toNat) (j:=90) G G) G G G (SG (q0t G G) G G G (PF G G G (MV G G (q06 6 G G (PT G G G (AS G G (NL ?_)))))));exact MN ⟨_,_,G,H,u⟩
   rw[if_neg E] at u;refine DG E (q0X (i:=f.toNat) (j:=90) G G) G G G (SG (q0t G G) G G G (PF G G G (MV G G (SG (q02 G) G G G ?_))));by_cases J:48<=f.toNat
   ·
    rw[if_pos J] at u;refine DU J (q0K (i:=f.toNat) (j:=48) G G) G G G (SG (q02 G) G G G (SG (q02 G) G G G (SG (q0X (i:=f.toNat) (j:=57) G G) G G G (SG (q0t G G) G G G (PF G G G (AS G G (NL ?_)))))));exact MN ⟨_,_,G,H,u⟩
   rw[if_neg J] at u;refine DG J (q0K (i:=f.toNat) (j:=48) G G) G G G (SG (q02 G) G G G (GF G G G (GF G G G (SG (q0u G G) G G G (PF G G G (AS G G (NL ?_)))))));exact MN ⟨_,_,G,H,u⟩
  rw[if_neg z] at u;refine DG z (q0K (i:=f.toNat) (j:=65) G G) G G G (SG (q02 G) G G G (GF G G G (GF G G G (SG (q0u G G) G G G (PF G G G (MV G G (SG (q02 G) G G G ?_)))))));by_cases K:48<=f.toNat
  ·
   rw[if_pos K] at u;refine DU K (q0K (i:=f.toNat) (j:=48) G G) G G G (SG (q02 G) G G G (SG (q02 G) G G G (SG (q0X (i:=f.toNat) (j:=57) G G) G G G (SG (q0t G G) G G G (PF G G G (AS G G (NL ?_)))))));exact MN ⟨_,_,G,H,u⟩
  rw[if_neg K] at u;refine DG K (q0K (i:=f.toNat) (j:=48) G G) G G G (SG (q02 G) G G G (GF G G G (GF G G G (SG (q0u G G) G G G (PF G G G (AS G G (NL ?_)))))));exact MN ⟨_,_,G,H,u⟩
 rintro e w ⟨b3,M,rfl,H,a1⟩;obtain rfl:=oI a1;refine TN (RT ?_);obtain rfl:=oI h;exact q08 G G H.ext G
theorem Y5T {z:UInt8}{r:Bool}(h:Y2T z=some r):Ct Tryz.prog 127 [encB z] (fun M=>True) (fun v M=>v=Value.bool r):=by
 refine Ct.of Tryz.func127 (enters Tryz.func127 Kr G) G G G ?_;intro N M0 H hp;unfold Y2T at h;refine SQ (RG (AS G G (NL (TN (SQ ?_)))));obtain⟨O,f,h⟩:=bnd h;refine q07 (fun e w =>∃(u:Bool) (M:Mem),e=[(2,Value.bool u)]/\St N M0 M [] w/\some u=some O) [] ?_ ?_ (trivial)
 ·
  obtain⟨U,E,f⟩:=bnd f;refine RG (MV G G (q03 H (Y5t E) G trivial (q00 G) G ?_));intro Y M w H J hR;obtain rfl:=hR;refine MV G G ?_;rcases U with _|_
  ·
   rw[if_neg l00] at f;obtain⟨Z,K,f⟩:=bnd f;refine SG (q02 G) G G G (q03 H (Y2B K) G trivial (q0h G G G) G ?_);intro v7 M w H J hR;obtain rfl:=hR;refine SG (q1a G G) G G G (PF G G G (AS G G (NL ?_)));exact MN ⟨_,_,G,H,f⟩
  rw[if_pos rfl] at f;refine q06 3 G G (PT G G G (AS G G (NL ?_)));exact MN ⟨_,_,G,H,f⟩
 rintro e w ⟨u,M,rfl,H,V⟩;obtain rfl:=oI V;refine TN (RT ?_);obtain rfl:=oI h;exact q08 G G H.ext G
theorem Y5F {f:UInt8}{r:Bool}(h:Y2D f=some r):Ct Tryz.prog 147 [encB f] (fun M=>True) (fun v M=>v=Value.bool r):=by
 refine Ct.of Tryz.func147 (enters Tryz.func147 Kr G) G G G ?_;intro w0 M0 H hp;unfold Y2D at h;refine SQ (RG (AS G G (NL (TN (SQ ?_)))));obtain⟨o1,u,h⟩:=bnd h;refine q07 (fun e w =>∃(b3:Bool) (M:Mem),e=[(2,Value.bool b3)]/\St w0 M0 M [] w/\some b3=some o1) [] ?_ ?_ (trivial)
 ·
  by_cases N:97<=f.toNat
  ·
   rw[if_pos N] at u;refine RG (MV G G (DT N (q0K (i:=f.toNat) (j:=97) G G) G (MV G G (SG (q02 G) G G G ?_))));by_cases O:f.toNat<=122
   ·
    rw[if_pos O] at u;refine DU O (q0X (i:=f.toNat) (j:=122) G G) G G G (PT G G G (MV G G (q06 6 G G (PT G G G (MV G G (GT G G G (GT G G G (PT G G G (MV G G (GT G G G (GT G G G (PT G G G (AS G G (NL ?_))))))))))))));exact MN ⟨_,_,G,H,u⟩
   rw[if_neg O] at u;refine DG O (q0X (i:=f.toNat) (j:=122) G G) G G G (PT G G G (MV G G (SG (q02 G) G G G ?_)));by_cases U:48<=f.toNat
   ·
    rw[if_pos U] at u;refine DU U (q0K (i:=f.toNat) (j:=48) G G) G G G (SG (q02 G) G G G (SG (q02 G) G G G ?_));by_cases V:f.toNat<=57
    ·
     rw[if_pos V] at u;refine DU V (q0X (i:=f.toNat) (j:=57) G G) G G G (SG (q0t G G) G G G (PF G G G (MV G G (GT G G G (GT G G G (PT G G G (MV G G (GT G G G (GT G G G (PT G G G (AS G G (NL ?_))))))))))));exact MN ⟨_,_,G,H,u⟩
    rw[if_neg V] at u;refine DG V (q0X (i:=f.toNat) (j:=57) G G) G G G (SG (q0t G G) G G G (PF G G G (MV G G (SG (q02 G) G G G ?_))));by_cases Y:f=45
    ·
     rw[if_pos Y] at u;refine DU Y (q0P (c:=f) (d:=45) G G) G G G (PF G G G (MV G G (GT G G G (GT G G G (PT G G G (AS G G (NL ?_)))))));exact MN ⟨_,_,G,H,u⟩
    rw[if_neg Y] at u;refine DG Y (q0P (c:=f) (d:=45) G G) G G G (PF G G G (MV G G (SG (q02 G) G G G (SG (q0P (c:=f) (d:=46) G G) G G G (PF G G G (AS G G (NL ?_)))))));exact MN ⟨_,_,G,H,u⟩
   rw[if_neg U] at u;refine DG U (q0K (i:=f.toNat) (j:=48) G G) G G G (SG (q02 G) G G G (GF G G G (GF G G G (SG (q0u G G) G G G (PF G G G (MV G G (SG (q02 G) G G G ?_)))))));by_cases Z:f=45
   ·
    rw[if_pos Z] at u;refine DU Z (q0P (c:=f) (d:=45) G G) G G G (PF G G G (MV G G (GT G G G (GT G G G (PT G G G (AS G G (NL ?_)))))));exact MN ⟨_,_,G,H,u⟩
   rw[if_neg Z] at u;refine DG Z (q0P (c:=f) (d:=45) G G) G G G (PF G G G (MV G G (SG (q02 G) G G G (SG (q0P (c:=f) (d:=46) G G) G G G (PF G G G (AS G G (NL ?_)))))));exact MN ⟨_,_,G,H,u⟩
  rw[if_neg N] at u;refine RG (MV G G (DF N (q0K (i:=f.toNat) (j:=97) G G) G (MV G G (GF G G G (GF G G G (PF G G G (MV G G (SG (q02 G) G G G ?_))))))));by_cases z:48<=f.toNat
  ·
   rw[if_pos z] at u;refine DU z (q0K (i:=f.toNat) (j:=48) G G) G G G (SG (q02 G) G G G (SG (q02 G) G G G ?_));by_cases E:f.toNat<=57
   ·
    rw[if_pos E] at u;refine DU E (q0X (i:=f.toNat) (j:=57) G G) G G G (SG (q0t G G) G G G (PF G G G (MV G G (GT G G G (GT G G G (PT G G G (MV G G (GT G G G (GT G G G (PT G G G (AS G G (NL ?_))))))))))));exact MN ⟨_,_,G,H,u⟩
   rw[if_neg E] at u;refine DG E (q0X (i:=f.toNat) (j:=57) G G) G G G (SG (q0t G G) G G G (PF G G G (MV G G (SG (q02 G) G G G ?_))));by_cases J:f=45
   ·
    rw[if_pos J] at u;refine DU J (q0P (c:=f) (d:=45) G G) G G G (PF G G G (MV G G (GT G G G (GT G G G (PT G G G (AS G G (NL ?_)))))));exact MN ⟨_,_,G,H,u⟩
   rw[if_neg J] at u;refine DG J (q0P (c:=f) (d:=45) G G) G G G (PF G G G (MV G G (SG (q02 G) G G G (SG (q0P (c:=f) (d:=46) G G) G G G (PF G G G (AS G G (NL ?_)))))));exact MN ⟨_,_,G,H,u⟩
  rw[if_neg z] at u;refine DG z (q0K (i:=f.toNat) (j:=48) G G) G G G (SG (q02 G) G G G (GF G G G (GF G G G (SG (q0u G G) G G G (PF G G G (MV G G (SG (q02 G) G G G ?_)))))));by_cases K:f=45
  ·
   rw[if_pos K] at u;refine DU K (q0P (c:=f) (d:=45) G G) G G G (PF G G G (MV G G (GT G G G (GT G G G (PT G G G (AS G G (NL ?_)))))));exact MN ⟨_,_,G,H,u⟩
  rw[if_neg K] at u;refine DG K (q0P (c:=f) (d:=45) G G) G G G (PF G G G (MV G G (SG (q02 G) G G G (SG (q0P (c:=f) (d:=46) G G) G G G (PF G G G (AS G G (NL ?_)))))));exact MN ⟨_,_,G,H,u⟩
 rintro e w ⟨b3,M,rfl,H,a1⟩;obtain rfl:=oI a1;refine TN (RT ?_);obtain rfl:=oI h;exact q08 G G H.ext G
theorem Y52 {z:Ls}{E:Ls}{r:Bool}(h:Y1s z E=some r):Ct Tryz.prog 164 [S z,S E] (fun M=>True) (fun v M=>v=Value.bool r):=by
 refine Ct.of Tf164 (enters Tf164 Kr G) G G G ?_;intro N M0 H hp;unfold Y1s at h;refine SQ (RG (AS G G (NL (TN (SQ ?_)))));obtain⟨O,u,h⟩:=bnd h;refine q07 (fun e w =>∃(J:Bool) (M:Mem),e=[(4,Value.bool J)]/\St N M0 M [] w/\some J=some O) [] ?_ ?_ (trivial)
 ·
  refine RG (MV G G (ST (q0q Tu9 G) G (MV G G (ST (q0q Tu9 G) G ?_))));by_cases f:(E.length:Int)<=(z.length:Int)
  ·
   rw[if_pos f] at u;obtain⟨V,K,u⟩:=bnd u;refine DT f (q1a G G) G (MV G G (SG (q02 G) G G G (SG (q02 G) G G G (SG (q0q Tu9 G) G G G (SG (Ex.sliceH Tu9 G G K) G G G (SG (q02 G) G G G (SG (q0N G G) G G G (PT G G G (AS G G (NL ?_))))))))));exact MN ⟨_,_,G,H,u⟩
  rw[if_neg f] at u;refine DF f (q1a G G) G (MV G G (q06 6 G G (PF G G G (AS G G (NL ?_)))));exact MN ⟨_,_,G,H,u⟩
 rintro e w ⟨J,M,rfl,H,U⟩;obtain rfl:=oI U;refine TN (RT ?_);obtain rfl:=oI h;exact q08 G G H.ext G
theorem Y5G {f:Ls}{u:Ls}{r:Bool}(h:Y1N f u=some r):Ct Tryz.prog 143 [S f,S u] (fun M=>True) (fun v M=>v=Value.bool r):=by
 refine Ct.of Tryz.func143 (enters Tryz.func143 Kr G) G G G ?_;intro J M0 H hp;unfold Y1N at h;refine SQ (RG (AS G G (NL (TN (SQ ?_)))));obtain⟨K,z,h⟩:=bnd h;refine RG (MV G G (MV G G (q03 H (Y52 z) G trivial (q00 G) G ?_)));intro N M w H E hR;obtain rfl:=hR;refine AS G G (NL (TN (RT ?_)));obtain rfl:=oI h;exact q08 G G H.ext G
theorem Y3x {z:Ls}{E:Ls}{r:Bool}(h:Y16 z E=some r):Ct Tryz.prog 165 [S z,S E] (fun M=>True) (fun v M=>v=Value.bool r):=by
 refine Ct.of Tf165 (enters Tf165 Kr G) G G G ?_;intro O M0 H hp;unfold Y16 at h;refine SQ (RG (AS G G (NL (TN (SQ ?_)))));obtain⟨U,f,h⟩:=bnd h;refine q07 (fun e w =>∃(J:Bool) (M:Mem),e=[(4,Value.bool J)]/\St O M0 M [] w/\some J=some U) [] ?_ ?_ (trivial)
 ·
  refine RG (MV G G (ST (q0q Tu9 G) G (MV G G (ST (q0q Tu9 G) G ?_))));by_cases u:(E.length:Int)<=(z.length:Int)
  ·
   rw[if_pos u] at f;obtain⟨Y,K,f⟩:=bnd f;obtain⟨Z,N,f⟩:=bnd f;refine DT u (q1a G G) G (MV G G (SG (q02 G) G G G (SG (q02 G) G G G (SG (q0q Tu9 G) G G G (SG (q02 G) G G G (SG (q0q Tu9 G) G G G (SG (q0W G G K) G G G (SG (Ex.sliceL Tu9 G G N) G G G (SG (q02 G) G G G (SG (q0N G G) G G G (PT G G G (AS G G (NL ?_)))))))))))));exact MN ⟨_,_,G,H,f⟩
  rw[if_neg u] at f;refine DF u (q1a G G) G (MV G G (q06 9 G G (PF G G G (AS G G (NL ?_)))));exact MN ⟨_,_,G,H,f⟩
 rintro e w ⟨J,M,rfl,H,V⟩;obtain rfl:=oI V;refine TN (RT ?_);obtain rfl:=oI h;exact q08 G G H.ext G
theorem Y5H {f:Ls}{u:Ls}{r:Bool}(h:Y1O f u=some r):Ct Tryz.prog 148 [S f,S u] (fun M=>True) (fun v M=>v=Value.bool r):=by
 refine Ct.of Tryz.func148 (enters Tryz.func148 Kr G) G G G ?_;intro J M0 H hp;unfold Y1O at h;refine SQ (RG (AS G G (NL (TN (SQ ?_)))));obtain⟨K,z,h⟩:=bnd h;refine RG (MV G G (MV G G (q03 H (Y3x z) G trivial (q00 G) G ?_)));intro N M w H E hR;obtain rfl:=hR;refine AS G G (NL (TN (RT ?_)));obtain rfl:=oI h;exact q08 G G H.ext G
theorem Y63 {K:Ls}{r:Bool}(h:Y32 K=some r):Ct Tryz.prog 128 [S K] (fun M=>GlF (fun w =>∃m,w.cell? ⟨0,0,none⟩=some (.int .i64 m)) M) (fun v M=>v=Value.bool r):=by
 refine Ct.of Tryz.func128 (enters Tryz.func128 Kr G) G G G ?_;intro w0 M0 H hp;have u:=hp;unfold Y32 at h;refine SQ (RG (AS G G (NL (TN (SQ (RG (AS G G (NL (TN (SQ ?_))))))))));obtain⟨o1,f,h⟩:=bnd h;refine q07 (fun e w =>∃(N:Bool) (M:Mem),e=[(2,Value.bool N)]/\St w0 M0 M [] w/\GlF (fun w =>∃m,w.cell? ⟨0,0,none⟩=some (.int .i64 m)) M/\some N=some o1) [] ?_ ?_ (trivial)
 ·
  by_cases E:K=[]
  ·
   rw[if_pos E] at f;refine RG (MV G G (q0l (v' := .bool false) (q0z G G) (congrArg Value.bool (by rw[decide_eq_true E];rfl)) (q00 G) G G ?_));refine MV G G (q06 3 G G (PF G G G (MV G G (q06 3 G G (PF G G G (MV G G (q06 3 G G (PF G G G (MV G G (q06 3 G G (PF G G G (MV G G (q06 3 G G (PF G G G (AS G G (NL ?_))))))))))))))));exact MN ⟨_,_,G,H,u,f⟩
  rw[if_neg E] at f;refine RG (MV G G (q0l (v' := .bool true) (q0z G G) (congrArg Value.bool (by rw[decide_eq_false E];rfl)) (q00 G) G G ?_));refine MV G G (SG (q02 G) G G G (SG (q0q Tu9 G) G G G ?_));by_cases J:(K.length:Int)<=(60:Int)
  ·
   rw[if_pos J] at f;obtain⟨b6,V,f⟩:=bnd f;refine DU J (q1h G G) G G G (PT G G G (MV G G (SG (q02 G) G G G (SG (q02 G) G G G (q03 H (Y45 V) G ((fun _ _ h=>FnV.of (Y5F h) (fun _ _=>trivial))) (q0h G G G) G ?_)))));intro a5 M w H z hR;replace u:=u.mono z;obtain rfl:=hR;refine PT G G G (MV G G ?_);rcases b6 with _|_
   ·
    rw[if_neg l00] at f;refine q06 3 G G (PF G G G (MV G G (q06 3 G G (PF G G G (MV G G (q06 3 G G (PF G G G (AS G G (NL ?_)))))))));exact MN ⟨_,_,G,H,u,f⟩
   rw[if_pos rfl] at f;obtain⟨b8,Y,f⟩:=bnd f;refine SG (q02 G) G G G (q03 H (Y5G Y) G trivial (q0h G G G) G ?_);intro a6 M w H z hR;replace u:=u.mono z;obtain rfl:=hR;refine SG (q0y G) G G G (PT G G G (MV G G ?_));rcases b8 with _|_
   ·
    rw[if_neg l00] at f;obtain⟨Z,O,f⟩:=bnd f;refine SG (q02 G) G G G (q03 H (Y5H O) G trivial (q0h G G G) G ?_);intro a7 M w H z hR;replace u:=u.mono z;obtain rfl:=hR;refine SG (q0y G) G G G (PT G G G (MV G G ?_));rcases Z with _|_
    ·
     rw[if_neg l00] at f;obtain⟨a8,U,f⟩:=bnd f;refine SG (q02 G) G G G (q03 H (Y4F U) G (u) (q0h G G G) G ?_);intro a9 M w H z hR;replace u:=u.mono z;obtain rfl:=hR;refine SG (q0y G) G G G (PT G G G (AS G G (NL ?_)));exact MN ⟨_,_,G,H,u,f⟩
    rw[if_pos rfl] at f;refine q06 3 G G (PF G G G (AS G G (NL ?_)));exact MN ⟨_,_,G,H,u,f⟩
   rw[if_pos rfl] at f;refine q06 3 G G (PF G G G (MV G G (q06 3 G G (PF G G G (AS G G (NL ?_))))));exact MN ⟨_,_,G,H,u,f⟩
  rw[if_neg J] at f;refine DG J (q1h G G) G G G (PT G G G (MV G G (q06 3 G G (PF G G G (MV G G (q06 3 G G (PF G G G (MV G G (q06 3 G G (PF G G G (MV G G (q06 3 G G (PF G G G (AS G G (NL ?_)))))))))))))));exact MN ⟨_,_,G,H,u,f⟩
 rintro e w ⟨N,M,rfl,H,u,a0⟩;obtain rfl:=oI a0;refine TN (RT ?_);obtain rfl:=oI h;exact q08 G G H.ext G
theorem Y6e {Y:Ls}{r:Z0i}(h:Y3V Y=some r):Ct Tryz.prog 106 [S Y] (fun M=>GlF (fun w =>∃m,w.cell? ⟨0,0,none⟩=some (.int .i64 m)) M) (fun v M=>v=Value.tuple #[S r.1,S r.2.1,Value.bool r.2.2]):=by
 refine Ct.of Tryz.func106 (enters Tryz.func106 Kr G) G G G ?_;intro w0 M0 H hp;have u:=hp;unfold Y3V at h;refine SQ (RG (AS G G (AS G G (AS G G (NL (TN (SQ ?_)))))));obtain⟨⟨Z,s2,b3⟩,a0,h⟩:=bnd h;try dsimp only at h
 refine RG (MV G G (q03 H (Y6r a0) G trivial (q00 G) G ?_));intro v8 M w H J hR;replace u:=u.mono J;try dsimp only at hR
 obtain rfl:=hR;refine MV G G (ST (q0e G G) G (ST (q0e G G) G (ST (q0e G G) G (AS G G (AS G G (AS G G (NL (TN (SQ (RG (AS G G (NL (TN (SQ ?_))))))))))))));obtain⟨o5,f,h⟩:=bnd h;refine q07 (fun e w =>∃(K:Ls) (N:Ls) (O:Bool) (M:Mem),e=[(2,S K),(3,S N),(4,Value.bool O)]/\St w0 M0 M [] w/\GlF (fun w =>∃m,w.cell? ⟨0,0,none⟩=some (.int .i64 m)) M/\some (K,N,O)=some o5) [] ?_ ?_ (trivial)
 ·
  refine RG (MV G G (MV G G (MV G G (MV G G ?_))));rcases b3 with _|_
  ·
   rw[if_neg l00] at f;refine GF G G G (GF G G G (PF G G G (MV G G (q06 3 G G (PF G G G (MV G G (q06 3 G G (PF G G G (MV G G (GF G G G (GF G G G (PF G G G (AS G G (AS G G (AS G G (NL ?_))))))))))))))));exact MN ⟨_,_,_,_,G,H,u,f⟩
  rw[if_pos rfl] at f;by_cases z:Z=[]
  ·
   rw[if_pos z] at f;refine SG (q02 G) G G G (q0l (v' := .bool false) (q0z G G) (congrArg Value.bool (by rw[decide_eq_true z];rfl)) (q0h G G G) G G ?_);refine PT G G G (MV G G (q06 3 G G (PF G G G (MV G G (q06 3 G G (PF G G G (MV G G (GF G G G (GF G G G (PF G G G (AS G G (AS G G (AS G G (NL ?_))))))))))))));exact MN ⟨_,_,_,_,G,H,u,f⟩
  rw[if_neg z] at f;refine SG (q02 G) G G G (q0l (v' := .bool true) (q0z G G) (congrArg Value.bool (by rw[decide_eq_false z];rfl)) (q0h G G G) G G ?_);refine PT G G G (MV G G (SG (q02 G) G G G (SG (q0q Tu9 G) G G G ?_)));by_cases E:(Z.length:Int)<=(60:Int)
  ·
   rw[if_pos E] at f;obtain⟨a1,U,f⟩:=bnd f;refine DU E (q1h G G) G G G (PT G G G (MV G G (SG (q02 G) G G G (SG (q02 G) G G G (q03 H (Y45 U) G ((fun _ _ h=>FnV.of (Y5T h) (fun _ _=>trivial))) (q0h G G G) G ?_)))));intro a6 M w H J hR;replace u:=u.mono J;obtain rfl:=hR;refine PT G G G (MV G G ?_);rcases a1 with _|_
   ·
    rw[if_neg l00] at f;refine GF G G G (GF G G G (PF G G G (AS G G (AS G G (AS G G (NL ?_))))));exact MN ⟨_,_,_,_,G,H,u,f⟩
   rw[if_pos rfl] at f;obtain⟨a7,V,f⟩:=bnd f;refine SG (q02 G) G G G (q03 H (Y63 V) G (u) (q0h G G G) G ?_);intro a8 M w H J hR;replace u:=u.mono J;obtain rfl:=hR;refine PT G G G (AS G G (AS G G (AS G G (NL ?_))));exact MN ⟨_,_,_,_,G,H,u,f⟩
  rw[if_neg E] at f;refine DG E (q1h G G) G G G (PT G G G (MV G G (q06 3 G G (PF G G G (MV G G (GF G G G (GF G G G (PF G G G (AS G G (AS G G (AS G G (NL ?_))))))))))));exact MN ⟨_,_,_,_,G,H,u,f⟩
 rintro e w ⟨K,N,O,M,rfl,H,u,a2⟩;obtain rfl:=oI a2;try dsimp only at h
 refine TN (RT ?_);obtain rfl:=oI h;exact q1c G G G G H.ext G
theorem Y4G {f:Ls}{r:Bool}(h:Y2t f=some r):Ct Tryz.prog 73 [S f] (fun M=>GlF (fun w =>∃m,w.cell? ⟨0,0,none⟩=some (.int .i64 m)) M) (fun v M=>v=Value.bool r):=by
 refine Ct.of Tryz.func73 (enters Tryz.func73 Kr G) G G G ?_;intro J M0 H hp;have z:=hp;unfold Y2t at h;refine SQ (RG (AS G G (NL (TN (SQ ?_)))));obtain⟨⟨K,N,O⟩,u,h⟩:=bnd h;try dsimp only at h
 refine RG (MV G G (q03 H (Y6e u) G (z) (q00 G) G ?_));intro U M w H E hR;try dsimp only at hR
 obtain rfl:=hR;refine MV G G (ST (q0e G G) G (ST (q0e G G) G (ST (q0e G G) G (AS G G (AS G G (AS G G (NL (TN (SQ (RG (MV G G (AS G G (NL (TN (RT ?_)))))))))))))));obtain rfl:=oI h;exact q08 G G H.ext G
theorem Y6G {u:UInt8}{r:Bool}(h:Y41 u=some r):Ct Tryz.prog 93 [encB u] (fun M=>True) (fun v M=>v=Value.bool r):=by
 refine Ct.of Tryz.func93 (enters Tryz.func93 Kr G) G G G ?_;intro N M0 H hp;unfold Y41 at h;refine SQ (RG (AS G G (NL (TN (SQ ?_)))));obtain⟨O,f,h⟩:=bnd h;refine q07 (fun e w =>∃(J:Bool) (M:Mem),e=[(2,Value.bool J)]/\St N M0 M [] w/\some J=some O) [] ?_ ?_ (trivial)
 ·
  obtain⟨U,K,f⟩:=bnd f;refine RG (MV G G (q03 H (Y5t K) G trivial (q00 G) G ?_));intro Z M w H Y hR;obtain rfl:=hR;refine MV G G ?_;rcases U with _|_
  ·
   rw[if_neg l00] at f;by_cases z:u=45
   ·
    rw[if_pos z] at f;refine SG (q02 G) G G G (DU z (q0P (c:=u) (d:=45) G G) G G G (PF G G G (MV G G (GT G G G (GT G G G (PT G G G (MV G G (GT G G G (GT G G G (PT G G G (AS G G (NL ?_))))))))))));exact MN ⟨_,_,G,H,f⟩
   rw[if_neg z] at f;refine SG (q02 G) G G G (DG z (q0P (c:=u) (d:=45) G G) G G G (PF G G G (MV G G (SG (q02 G) G G G ?_))));by_cases E:u=95
   ·
    rw[if_pos E] at f;refine DU E (q0P (c:=u) (d:=95) G G) G G G (PF G G G (MV G G (GT G G G (GT G G G (PT G G G (AS G G (NL ?_)))))));exact MN ⟨_,_,G,H,f⟩
   rw[if_neg E] at f;refine DG E (q0P (c:=u) (d:=95) G G) G G G (PF G G G (MV G G (SG (q02 G) G G G (SG (q0P (c:=u) (d:=46) G G) G G G (PF G G G (AS G G (NL ?_)))))));exact MN ⟨_,_,G,H,f⟩
  rw[if_pos rfl] at f;refine GT G G G (GT G G G (PT G G G (MV G G (GT G G G (GT G G G (PT G G G (MV G G (GT G G G (GT G G G (PT G G G (AS G G (NL ?_))))))))))));exact MN ⟨_,_,G,H,f⟩
 rintro e w ⟨J,M,rfl,H,V⟩;obtain rfl:=oI V;refine TN (RT ?_);obtain rfl:=oI h;exact q08 G G H.ext G
theorem Y64 {E:Ls}{r:Bool}(h:Y4v E=some r):Ct Tryz.prog 59 [S E] (fun M=>True) (fun v M=>v=Value.bool r):=by
 refine Ct.of Tryz.func59 (enters Tryz.func59 Kr G) G G G ?_;intro N M0 H hp;unfold Y4v at h;refine SQ (RG (AS G G (NL (TN (SQ ?_)))));obtain⟨O,f,h⟩:=bnd h;refine q07 (fun e w =>∃(J:Bool) (M:Mem),e=[(2,Value.bool J)]/\St N M0 M [] w/\some J=some O) [] ?_ ?_ (trivial)
 ·
  by_cases u:E=[]
  ·
   rw[if_pos u] at f;refine RG (MV G G (q0l (v' := .bool false) (q0z G G) (congrArg Value.bool (by rw[decide_eq_true u];rfl)) (q00 G) G G ?_));refine MV G G (q06 3 G G (PF G G G (MV G G (GF G G G (GF G G G (PF G G G (AS G G (NL ?_))))))));exact MN ⟨_,_,G,H,f⟩
  rw[if_neg u] at f;refine RG (MV G G (q0l (v' := .bool true) (q0z G G) (congrArg Value.bool (by rw[decide_eq_false u];rfl)) (q00 G) G G ?_));refine MV G G (SG (q02 G) G G G (SG (q0q Tu9 G) G G G ?_));by_cases z:(E.length:Int)<=(60:Int)
  ·
   rw[if_pos z] at f;obtain⟨Z,K,f⟩:=bnd f;refine DU z (q1h G G) G G G (PT G G G (MV G G (SG (q02 G) G G G (q03 H (Y45 K) G ((fun _ _ h=>FnV.of (Y6G h) (fun _ _=>trivial))) (q0h G G G) G ?_))));intro V M w H Y hR;obtain rfl:=hR;refine PT G G G (AS G G (NL ?_));exact MN ⟨_,_,G,H,f⟩
  rw[if_neg z] at f;refine DG z (q1h G G) G G G (PT G G G (MV G G (GF G G G (GF G G G (PF G G G (AS G G (NL ?_)))))));exact MN ⟨_,_,G,H,f⟩
 rintro e w ⟨J,M,rfl,H,U⟩;obtain rfl:=oI U;refine TN (RT ?_);obtain rfl:=oI h;exact q08 G G H.ext G
theorem Y65 {z:Int}{r:Bool}(h:Y33 z=some r):Ct Tryz.prog 107 [I z] (fun M=>True) (fun v M=>v=Value.bool r):=by
 refine Ct.of Tryz.func107 (enters Tryz.func107 Kr G) G G G ?_;intro J M0 H hp;unfold Y33 at h;refine SQ (RG (AS G G (NL (TN (SQ ?_)))));obtain⟨K,u,h⟩:=bnd h;refine q07 (fun e w =>∃(E:Bool) (M:Mem),e=[(2,Value.bool E)]/\St J M0 M [] w/\some E=some K) [] ?_ ?_ (trivial)
 ·
  by_cases f:(0:Int)<=z
  ·
   rw[if_pos f] at u;refine RG (MV G G (DT f (q1a G G) G (MV G G (SG (q02 G) G G G (SG (q1h G G) G G G (PT G G G (AS G G (NL ?_))))))));exact MN ⟨_,_,G,H,u⟩
  rw[if_neg f] at u;refine RG (MV G G (DF f (q1a G G) G (MV G G (GF G G G (GF G G G (PF G G G (AS G G (NL ?_))))))));exact MN ⟨_,_,G,H,u⟩
 rintro e w ⟨E,M,rfl,H,N⟩;obtain rfl:=oI N;refine TN (RT ?_);obtain rfl:=oI h;exact q08 G G H.ext G
theorem Y4f {K:List Z0b}{U:(Z0b->Option Bool)}{E:Value}{J:Value}{r:Int}(h:Y1H K U=some r):Ct Tryz.prog 129 [E,J] (fun M=>SlS M 2 xenc68 E K/\FnT172 M J U) (fun v M=>v=I r):=by
 refine Ct.of Tryz.func129 (enters Tryz.func129 Kr G) G G G ?_;intro w0 M0 H hp;obtain⟨u,z⟩:=hp;unfold Y1H at h;refine SQ (RG (AS G G (NL (TN (SQ (SQ (RG (MV G G (ST (q0O Tu22 u G) G (MV G G (NL (TN ?_))))))))))));obtain⟨o1,f,h⟩:=bnd h;refine q07 (fun e w =>∃  (M:Mem),e=[]/\St w0 M0 M [] w/\some (.inl ())=some o1) [] ?_ ?_ (trivial)
 ·
  refine BL (q0p (fun m e w =>∃(V:Int) (M:Mem),e=[(0,E),(1,J),(7,I (K.length:Int)),(8,I V)]/\St w0 M0 M [] w/\SlS M 2 xenc68 E K/\FnT172 M J U/\Y07 K U m V=some o1) FU [(0,_),(1,_),(7,_),(8,_)] ⟨rfl,rfl,rfl,rfl,trivial⟩ ⟨_,_,rfl,H,u,z,f⟩ ?_);rintro m4 e w ⟨V,M,rfl,H,u,z,f⟩;rcases m4 with _|m4
  · rw[Y07] at f;cases f
  rw[Y07] at f;refine SQ (RG (ST (q0n G G) G (NL (TN (SQ ?_)))));refine CB (p:=V<(K.length:Int)) G (fun N=>?_) fun N=>?_
  ·
   rw[if_pos N] at f;refine SK (TN (SQ (BL (SQ (RG (MV G G (AS G G (NL (TN (SQ ?_))))))))));obtain⟨a6,a1,f⟩:=bnd f;obtain⟨a9,aa,a2,a3⟩:=u.atC a1;obtain⟨b7,a7,f⟩:=bnd f;refine RG (MV G G (MV G G (MV G G (ST (q0w a2 Tu22 Ts68 G G) G (ST (q0C H G a3 Tryz.isAgg68 Ts68 Kf) G ?_)))));refine WR.callF H (z _ _ a7) G G (q00 G) G ?_;intro ab M w H Z hR;replace u:=u.mono Z;replace z:=z.mono Z;obtain rfl:=hR;refine NL (TN ?_);refine q09 G (fun O=>?_) (fun O=>?_)
   ·
    subst O;rw[if_pos rfl] at f;refine SQ (RG (MV G G (AS G G (NL (TN (RT ?_))))));obtain rfl:=oI f;try dsimp only at h
    obtain rfl:=oI h;exact q08 G G H.ext G
   subst O;rw[if_neg l00] at f;refine SK (IB (TN ?_));obtain⟨ac,Y,f⟩:=bnd f;refine RG (ST (q0b G G Y) G (MV G G (NL ?_)));exact AG m4 ⟨_,_,G,H,u,z,f⟩ (l04 _)
  rw[if_neg N] at f;refine q0o (q04 (q04 (q0g ?_)));exact MN ⟨_,G,H,f⟩
 rintro e w ⟨M,rfl,H,a8⟩;obtain rfl:=oI a8;try dsimp only at h
 refine TN (SQ (RG (AS G G (NL (TN (RT ?_))))));obtain rfl:=oI h;exact q08 G G H.ext G
theorem Y3J {z:List Z0b}{E:(Z0b->Option Bool)}{f:Value}{u:Value}{r:Bool}(h:Y0R z E=some r):Ct Tryz.prog 108 [f,u] (fun M=>SlS M 2 xenc68 f z/\FnT172 M u E) (fun v M=>v=Value.bool r):=by
 refine Ct.of Tryz.func108 (enters Tryz.func108 Kr G) G G G ?_;intro U M0 H hp;obtain⟨J,K⟩:=hp;unfold Y0R at h;refine SQ (RG (AS G G (NL (TN (SQ ?_)))));obtain⟨V,N,h⟩:=bnd h;refine RG (MV G G (MV G G (q03 H (Y4f N) G ⟨J,K⟩ (q00 G) G ?_)));intro Y M w H O hR;obtain rfl:=hR;refine ST (q1a G G) G (AS G G (NL (TN (RT ?_))));obtain rfl:=oI h;exact q08 G G H.ext G
theorem Y53 {u:Z0b}{z:Z0b}{f:Nat}{r:Bool}(h:Y0O u z=some r):Ct Tryz.prog 109 [Value.agg #[S u.1,I u.2],ptr f 0] (fun M=>PtM M f (.cells #[S z.1,I z.2] 68)) (fun v M=>v=Value.bool r):=by
 refine Ct.of Tryz.func109 (enters Tryz.func109 Kr G) G G G ?_;intro K M0 H hp;have E:=hp;unfold Y0O at h;refine SQ (RG (q0I [_,_] H G G (q00 G) G ?_));intro J w H;refine AS G G (NL (TN (SQ (RG (ST (q01 Tu68 G Ts9 Dc G) G (ST (XL H Ta9) G ?_))))));refine ST (q01 Tu68 G Ts9 Dc G) G (ST (q0m H G (E.cell (j:=0) G) Ta9) G (ST (q0N G G) G (AS G G (NL (TN (RT ?_))))));obtain rfl:=oI h;exact q08 G G H.ext G
theorem Y5j {Y:List Z0b}{N:Value}{r:Z0a}(h:Y2M Y=some r):Ct Tryz.prog 74 [N] (fun M=>GlF (fun w =>∃m,w.cell? ⟨0,0,none⟩=some (.int .i64 m)) M/\SlS M 2 xenc68 N Y) (fun v M=>v=Value.agg #[I r.1,I r.2]):=by
 refine Ct.of Tryz.func74 (enters Tryz.func74 Kr G) G G G ?_;intro w0 M0 H hp;obtain⟨K,z⟩:=hp;unfold Y2M at h;refine SQ (RG (q0f [_,_] H Tz33 G (q00 G) G ?_));intro V w H;refine NL (TN (SQ (SQ (RG (MV G G (ST (q0O Tu22 z G) G (MV G G (NL (TN ?_)))))))));obtain⟨o1,f,h⟩:=bnd h;refine q07 (fun e w =>∃(n3:Int) (n4:Int) (M:Mem),e=[(2,ptr V 0)]/\St w0 M0 M [.blk V (.cells #[I n3,I n4] 33)] w/\GlF (fun w =>∃m,w.cell? ⟨0,0,none⟩=some (.int .i64 m)) M/\some (.inl (n3,n4))=some o1) [] ?_ ?_ (trivial)
 ·
  refine BL (q0p (fun m e w =>∃(n5:Int) (n6:Int) (n7:Int) (M:Mem),e=[(0,N),(2,ptr V 0),(5,N),(6,I (Y.length:Int)),(7,I n7)]/\St w0 M0 M [.blk V (.cells #[I n5,I n6] 33)] w/\GlF (fun w =>∃m,w.cell? ⟨0,0,none⟩=some (.int .i64 m)) M/\SlS M 2 xenc68 N Y/\Y0r Y m n5 n6 n7=some o1) FU [(0,_),(2,_),(5,_),(6,_),(7,_)] ⟨rfl,rfl,rfl,rfl,rfl,trivial⟩ ⟨_,_,_,_,rfl,H,K,z,f⟩ ?_);rintro m8 e w ⟨n5,n6,n7,M,rfl,H,K,z,f⟩;rcases m8 with _|m8
  · rw[Y0r] at f;cases f
  rw[Y0r] at f;refine SQ (RG (ST (q0n G G) G (NL (TN (SQ ?_)))));refine CB (p:=n7<(Y.length:Int)) G (fun Z=>?_) fun Z=>?_
  ·
   rw[if_pos Z] at f;refine SK (TN (SQ (BL (SQ ?_))));obtain⟨au,a1,f⟩:=bnd f;obtain⟨ar,av,ac,ad⟩:=z.atC a1;refine RG (MV G G (ST (q0w ac Tu22 Ts68 G G) G (ST (q0C H G ad Tryz.isAgg68 Ts68 Kf) G ?_)));refine q0f [_,_] H Tz68 G (q00 G) G ?_;intro a4 w H;refine AS G G (q05 [_,_] H G G G Ku Ts68 G Kf Kf (q00 G) ?_);intro w H;refine NL (TN (BL (SQ ?_)));obtain⟨a5,ae,f⟩:=bnd f;refine RG (ST (q01 Tu68 G Ts9 Dc G) G (ST (XL H Ta9) G ?_));refine q03 H (Y4G ae) G (K) (q00 G) G ?_;intro aw M w H u hR;replace K:=K.mono u;replace z:=z.mono u;obtain rfl:=hR;refine ST (q0y G) G (AS G G (NL (TN ?_)));refine q09 G (fun E=>?_) (fun E=>?_)
   ·
    replace E:a5=false:=by simpa using E
    subst E;rw[if_neg l00] at f;refine SQ ?_;obtain⟨⟨ax,ay⟩,ah,f⟩:=bnd f;try dsimp only at f
    refine RG (MV G G (q03 H (Y01 ah) G trivial (q00 G) G ?_));intro az M w H u hR;try dsimp only at hR
    obtain rfl:=hR;refine q05 [_,_] H G G G Ku Ts33 G Kf Kf (q00 G) ?_;intro w H;refine NL (TN (RT ?_));obtain rfl:=oI f;try dsimp only at h
    obtain rfl:=oI h;exact q08 G ⟨_,G,H.loadAgg Km Ta33 Ts33 Kf⟩ H.ext G
   replace E:a5=true:=by simpa using E
   subst E;rw[if_pos rfl] at f;refine SQ ?_;obtain⟨a6,ai,f⟩:=bnd f;refine RG (ST (q01 Tu68 G Ts3 Dc G) G (ST (XL H Ta3) G ?_));refine q03 H (Y65 ai) G trivial (q00 G) G ?_;intro b0 M w H u hR;replace K:=K.mono u;replace z:=z.mono u;obtain rfl:=hR;refine ST (q0y G) G (AS G G (NL (TN ?_)));refine q09 G (fun J=>?_) (fun J=>?_)
   ·
    replace J:a6=false:=by simpa using J
    subst J;rw[if_neg l00] at f;refine SQ ?_;obtain⟨⟨b1,b2⟩,aj,f⟩:=bnd f;try dsimp only at f
    refine RG (MV G G (q03 H (Y01 aj) G trivial (q00 G) G ?_));intro b3 M w H u hR;try dsimp only at hR
    obtain rfl:=hR;refine q05 [_,_] H G G G Ku Ts33 G Kf Kf (q00 G) ?_;intro w H;refine NL (TN (RT ?_));obtain rfl:=oI f;try dsimp only at h
    obtain rfl:=oI h;exact q08 G ⟨_,G,H.loadAgg Km Ta33 Ts33 Kf⟩ H.ext G
   replace J:a6=true:=by simpa using J
   subst J;rw[if_pos rfl] at f;refine SQ ?_;obtain⟨b4,a2,f⟩:=bnd f;obtain⟨b5,ak,f⟩:=bnd f;refine RG (MV G G (MV G G (WR.sliceSSH Tu22 Ts68 (z) G G a2 (q00 G) G ?_)));intro b6 O;obtain⟨M,u,al,H⟩:=H.freezeVar (b:=a4) Kv;replace K:=K.mono u;replace z:=z.mono u;replace O:=O.mono u;refine ST (q1m G) G (q03 H (Y3J ak) G ⟨O,(fun _ _ h=>FnV.ofCap [ptr a4 0] (Y53 h) (fun _ hm=>al.mono hm))⟩ (q00 G) G ?_);intro b7 M w H u hR;replace K:=K.mono u;replace z:=z.mono u;obtain rfl:=hR;refine AS G G (NL (TN ?_));refine q09 G (fun U=>?_) (fun U=>?_)
   ·
    subst U;rw[if_pos rfl] at f;refine SQ ?_;obtain⟨⟨b8,b9⟩,am,f⟩:=bnd f;try dsimp only at f
    refine RG (MV G G (q03 H (Y01 am) G trivial (q00 G) G ?_));intro ba M w H u hR;try dsimp only at hR
    obtain rfl:=hR;refine q05 [_,_] H G G G Ku Ts33 G Kf Kf (q00 G) ?_;intro w H;refine NL (TN (RT ?_));obtain rfl:=oI f;try dsimp only at h
    obtain rfl:=oI h;exact q08 G ⟨_,G,H.loadAgg Km Ta33 Ts33 Kf⟩ H.ext G
   subst U;rw[if_neg l00] at f;refine SK (IB (IB (TN ?_)));obtain⟨bb,a3,f⟩:=bnd f;refine RG (ST (q0b G G a3) G (MV G G (NL ?_)));exact AG m8 ⟨_,_,_,_,G,H,K,z,f⟩ (l04 _)
  rw[if_neg Z] at f;refine q0o (q04 (q04 (q0g ?_)));exact MN ⟨_,_,_,G,H,K,f⟩
 rintro e w ⟨n3,n4,M,rfl,H,K,aq⟩;obtain rfl:=oI aq;try dsimp only at h
 refine TN (SQ ?_);obtain⟨⟨bc,bd⟩,an,h⟩:=bnd h;try dsimp only at h
 refine RG (q03 H (Y0i an) G trivial (q00 G) G ?_);intro be M w H u hR;try dsimp only at hR
 obtain rfl:=hR;refine q05 [_,_] H G G G Ku Ts33 G Kf Kf (q00 G) ?_;intro w H;refine NL (TN (RT ?_));obtain rfl:=oI h;exact q08 G ⟨_,G,H.loadAgg Km Ta33 Ts33 Kf⟩ H.ext G
theorem Y4j {z:(Ls × List Z0b × Ls)}{u:Value}{r:Z0a}(h:Y2f z=some r):Ct Tryz.prog 43 [Value.agg #[S z.1,u,S z.2.2]] (fun M=>GlF (fun w =>∃m,w.cell? ⟨0,0,none⟩=some (.int .i64 m)) M/\SlS M 2 xenc68 u z.2.1) (fun v M=>v=Value.agg #[I r.1,I r.2]):=by
 refine Ct.of Tryz.func43 (enters Tryz.func43 Kr G) G G G ?_;intro w0 M0 H hp;obtain⟨E,f⟩:=hp;unfold Y2f at h;refine SQ (RG (q0I [_,_,_] H G G (q00 G) G ?_));intro K w H;refine q0f [_,_] H Tz33 G (q00 G) G ?_;intro N w H;refine NL (TN (SQ (BL (SQ ?_))));obtain⟨o1,e2,h⟩:=bnd h;refine q07 (fun e w =>∃(b3:Bool) (M:Mem),e=[(1,ptr K 0),(2,ptr N 0),(3,Value.bool b3)]/\St w0 M0 M [.blk K (.cells #[S z.1,u,S z.2.2] 24), .blk N (.cells #[I 0,I 0] 33)] w/\GlF (fun w =>∃m,w.cell? ⟨0,0,none⟩=some (.int .i64 m)) M/\SlS M 2 xenc68 u z.2.1/\some b3=some o1) [] ?_ ?_ (trivial)
 ·
  refine RG (ST (q01 Tu24 G Ts9 Dc G) G (ST (XL H Ta9) G ?_));by_cases a0:z.1=[]
  ·
   rw[if_pos a0] at e2;refine q0l (v' := .bool false) (q0z G G) (congrArg Value.bool (by rw[decide_eq_true a0];rfl)) (q00 G) G G ?_;refine MV G G (q06 4 G G (PF G G G (AS G G (NL ?_))));exact MN ⟨_,_,G,(H.pick (L':=[.blk K (.cells #[S z.1,u,S z.2.2] 24), .blk N (.cells #[I 0,I 0] 33)]) Kp),E,f,e2⟩
  rw[if_neg a0] at e2;obtain⟨b5,ad,e2⟩:=bnd e2;refine q0l (v' := .bool true) (q0z G G) (congrArg Value.bool (by rw[decide_eq_false a0];rfl)) (q00 G) G G ?_;refine MV G G (SG (q01 Tu24 G Ts9 Dc G) G G G (SG (XL H Ta9) G G G ?_));refine q03 H (Y4G ad) G (E) (q0h G G G) G ?_;intro am M w H J hR;replace E:=E.mono J;replace f:=f.mono J;obtain rfl:=hR;refine SG (q0y G) G G G (PT G G G (AS G G (NL ?_)));exact MN ⟨_,_,G,(H.pick (L':=[.blk K (.cells #[S z.1,u,S z.2.2] 24), .blk N (.cells #[I 0,I 0] 33)]) Kp),E,f,e2⟩
 rintro e w ⟨b3,M,rfl,H,E,f,q7⟩;obtain rfl:=oI q7;refine TN ?_;refine q09 G (fun a3=>?_) (fun a3=>?_)
 ·
  subst a3;rw[if_pos rfl] at h;refine SQ ?_;obtain⟨⟨n9,an⟩,a8,h⟩:=bnd h;try dsimp only at h
  refine RG (q03 H (Y01 a8) G trivial (q00 G) G ?_);intro ao M w H J hR;try dsimp only at hR
  obtain rfl:=hR;refine q05 [_,_] H G G G Ku Ts33 G Kf Kf (q00 G) ?_;intro w H;refine NL (TN (RT ?_));obtain rfl:=oI h;exact q08 G ⟨_,G,H.loadAgg Km Ta33 Ts33 Kf⟩ H.ext G
 subst a3;rw[if_neg l00] at h;refine SQ ?_;obtain⟨ae,a1,h⟩:=bnd h;refine q07 (fun e w =>∃(a4:Bool) (M:Mem),e=[(1,ptr K 0),(2,ptr N 0),(14,Value.bool a4)]/\St w0 M0 M [.blk K (.cells #[S z.1,u,S z.2.2] 24), .blk N (.cells #[I 0,I 0] 33)] w/\GlF (fun w =>∃m,w.cell? ⟨0,0,none⟩=some (.int .i64 m)) M/\SlS M 2 xenc68 u z.2.1/\some a4=some ae) [] ?_ ?_ (trivial)
 ·
  refine RG (ST (q01 Tu24 G Ts22 Dc G) G (ST (XL H Ta22) G ?_));refine ST (q0O Tu22 f G) G ?_;by_cases U:(z.2.1.length:Int)<(1:Int)
  ·
   rw[if_pos U] at a1;refine DT U (q0n G G) G (MV G G (q06 4 G G (PT G G G (AS G G (NL ?_)))));exact MN ⟨_,_,G,H,E,f,a1⟩
  rw[if_neg U] at a1;refine DF U (q0n G G) G (MV G G (SG (q01 Tu24 G Ts22 Dc G) G G G (SG (XL H Ta22) G G G ?_)));refine SG (q0O Tu22 f G) G G G (SG (q0H G G) G G G (PF G G G (AS G G (NL ?_))));exact MN ⟨_,_,G,H,E,f,a1⟩
 rintro e w ⟨a4,M,rfl,H,E,f,ah⟩;obtain rfl:=oI ah;refine TN ?_;refine q09 G (fun Y=>?_) (fun Y=>?_)
 ·
  subst Y;rw[if_pos rfl] at h;refine SQ ?_;obtain⟨⟨ap,aq⟩,a9,h⟩:=bnd h;try dsimp only at h
  refine RG (q03 H (Y01 a9) G trivial (q00 G) G ?_);intro ar M w H J hR;try dsimp only at hR
  obtain rfl:=hR;refine q05 [_,_] H G G G Ku Ts33 G Kf Kf (q00 G) ?_;intro w H;refine NL (TN (RT ?_));obtain rfl:=oI h;exact q08 G ⟨_,G,H.loadAgg Km Ta33 Ts33 Kf⟩ H.ext G
 subst Y;rw[if_neg l00] at h;refine SQ ?_;obtain⟨ai,O,h⟩:=bnd h;refine q07 (fun e w =>∃(a5:Bool) (M:Mem),e=[(1,ptr K 0),(2,ptr N 0),(26,Value.bool a5)]/\St w0 M0 M [.blk K (.cells #[S z.1,u,S z.2.2] 24), .blk N (.cells #[I 0,I 0] 33)] w/\GlF (fun w =>∃m,w.cell? ⟨0,0,none⟩=some (.int .i64 m)) M/\SlS M 2 xenc68 u z.2.1/\some a5=some ai) [] ?_ ?_ (trivial)
 ·
  refine RG (ST (q01 Tu24 G Ts9 Dc G) G (ST (XL H Ta9) G ?_));by_cases V:z.2.2=[]
  ·
   rw[if_pos V] at O;refine q0l (v' := .bool false) (q0z G G) (congrArg Value.bool (by rw[decide_eq_true V];rfl)) (q00 G) G G ?_;refine MV G G (q06 4 G G (PF G G G (AS G G (NL ?_))));exact MN ⟨_,_,G,H,E,f,O⟩
  rw[if_neg V] at O;obtain⟨au,aa,O⟩:=bnd O;refine q0l (v' := .bool true) (q0z G G) (congrArg Value.bool (by rw[decide_eq_false V];rfl)) (q00 G) G G ?_;refine MV G G (SG (q01 Tu24 G Ts9 Dc G) G G G (SG (XL H Ta9) G G G ?_));refine q03 H (Y64 aa) G trivial (q0h G G G) G ?_;intro av M w H J hR;replace E:=E.mono J;replace f:=f.mono J;obtain rfl:=hR;refine SG (q0y G) G G G (PT G G G (AS G G (NL ?_)));exact MN ⟨_,_,G,H,E,f,O⟩
 rintro e w ⟨a5,M,rfl,H,E,f,aj⟩;obtain rfl:=oI aj;refine TN ?_;refine q09 G (fun Z=>?_) (fun Z=>?_)
 ·
  subst Z;rw[if_pos rfl] at h;refine SQ ?_;obtain⟨⟨aw,ax⟩,ab,h⟩:=bnd h;try dsimp only at h
  refine RG (q03 H (Y01 ab) G trivial (q00 G) G ?_);intro ay M w H J hR;try dsimp only at hR
  obtain rfl:=hR;refine q05 [_,_] H G G G Ku Ts33 G Kf Kf (q00 G) ?_;intro w H;refine NL (TN (RT ?_));obtain rfl:=oI h;exact q08 G ⟨_,G,H.loadAgg Km Ta33 Ts33 Kf⟩ H.ext G
 subst Z;rw[if_neg l00] at h;refine SK (IB (TN (SQ ?_)));obtain⟨⟨az,b0⟩,ac,h⟩:=bnd h;try dsimp only at h
 refine RG (ST (q01 Tu24 G Ts22 Dc G) G (ST (XL H Ta22) G ?_));refine q03 H (Y5j ac) G ⟨E,f⟩ (q00 G) G ?_;intro b1 M w H J hR;try dsimp only at hR
 obtain rfl:=hR;refine q05 [_,_] H G G G Ku Ts33 G Kf Kf (q00 G) ?_;intro w H;refine NL (TN (RT ?_));obtain rfl:=oI h;exact q08 G ⟨_,G,H.loadAgg Km Ta33 Ts33 Kf⟩ H.ext G
theorem Y6R {f:UInt8}{r:Bool}(h:Y4z f=some r):Ct Tryz.prog 137 [encB f] (fun M=>True) (fun v M=>v=Value.bool r):=by
 refine Ct.of Tryz.func137 (enters Tryz.func137 Kr G) G G G ?_;intro K M0 H hp;unfold Y4z at h;refine SQ (RG (AS G G (NL (TN (SQ ?_)))));obtain⟨N,u,h⟩:=bnd h;refine q07 (fun e w =>∃(J:Bool) (M:Mem),e=[(2,Value.bool J)]/\St K M0 M [] w/\some J=some N) [] ?_ ?_ (trivial)
 ·
  by_cases z:33<=f.toNat
  ·
   rw[if_pos z] at u;refine RG (MV G G (DT z (q0K (i:=f.toNat) (j:=33) G G) G (MV G G (SG (q02 G) G G G ?_))));by_cases E:f.toNat<=126
   ·
    rw[if_pos E] at u;refine DU E (q0X (i:=f.toNat) (j:=126) G G) G G G (PT G G G (MV G G (SG (q02 G) G G G (SG (Ex.neqB (c:=f) (d:=58) G G) G G G (PT G G G (AS G G (NL ?_)))))));exact MN ⟨_,_,G,H,u⟩
   rw[if_neg E] at u;refine DG E (q0X (i:=f.toNat) (j:=126) G G) G G G (PT G G G (MV G G (GF G G G (GF G G G (PF G G G (AS G G (NL ?_)))))));exact MN ⟨_,_,G,H,u⟩
  rw[if_neg z] at u;refine RG (MV G G (DF z (q0K (i:=f.toNat) (j:=33) G G) G (MV G G (GF G G G (GF G G G (PF G G G (MV G G (GF G G G (GF G G G (PF G G G (AS G G (NL ?_))))))))))));exact MN ⟨_,_,G,H,u⟩
 rintro e w ⟨J,M,rfl,H,O⟩;obtain rfl:=oI O;refine TN (RT ?_);obtain rfl:=oI h;exact q08 G G H.ext G
theorem Y7a {E:Ls}{r:Bool}(h:Y4A E=some r):Ct Tryz.prog 116 [S E] (fun M=>True) (fun v M=>v=Value.bool r):=by
 refine Ct.of Tryz.func116 (enters Tryz.func116 Kr G) G G G ?_;intro N M0 H hp;unfold Y4A at h;refine SQ (RG (AS G G (NL (TN (SQ ?_)))));obtain⟨O,f,h⟩:=bnd h;refine q07 (fun e w =>∃(J:Bool) (M:Mem),e=[(2,Value.bool J)]/\St N M0 M [] w/\some J=some O) [] ?_ ?_ (trivial)
 ·
  by_cases u:E=[]
  ·
   rw[if_pos u] at f;refine RG (MV G G (q0l (v' := .bool false) (q0z G G) (congrArg Value.bool (by rw[decide_eq_true u];rfl)) (q00 G) G G ?_));refine MV G G (q06 3 G G (PF G G G (MV G G (GF G G G (GF G G G (PF G G G (AS G G (NL ?_))))))));exact MN ⟨_,_,G,H,f⟩
  rw[if_neg u] at f;refine RG (MV G G (q0l (v' := .bool true) (q0z G G) (congrArg Value.bool (by rw[decide_eq_false u];rfl)) (q00 G) G G ?_));refine MV G G (SG (q02 G) G G G (SG (q0q Tu9 G) G G G ?_));by_cases z:(E.length:Int)<=(60:Int)
  ·
   rw[if_pos z] at f;obtain⟨Z,K,f⟩:=bnd f;refine DU z (q1h G G) G G G (PT G G G (MV G G (SG (q02 G) G G G (q03 H (Y45 K) G ((fun _ _ h=>FnV.of (Y6R h) (fun _ _=>trivial))) (q0h G G G) G ?_))));intro V M w H Y hR;obtain rfl:=hR;refine PT G G G (AS G G (NL ?_));exact MN ⟨_,_,G,H,f⟩
  rw[if_neg z] at f;refine DG z (q1h G G) G G G (PT G G G (MV G G (GF G G G (GF G G G (PF G G G (AS G G (NL ?_)))))));exact MN ⟨_,_,G,H,f⟩
 rintro e w ⟨J,M,rfl,H,U⟩;obtain rfl:=oI U;refine TN (RT ?_);obtain rfl:=oI h;exact q08 G G H.ext G
theorem Y6f {E:Int}{r:Bool}(h:Y2y E=some r):Ct Tryz.prog 205 [Value.int .i32 E] (fun M=>True) (fun v M=>v=Value.bool r):=by
 refine Ct.of Tf205 (enters Tf205 Kr G) G G G ?_;intro V M0 H hp;unfold Y2y at h;refine SQ (RG (AS G G (NL (TN (SQ (BL (SQ ?_)))))));obtain⟨Z,K,h⟩:=bnd h;refine q07 (fun e w =>∃(O:Bool) (M:Mem),e=[(0,Value.int .i32 E),(3,Value.bool O)]/\St V M0 M [] w/\some O=some Z) [] ?_ ?_ (trivial)
 ·
  by_cases z:(0:Int)<=E
  ·
   rw[if_pos z] at K;refine RG (MV G G (DT z (q1h G G) G (MV G G (SG (q02 G) G G G (SG (q0n G G) G G G (PT G G G (AS G G (NL ?_))))))));exact MN ⟨_,_,G,H,K⟩
  rw[if_neg z] at K;refine RG (MV G G (DF z (q1h G G) G (MV G G (GF G G G (GF G G G (PF G G G (AS G G (NL ?_))))))));exact MN ⟨_,_,G,H,K⟩
 rintro e w ⟨O,M,rfl,H,q5⟩;obtain rfl:=oI q5;refine TN ?_;refine q09 G (fun J=>?_) (fun J=>?_)
 ·
  subst J;rw[if_pos rfl] at h;refine SQ (RG (AS G G (NL (TN (RT ?_)))));obtain rfl:=oI h;exact q08 G G H.ext G
 subst J;rw[if_neg l00] at h;refine SQ ?_;obtain⟨o7,N,h⟩:=bnd h;refine q07 (fun e w =>∃(U:Bool) (M:Mem),e=[(10,Value.bool U)]/\St V M0 M [] w/\some U=some o7) [] ?_ ?_ (trivial)
 ·
  by_cases f:(57343:Int)<E
  ·
   rw[if_pos f] at N;refine RG (MV G G (DT f (q0n G G) G (MV G G (SG (q02 G) G G G (SG (q1h G G) G G G (PT G G G (AS G G (NL ?_))))))));exact MN ⟨_,_,G,H,N⟩
  rw[if_neg f] at N;refine RG (MV G G (DF f (q0n G G) G (MV G G (GF G G G (GF G G G (PF G G G (AS G G (NL ?_))))))));exact MN ⟨_,_,G,H,N⟩
 rintro e w ⟨U,M,rfl,H,Y⟩;obtain rfl:=oI Y;refine TN ?_;refine q09 G (fun u=>?_) (fun u=>?_)
 ·
  subst u;rw[if_pos rfl] at h;refine SQ (RG (AS G G (NL (TN (RT ?_)))));obtain rfl:=oI h;exact q08 G G H.ext G
 subst u;rw[if_neg l00] at h;refine SK (IB (TN (SQ (RG (AS G G (NL (TN (RT ?_))))))));obtain rfl:=oI h;exact q08 G G H.ext G
theorem Y4k {O:Ls}{U:Int}{r:Int}(h:Y2g O U=some r):Ct Tryz.prog 192 [S O,Value.int .i32 U] (fun M=>True) (fun v M=>v=I r):=by
 refine Ct.of Tf192 (enters Tf192 Kr G) G G G ?_;intro w0 M0 H hp;unfold Y2g at h;refine SQ (RG (AS G G (NL (TN (BL (SQ ?_))))));obtain⟨o1,e2,h⟩:=bnd h;refine q07 (fun e w =>∃(b3:Bool) (M:Mem),e=[(0,S O),(1,Value.int .i32 U),(160,Value.bool b3)]/\St w0 M0 M [] w/\some b3=some o1) [] ?_ ?_ (trivial)
 ·
  by_cases a6:(0:Int)<=U
  ·
   rw[if_pos a6] at e2;refine RG (MV G G (DT a6 (q1h G G) G (MV G G (SG (q02 G) G G G (SG (q0n G G) G G G (PT G G G (AS G G (NL ?_))))))));exact MN ⟨_,_,G,H,e2⟩
  rw[if_neg a6] at e2;refine RG (MV G G (DF a6 (q1h G G) G (MV G G (GF G G G (GF G G G (PF G G G (AS G G (NL ?_))))))));exact MN ⟨_,_,G,H,e2⟩
 rintro e w ⟨b3,M,rfl,H,q5⟩;obtain rfl:=oI q5;refine TN ?_;refine q09 G (fun aa=>?_) (fun aa=>?_)
 ·
  subst aa;rw[if_pos rfl] at h;refine SQ ?_;obtain⟨n7,bb,h⟩:=bnd h;refine RG (MV G G (MV G G (ST (Ex.convU8C Tu21 Tu5 G) G (q03 H (Y2B bb) G trivial (q00 G) G ?_))));intro bm M w H b1 hR;obtain rfl:=hR;refine AS G G (NL (TN (RT ?_)));obtain rfl:=oI h;exact q08 G G H.ext G
 subst aa;rw[if_neg l00] at h;refine SQ (RG (MV G G (ST (q0j G G) G (AS G G (NL (TN ?_))))));refine CB (p:=U=(65533:Int)) G (fun ab=>?_) fun ab=>?_
 ·
  rw[if_pos ab] at h;refine SQ (SQ (RG (MV G G (WR.rangeStr H Tu9 G (q00 G) G ?_))));intro a7 w H;refine NL (TN ?_);obtain⟨b2,E,h⟩:=bnd h;refine q07 (fun e w =>∃  (M:Mem),e=[]/\St w0 M0 M [] w/\some (.inl ())=some b2) [] ?_ ?_ (trivial)
  ·
   refine BL (q0p (fun m e w =>∃(V:Nat) (M:Mem),e=[(175,ptr a7 0)]/\St w0 M0 M [.blk a7 (.stringIter ⟨((O):Ls).toArray⟩ V)] w/\Y22 O m V=some b2) FU [(175,_)] ⟨rfl,trivial⟩ ⟨_,_,rfl,H,E⟩ ?_);rintro ac e w ⟨V,M,rfl,H,E⟩;rcases ac with _|ac
   · rw[Y22] at E;cases E
   rw[Y22] at E;refine SQ ?_;by_cases a0:V<O.length
   ·
    rw[if_pos a0] at E;refine RG (WR.nextT H a0 G Ku (q00 G) G ?_);intro w H;refine ST (q0e G G) G (NL (TN (SQ (CT G (SK (TN (BL (SQ (RG (ST (q0e G G) G (ST (q0e G G) G (AS G G (AS G G (NL (TN (SQ (RG (MV G G (ST (q0j G G) G (NL (TN ?_)))))))))))))))))))));refine CB (p:=((Utf.dr (O.drop V)).1:Int)=(65533:Int)) G (fun a2=>?_) fun a2=>?_
    ·
     rw[if_pos a2] at E;refine SQ (RG (MV G G (AS G G (NL (TN (RT ?_))))));obtain rfl:=oI E;try dsimp only at h
     obtain rfl:=oI h;exact q08 G G H.ext G
    rw[if_neg a2] at E;refine SK (IB ?_);exact AG ac ⟨_,_,G,H,E⟩ (l04 _)
   rw[if_neg a0] at E;refine RG (WR.nextF H (Nat.le_of_not_lt a0) G Km (q00 G) G ?_);refine ST (q0e G G) G (NL (TN (SQ (CF G (q0o (q04 (q04 (q0g ?_))))))));exact MN ⟨_,G,(H.pick (L':=[]) Kp),E⟩
  rintro e w ⟨M,rfl,H,bc⟩;obtain rfl:=oI bc;try dsimp only at h
  refine TN (SQ (RG (AS G G (NL (TN (RT ?_))))));obtain rfl:=oI h;exact q08 G G H.ext G
 rw[if_neg ab] at h;refine SQ ?_;obtain⟨b4,b9,h⟩:=bnd h;refine RG (MV G G (q03 H (Y6f b9) G trivial (q00 G) G ?_));intro bn M w H b1 hR;obtain rfl:=hR;refine ST (q0y G) G (AS G G (NL (TN ?_)));refine q09 G (fun J=>?_) (fun J=>?_)
 ·
  replace J:b4=false:=by simpa using J
  subst J;rw[if_neg l00] at h;refine SQ (RG (AS G G (NL (TN (RT ?_)))));obtain rfl:=oI h;exact q08 G G H.ext G
 replace J:b4=true:=by simpa using J
 subst J;rw[if_pos rfl] at h;refine WC.scope (SQ (RG (MV G G (ST (Ex.runeStr Tu21 Tu9 G) G (AS G G (NL (TN (SQ ?_))))))));obtain⟨Y,al,h⟩:=bnd h;refine RG (MV G G (ST (q0q Tu9 G) G (ST (q0W G G al) G (AS G G (NL (TN (SQ (RG (MV G G (AS G G (NL (TN (SQ (RG (AS G G (NL (TN (SQ ?_))))))))))))))))));obtain⟨b5,f,h⟩:=bnd h;refine q07 (fun e w =>∃  (M:Mem),e=[]/\St w0 M0 M [] w/\some (.inl ())=some b5) [] ?_ ?_ (trivial)
 ·
  refine BL (q0p (fun m e w =>∃(a8:Int) (M:Mem),e=[(0,S O),(7,S (Chs.utf8 U)),(8,I Y),(9,I a8)]/\St w0 M0 M [] w/\Y24 O U Y m a8=some b5) FU [(0,_),(7,_),(8,_),(9,_)] ⟨rfl,rfl,rfl,rfl,trivial⟩ ⟨_,_,rfl,H,f⟩ ?_);rintro b6 e w ⟨a8,M,rfl,H,f⟩;rcases b6 with _|b6
  · rw[Y24] at f;cases f
  rw[Y24] at f;refine SQ (SQ (RG (MV G G (MV G G (ST (q0q Tu9 G) G (ST (q0n G G) G (NL (TN ?_))))))));refine CB (p:=a8<(O.length:Int)) G (fun a3=>?_) fun a3=>?_
  ·
   rw[if_pos a3] at f;refine SK (TN (BL (WC.scope (SQ (SQ ?_)))));obtain⟨ad,am,f⟩:=bnd f;obtain⟨ae,an,f⟩:=bnd f;refine q0v (m:=7) G G H ?_;intro w H;refine TK 0 G (fun _=>q02 G) G (TK 1 G (fun _=>q02 G) G (TK 2 G (fun _=>q0G Tu9 G G am) G (TK 3 G (fun _=>q02 G) G (q0i (fuel:=0) [4,5,6] G Kr (MV G G (ST (q0G Tu9 G G an) G (ST (Ex.neqB (c:=ad) (d:=ae) G G) G (NA (q0d Kr (TN ?_))))))))));obtain⟨bd,z,f⟩:=bnd f;refine q07 (fun e w =>∃(Z:Int) (M:Mem),e=[(0,S O),(7,S (Chs.utf8 U)),(8,I Y),(9,I Z)]/\St w0 M0 M [] w/\some (.inl Z)=some bd) [] ?_ ?_ (trivial)
   ·
    refine q09 G (fun K=>?_) (fun K=>?_)
    ·
     replace K :¬(ad=ae):=of_not_decide K;rw[if_neg K] at z;refine SQ ?_;obtain⟨bo,ao,z⟩:=bnd z;obtain⟨bp,ap,z⟩:=bnd z;obtain⟨bq,aq,z⟩:=bnd z;obtain⟨be,ba,z⟩:=bnd z;refine q0v (m:=9) G G H ?_;intro w H;refine TK 0 G (fun _=>q02 G) G (TK 1 G (fun _=>q02 G) G (TK 2 G (fun _=>q0b G G ao) G (TK 3 G (fun _=>Ex.sliceL Tu9 G G ap) G (TK 4 G (fun _=>q02 G) G (q0i (fuel:=0) [5,6,7,8] G Kr (MV G G (ST (q0G Tu9 G G aq) G (q03 H (Y2B ba) G trivial (q00 G) G ?_))))))));intro br M w H b1 hR;obtain rfl:=hR;refine AS G G (NA (q0d Kr (TN (SQ (SQ (RG (MV G G (ST (q0n G G) G (NL (TN ?_))))))))));refine CB (p:=be<(0:Int)) G (fun a4=>?_) fun a4=>?_
     ·
      rw[if_pos a4] at z;refine SQ (RG (AS G G (NL (TN (RT ?_)))));obtain rfl:=oI z;try dsimp only at f
      obtain rfl:=oI f;try dsimp only at h
      obtain rfl:=oI h;exact q08 G G H.ext G
     rw[if_neg a4] at z;refine SK (TN ?_);obtain⟨bs,ar,z⟩:=bnd z;obtain⟨bt,au,z⟩:=bnd z;refine RG (MV G G (MV G G (ST (q0b G G ar) G (ST (q0b G G au) G (AS G G (NL ?_))))));exact MN ⟨_,_,G,H,z⟩
    replace K:ad=ae:=of_not_decide' K;rw[if_pos K] at z;refine SK ?_;exact MN ⟨_,_,G,H,z⟩
   rintro e w ⟨Z,M,rfl,H,bf⟩;obtain rfl:=oI bf;try dsimp only at f
   refine TN (SQ (SQ (RG (AS G G (NL (TN ?_))))));obtain⟨b7,u,f⟩:=bnd f;refine q07 (fun e w =>∃  (M:Mem),e=[(8,I Y),(9,I Z)]/\St w0 M0 M [] w/\some ()=some b7) [] ?_ ?_ (trivial)
   ·
    refine BL (q0p (fun m e w =>∃(a9:Int) (M:Mem),e=[(0,S O),(7,S (Chs.utf8 U)),(8,I Y),(9,I Z),(12,I a9)]/\St w0 M0 M [] w/\Y23 O U Y Z m a9=some b7) FU [(0,_),(7,_),(8,_),(9,_),(12,_)] ⟨rfl,rfl,rfl,rfl,rfl,trivial⟩ ⟨_,_,rfl,H,u⟩ ?_);rintro ah e w ⟨a9,M,rfl,H,u⟩;rcases ah with _|ah
    · rw[Y23] at u;cases u
    rw[Y23] at u;refine SQ (SQ (RG (MV G G (MV G G (ST (q0q Tu9 G) G (ST (q0n G G) G (NL (TN ?_))))))));refine CB (p:=a9<((Chs.utf8 U).length:Int)) G (fun a5=>?_) fun a5=>?_
    ·
     rw[if_pos a5] at u;refine SK (TN (SQ (BL (SQ ?_))));obtain⟨bu,av,u⟩:=bnd u;obtain⟨ai,aw,u⟩:=bnd u;obtain⟨bv,ax,u⟩:=bnd u;obtain⟨aj,ay,u⟩:=bnd u;refine q0v (m:=11) G G H ?_;intro w H;refine TK 0 G (fun _=>q02 G) G (TK 1 G (fun _=>q02 G) G (TK 2 G (fun _=>q02 G) G (TK 3 G (fun _=>q0W G G av) G (TK 4 G (fun _=>q0G Tu9 G G aw) G (TK 5 G (fun _=>q02 G) G (TK 6 G (fun _=>q02 G) G ?_))))));refine q0i (fuel:=0) [7,8,9,10] G Kr (MV G G (ST (q0W G G ax) G (ST (q0G Tu9 G G ay) G (ST (Ex.neqB (c:=ai) (d:=aj) G G) G (NA (q0d Kr (TN ?_)))))));refine q09 G (fun N=>?_) (fun N=>?_)
     ·
      replace N :¬(ai=aj):=of_not_decide N;rw[if_neg N] at u;cases u
     replace N:ai=aj:=of_not_decide' N;rw[if_pos N] at u;refine SK (IB (TN ?_));obtain⟨bw,az,u⟩:=bnd u;refine RG (MV G G (ST (q0b G G az) G (AS G G (NL ?_))));exact AG ah ⟨_,_,G,H,u⟩ (l04 _)
    rw[if_neg a5] at u;refine q0o (q04 (q04 (q0g ?_)));exact MN ⟨_,G,H,u⟩
   rintro e w ⟨M,rfl,H,bg⟩;obtain rfl:=oI bg;try dsimp only at f
   refine TN (SQ (SQ ?_));obtain⟨bx,b0,f⟩:=bnd f;refine RG (MV G G (MV G G (ST (q0W G G b0) G (AS G G (NL (TN (RT ?_)))))));obtain rfl:=oI f;try dsimp only at h
   obtain rfl:=oI h;exact q08 G G H.ext G
  rw[if_neg a3] at f;refine q0o (q04 (q04 (q0g ?_)));exact MN ⟨_,G,H,f⟩
 rintro e w ⟨M,rfl,H,bh⟩;obtain rfl:=oI bh;try dsimp only at h
 refine TN (SQ (SQ (RG (AS G G (NL (TN (RT ?_)))))));obtain rfl:=oI h;exact q08 G G H.ext G
theorem Y4q {f:Int}{r:Bool}(h:Y0U f=some r):Ct Tryz.prog 193 [I f] (fun M=>True) (fun v M=>v=Value.bool r):=by
 refine Ct.of Tf193 (enters Tf193 Kr G) G G G ?_;intro u M0 H hp;unfold Y0U at h;refine SQ (RG (AS G G (NL (TN (SQ (RG (MV G G (ST (q0H G G) G (AS G G (NL (TN (RT ?_))))))))))));obtain rfl:=oI h;exact q08 G G H.ext G
theorem Y57 {z:Ls}{r:Z0r}(h:Y1B z=some r):Ct Tryz.prog 194 [S z] (fun M=>True) (fun v M=>v=Value.tuple #[Value.agg (List.map encBo r.1).toArray,Value.bool r.2]):=by
 refine Ct.of Tf194 (enters Tf194 Kr G) G G G ?_;intro w0 M0 H hp;unfold Y1B at h;refine SQ (RG (q0f (List.map encBo (List.replicate 256 false:List Bool)) H Tryz.zeroValue244 Kr (q00 G) G ?_));intro u w H;refine AS G G (NL (TN (SQ (SQ (RG (AS G G (NL (TN ?_))))))));obtain⟨o1,f,h⟩:=bnd h;refine q07 (fun e w =>∃(l3:List Bool) (M:Mem),e=[(2,ptr u 0)]/\St w0 M0 M [.blk u (.cells (List.map encBo l3).toArray 244)] w/\some (.inl l3)=some o1) [] ?_ ?_ (trivial)
 ·
  refine BL (q0p (fun m e w =>∃(K:List Bool) (N:Int) (M:Mem),e=[(0,S z),(2,ptr u 0),(4,I N)]/\St w0 M0 M [.blk u (.cells (List.map encBo K).toArray 244)] w/\Y1y z m K N=some o1) FU [(0,_),(2,_),(4,_)] ⟨rfl,rfl,rfl,trivial⟩ ⟨_,_,_,rfl,H,f⟩ ?_);rintro m6 e w ⟨K,N,M,rfl,H,f⟩;rcases m6 with _|m6
  · rw[Y1y] at f;cases f
  rw[Y1y] at f;refine SQ (SQ (RG (MV G G (MV G G (ST (q0q Tu9 G) G (ST (q0n G G) G (NL (TN ?_))))))));refine CB (p:=N<(z.length:Int)) G (fun E=>?_) fun E=>?_
  ·
   rw[if_pos E] at f;refine SK (TN (SQ (BL (SQ ?_))));obtain⟨c8,a8,f⟩:=bnd f;refine RG (MV G G (MV G G (ST (q0G Tu9 G G a8) G (AS G G (NL (TN (SQ (SQ (RG (MV G G (ST (q0K (i:=c8.toNat) (j:=128) G G) G (NL (TN ?_)))))))))))));refine CB (p:=128<=c8.toNat) G (fun J=>?_) fun J=>?_
   ·
    rw[if_pos J] at f;refine SQ ?_;obtain⟨ac,O,f⟩:=bnd f;obtain⟨ah,U,f⟩:=bnd f;obtain⟨ai,V,f⟩:=bnd f;refine RG (ST (Ex.loadAggA H G Km Ta244 Ts244 O) G ?_);refine WR.storeA (l2:=ac) H G G (fun _=>G) (fun _=>by repeat first|exact .head|apply Upd.tail) U V Ts244 (q00 G) ?_;intro w H;refine AS G G (NL (TN (RT ?_)));obtain⟨aj,Y,f⟩:=bnd f;obtain rfl:=oI f;try dsimp only at h
    obtain rfl:=oI h;exact q0M G ⟨_,G,H.loadAggA Km Ta244 Ts244 Y⟩ G H.ext G
   rw[if_neg J] at f;refine SK (TN ?_);obtain⟨ak,Z,f⟩:=bnd f;obtain⟨al,a0,f⟩:=bnd f;refine RG (MV G G (ST (Ex.idxArrC (l:=K) Tu244 Ts4 G G Z) G (WR.storeArr (a:=true) H G G ⟨G,G⟩ (fun _=>by repeat first|exact .head|apply Upd.tail) a0 Ts4 (q00 G) ?_)));intro w H;refine NL (IB (TN ?_));obtain⟨am,a1,f⟩:=bnd f;refine RG (MV G G (ST (q0b G G a1) G (AS G G (NL ?_))));exact AG m6 ⟨_,_,_,G,H,f⟩ (l04 _)
  rw[if_neg E] at f;refine q0o (q04 (q04 (q0g ?_)));exact MN ⟨_,_,G,H,f⟩
 rintro e w ⟨l3,M,rfl,H,ad⟩;obtain rfl:=oI ad;try dsimp only at h
 refine TN (SQ ?_);obtain⟨ae,a2,h⟩:=bnd h;obtain⟨an,a3,h⟩:=bnd h;obtain⟨ao,a4,h⟩:=bnd h;refine RG (ST (Ex.loadAggA H G Km Ta244 Ts244 a2) G ?_);refine WR.storeA (l2:=ae) H G G (fun _=>G) (fun _=>by repeat first|exact .head|apply Upd.tail) a3 a4 Ts244 (q00 G) ?_;intro w H;refine AS G G (NL (TN (RT ?_)));obtain⟨ap,a5,h⟩:=bnd h;obtain rfl:=oI h;exact q0M G ⟨_,G,H.loadAggA Km Ta244 Ts244 a5⟩ G H.ext G
theorem Y4r {z:List Bool}{E:UInt8}{u:Nat}{r:Bool}(h:Y1l z E=some r):Ct Tryz.prog 195 [ptr u 0,encB E] (fun M=>PtM M u (.cells (List.map encBo z).toArray 244)) (fun v M=>v=Value.bool r):=by
 refine Ct.of Tf195 (enters Tf195 Kr G) G G G ?_;intro K M0 H hp;have J:=hp;unfold Y1l at h;refine SQ (RG (AS G G (NL (TN (SQ ?_)))));obtain⟨N,f,h⟩:=bnd h;refine RG (MV G G (MV G G (ST (q0k G) G (ST (Ex.idxArrC (l:=z) Tu244 Ts4 G G f) G (ST (Ex.loadArrM H G J f Ta4) G (AS G G (NL (TN (RT ?_)))))))));obtain rfl:=oI h;exact q08 G G H.ext G
theorem Y5U {J:Ls}{U:Ls}{r:Int}(h:Y2u J U=some r):Ct Tryz.prog 178 [S J,S U] (fun M=>True) (fun v M=>v=I r):=by
 refine Ct.of Tryz.func178 (enters Tryz.func178 Kr G) G G G ?_;intro w0 M0 H hp;unfold Y2u at h;refine SQ (RG (AS G G (NL (TN (SQ (SQ (RG (MV G G (ST (q0N G G) G (NL (TN ?_)))))))))));refine CB (p:=U=[]) G (fun a4=>?_) fun a4=>?_
 ·
  rw[if_pos a4] at h;refine SQ (RG (AS G G (NL (TN (RT ?_)))));obtain rfl:=oI h;exact q08 G G H.ext G
 rw[if_neg a4] at h;refine SK (TN (SQ (SQ (RG (MV G G (ST (q0q Tu9 G) G (ST (q0j G G) G (NL (TN ?_)))))))));refine CB (p:=(U.length:Int)=(1:Int)) G (fun a5=>?_) fun a5=>?_
 ·
  rw[if_pos a5] at h;refine SQ ?_;obtain⟨c3,al,h⟩:=bnd h;refine RG (MV G G (ST (q0G Tu9 G G al) G (ST (Ex.conv Tu5 Tu21 G) G (AS G G (NL (TN (SQ (SQ (RG (MV G G (ST (q1a G G) G (NL (TN ?_)))))))))))));obtain⟨o4,e5,h⟩:=bnd h;refine q07 (fun e w =>∃(n6:Int) (M:Mem),e=[(0,S J),(5,Value.int .i32 n6)]/\St w0 M0 M [] w/\some n6=some o4) [] ?_ ?_ (trivial)
  ·
   refine CB (p:=(128:Int)<=(IntKind.i32.wrap (c3.toNat:Int))) G (fun a6=>?_) fun a6=>?_
   ·
    rw[if_pos a6] at e5;refine RG (AS G G (NL ?_));exact MN ⟨_,_,G,H,e5⟩
   rw[if_neg a6] at e5;refine SK ?_;exact MN ⟨_,_,G,H,e5⟩
  rintro e w ⟨n6,M,rfl,H,q8⟩;obtain rfl:=oI q8;refine TN (SQ ?_);obtain⟨n9,an,h⟩:=bnd h;refine RG (MV G G (MV G G (q03 H (Y4k an) G trivial (q00 G) G ?_)));intro b2 M w H K hR;obtain rfl:=hR;refine AS G G (NL (TN (RT ?_)));obtain rfl:=oI h;exact q08 G G H.ext G
 rw[if_neg a5] at h;refine SK (TN (SQ (SQ ?_)));obtain⟨b3,ao,h⟩:=bnd h;refine RG (MV G G (ST (q0q Tu9 G) G (q03 H (Y4q ao) G trivial (q00 G) G ?_)));intro b4 M w H K hR;obtain rfl:=hR;refine NL (TN ?_);obtain⟨au,f,h⟩:=bnd h;refine q07 (fun e w =>∃  (M:Mem),e=[(0,S J),(1,S U)]/\St w0 M0 M [] w/\some (.inl ())=some au) [] ?_ ?_ (trivial)
 ·
  refine q09 G (fun V=>?_) (fun V=>?_)
  ·
   subst V;rw[if_pos rfl] at f;refine SQ ?_;obtain⟨⟨a7,b5⟩,ap,f⟩:=bnd f;try dsimp only at f
   obtain⟨b6,ad,f⟩:=bnd f;obtain⟨b7,ae,f⟩:=bnd f;refine RG (MV G G (q03 H (Y57 ap) G trivial (q00 G) G ?_));intro b8 M w H K hR;try dsimp only at hR
   obtain rfl:=hR;refine MV G G (ST (q0e G G) G (ST (q0e G G) G (q0f (List.map encBo (List.replicate 256 false:List Bool)) H Tryz.zeroValue244 Kr (q00 G) G ?_)));intro a8 w H;refine WR.storeA (l2:=a7) H G G (fun _=>G) (fun _=>by repeat first|exact .head|apply Upd.tail) ad ae Ts244 (q00 G) ?_;intro w H;refine AS G G (NL (TN (SQ (RG (MV G G (NL (TN ?_)))))));refine q09 G (fun Y=>?_) (fun Y=>?_)
   ·
    subst Y;rw[if_pos rfl] at f;refine SQ (SQ (RG (AS G G (NL (TN ?_)))));obtain⟨aj,u,f⟩:=bnd f;refine q07 (fun e w =>∃  (M:Mem),e=[]/\St w0 M0 M [] w/\some (.inl ())=some aj) [] ?_ ?_ (trivial)
    ·
     refine BL ?_;obtain⟨M,K,E,H⟩:=H.freezeVar (b:=a8) Kv;refine q0p (fun m e w =>∃(a2:Int) (M:Mem),e=[(0,S J),(6,ptr a8 0),(8,I a2)]/\St w0 M0 M [] w/\PtM M a8 (.cells (List.map encBo a7).toArray 244)/\Y17 J a7 m a2=some aj) FU [(0,_),(6,_),(8,_)] ⟨rfl,rfl,rfl,trivial⟩ ⟨_,_,rfl,H,E,u⟩ ?_;rintro a9 e w ⟨a2,M,rfl,H,E,u⟩;rcases a9 with _|a9
     · rw[Y17] at u;cases u
     rw[Y17] at u;refine SQ (SQ (RG (MV G G (MV G G (ST (q0q Tu9 G) G (ST (q0n G G) G (NL (TN ?_))))))));refine CB (p:=a2<(J.length:Int)) G (fun Z=>?_) fun Z=>?_
     ·
      rw[if_pos Z] at u;refine SK (TN (SQ (BL (SQ ?_))));obtain⟨b9,ah,u⟩:=bnd u;obtain⟨ba,aq,u⟩:=bnd u;refine RG (MV G G (MV G G (ST (q0G Tu9 G G ah) G (q03 H (Y4r aq) G (E) (q00 G) G ?_))));intro bb M w H K hR;replace E:=E.mono K;obtain rfl:=hR;refine NL (TN ?_);refine q09 G (fun a0=>?_) (fun a0=>?_)
      ·
       subst a0;rw[if_pos rfl] at u;refine SQ (RG (MV G G (AS G G (NL (TN (RT ?_))))));obtain rfl:=oI u;try dsimp only at f
       obtain rfl:=oI f;try dsimp only at h
       obtain rfl:=oI h;exact q08 G G H.ext G
      subst a0;rw[if_neg l00] at u;refine SK (IB (TN ?_));obtain⟨bc,ai,u⟩:=bnd u;refine RG (MV G G (ST (q0b G G ai) G (AS G G (NL ?_))));exact AG a9 ⟨_,_,G,H,E,u⟩ (l04 _)
     rw[if_neg Z] at u;refine q0o (q04 (q04 (q0g ?_)));exact MN ⟨_,G,H,u⟩
    rintro e w ⟨M,rfl,H,av⟩;obtain rfl:=oI av;try dsimp only at f
    refine TN (SQ (RG (AS G G (NL (TN (RT ?_))))));obtain rfl:=oI f;try dsimp only at h
    obtain rfl:=oI h;exact q08 G G H.ext G
   subst Y;rw[if_neg l00] at f;refine SK ?_;exact MN ⟨_,G,(H.pick (L':=[]) Kp),f⟩
  subst V;rw[if_neg l00] at f;refine SK ?_;exact MN ⟨_,G,H,f⟩
 rintro e w ⟨M,rfl,H,aw⟩;obtain rfl:=oI aw;try dsimp only at h
 refine TN (SQ (SQ (RG (MV G G (WR.rangeStr H Tu9 G (q00 G) G ?_)))));intro aa w H;refine NL (TN ?_);obtain⟨ak,z,h⟩:=bnd h;refine q07 (fun e w =>∃  (M:Mem),e=[]/\St w0 M0 M [] w/\some (.inl ())=some ak) [] ?_ ?_ (trivial)
 ·
  refine BL (q0p (fun m e w =>∃(N:Nat) (M:Mem),e=[(1,S U),(45,ptr aa 0)]/\St w0 M0 M [.blk aa (.stringIter ⟨((J):Ls).toArray⟩ N)] w/\Y18 J U m N=some ak) FU [(1,_),(45,_)] ⟨rfl,rfl,trivial⟩ ⟨_,_,rfl,H,z⟩ ?_);rintro ab e w ⟨N,M,rfl,H,z⟩;rcases ab with _|ab
  · rw[Y18] at z;cases z
  rw[Y18] at z;refine SQ ?_;by_cases O:N<J.length
  ·
   rw[if_pos O] at z;refine RG (WR.nextT H O G Ku (q00 G) G ?_);intro w H;refine ST (q0e G G) G (NL (TN (SQ (CT G (SK (TN (BL (SQ (RG (ST (q0e G G) G (ST (q0e G G) G (AS G G (AS G G (NL (TN (SQ ?_))))))))))))))));obtain⟨ax,ar,z⟩:=bnd z;refine RG (MV G G (MV G G (q03 H (Y4k ar) G trivial (q00 G) G ?_)));intro bd M w H K hR;obtain rfl:=hR;refine ST (q1a G G) G (NL (TN ?_));refine CB (p:=(0:Int)<=ax) G (fun a1=>?_) fun a1=>?_
   ·
    rw[if_pos a1] at z;refine SQ (RG (MV G G (AS G G (NL (TN (RT ?_))))));obtain rfl:=oI z;try dsimp only at h
    obtain rfl:=oI h;exact q08 G G H.ext G
   rw[if_neg a1] at z;refine SK (IB ?_);exact AG ab ⟨_,_,G,H,z⟩ (l04 _)
  rw[if_neg O] at z;refine RG (WR.nextF H (Nat.le_of_not_lt O) G Km (q00 G) G ?_);refine ST (q0e G G) G (NL (TN (SQ (CF G (q0o (q04 (q04 (q0g ?_))))))));exact MN ⟨_,G,(H.pick (L':=[]) Kp),z⟩
 rintro e w ⟨M,rfl,H,ay⟩;obtain rfl:=oI ay;try dsimp only at h
 refine TN (SQ (RG (AS G G (NL (TN (RT ?_))))));obtain rfl:=oI h;exact q08 G G H.ext G
theorem Y5k {f:Ls}{u:Ls}{r:Bool}(h:Y1P f u=some r):Ct Tryz.prog 157 [S f,S u] (fun M=>True) (fun v M=>v=Value.bool r):=by
 refine Ct.of Tryz.func157 (enters Tryz.func157 Kr G) G G G ?_;intro J M0 H hp;unfold Y1P at h;refine SQ (RG (AS G G (NL (TN (SQ ?_)))));obtain⟨K,z,h⟩:=bnd h;refine RG (MV G G (MV G G (q03 H (Y5U z) G trivial (q00 G) G ?_)));intro N M w H E hR;obtain rfl:=hR;refine ST (q1a G G) G (AS G G (NL (TN (RT ?_))));obtain rfl:=oI h;exact q08 G G H.ext G
end Go.Proofs.YtgicephoflppiaaGreatDoor
end
section
namespace Go.Proofs.YtgicephoflppiaaGreatDoor
open Go Go.RowKit Go.Ph Go.Ph.Pl Go.Ph.Pf
theorem Y7b {f:Ls}{r:Bool}(h:Y5m f=some r):Ct Tryz.prog 138 [S f] (fun M=>True) (fun v M=>v=Value.bool r):=by
 refine Ct.of Tryz.func138 (enters Tryz.func138 Kr G) G G G ?_;intro E M0 H hp;unfold Y5m at h;refine SQ (RG (AS G G (NL (TN (SQ ?_)))));obtain⟨J,u,h⟩:=bnd h;refine RG (MV G G (q03 H (Y5k u) G trivial (q00 G) G ?_));intro K M w H z hR;obtain rfl:=hR;refine AS G G (NL (TN (RT ?_)));obtain rfl:=oI h;exact q08 G G H.ext G
theorem Y3i {u:UInt8}{r:Bool}(h:Y2N u=some r):Ct Tryz.prog 139 [encB u] (fun M=>True) (fun v M=>v=Value.bool r):=by
 refine Ct.of Tryz.func139 (enters Tryz.func139 Kr G) G G G ?_;intro J M0 H hp;unfold Y2N at h;refine SQ (RG (AS G G (NL (TN (SQ ?_)))));obtain⟨K,z,h⟩:=bnd h;refine q07 (fun e w =>∃(E:Bool) (M:Mem),e=[(2,Value.bool E)]/\St J M0 M [] w/\some E=some K) [] ?_ ?_ (trivial)
 ·
  by_cases f:u=32
  ·
   rw[if_pos f] at z;refine RG (MV G G (DT f (q0P (c:=u) (d:=32) G G) G (MV G G (GT G G G (GT G G G (PT G G G (AS G G (NL ?_))))))));exact MN ⟨_,_,G,H,z⟩
  rw[if_neg f] at z;refine RG (MV G G (DF f (q0P (c:=u) (d:=32) G G) G (MV G G (SG (q02 G) G G G (SG (q0P (c:=u) (d:=9) G G) G G G (PF G G G (AS G G (NL ?_))))))));exact MN ⟨_,_,G,H,z⟩
 rintro e w ⟨E,M,rfl,H,N⟩;obtain rfl:=oI N;refine TN (RT ?_);obtain rfl:=oI h;exact q08 G G H.ext G
theorem Y71 {K:Ls}{r:Bool}(h:Y4X K=some r):Ct Tryz.prog 117 [S K] (fun M=>True) (fun v M=>v=Value.bool r):=by
 refine Ct.of Tryz.func117 (enters Tryz.func117 Kr G) G G G ?_;intro w0 M0 H hp;unfold Y4X at h;refine SQ (RG (AS G G (NL (TN (SQ ?_)))));obtain⟨o1,f,h⟩:=bnd h;refine q07 (fun e w =>∃(N:Bool) (M:Mem),e=[(2,Value.bool N)]/\St w0 M0 M [] w/\some N=some o1) [] ?_ ?_ (trivial)
 ·
  obtain⟨b4,V,f⟩:=bnd f;refine RG (MV G G (q03 H (Y7b V) G trivial (q00 G) G ?_));intro v4 M w H J hR;obtain rfl:=hR;refine ST (q0y G) G (MV G G ?_);rcases b4 with _|_
  ·
   rw[if_neg l00] at f;by_cases u:K=[]
   ·
    rw[if_pos u] at f;refine SG (q02 G) G G G (DU u (q0N G G) G G G (SG (q02 G) G G G (q06 13 G G (SG (q0t G G) G G G (PT G G G (AS G G (NL ?_)))))));exact MN ⟨_,_,G,H,f⟩
   rw[if_neg u] at f;obtain⟨c7,O,f⟩:=bnd f;obtain⟨b8,Y,f⟩:=bnd f;refine SG (q02 G) G G G (DG u (q0N G G) G G G (SG (q02 G) G G G (SG (q02 G) G G G (SG (q0G Tu9 G G O) G G G (q03 H (Y3i Y) G trivial (q0h G G G) G ?_)))));intro a4 M w H J hR;obtain rfl:=hR;refine SG (q0y G) G G G (SG (q02 G) G G G ?_);rcases b8 with _|_
   ·
    rw[if_neg l00] at f;obtain⟨a5,z,f⟩:=bnd f;obtain⟨a6,E,f⟩:=bnd f;obtain⟨a7,U,f⟩:=bnd f;refine SG (q02 G) G G G (SG (q02 G) G G G (SG (q0q Tu9 G) G G G (SG (q0W G G z) G G G (SG (q0G Tu9 G G E) G G G (q03 H (Y3i U) G trivial (q0h G G G) G ?_)))));intro a8 M w H J hR;obtain rfl:=hR;refine SG (q0y G) G G G (SG (q0t G G) G G G (SG (q0u G G) G G G (PT G G G (AS G G (NL ?_)))));exact MN ⟨_,_,G,H,f⟩
   rw[if_pos rfl] at f;refine q06 7 G G (SG (q0u G G) G G G (SG (q0u G G) G G G (PT G G G (AS G G (NL ?_)))));exact MN ⟨_,_,G,H,f⟩
  rw[if_pos rfl] at f;refine q06 17 G G (PF G G G (AS G G (NL ?_)));exact MN ⟨_,_,G,H,f⟩
 rintro e w ⟨N,M,rfl,H,Z⟩;obtain rfl:=oI Z;refine TN (RT ?_);obtain rfl:=oI h;exact q08 G G H.ext G
theorem Y72 {E:Ls}{p1:Int}{r:Int}(h:Y4Y E p1=some r):Ct Tryz.prog 118 [S E,I p1] (fun M=>True) (fun v M=>v=I r):=by
 refine Ct.of Tryz.func118 (enters Tryz.func118 Kr G) G G G ?_;intro w0 M0 H hp;unfold Y4Y at h;refine SQ (RG (AS G G (NL (TN (SQ (RG (AS G G (NL (TN (SQ (SQ (RG (MV G G (ST (Ex.max2 G G) G (AS G G (NL (TN ?_)))))))))))))))));obtain⟨o1,f,h⟩:=bnd h;refine q07 (fun e w =>∃(n3:Int) (M:Mem),e=[(5,I n3)]/\St w0 M0 M [] w/\some n3=some o1) [] ?_ ?_ (trivial)
 ·
  refine BL (q0p (fun m e w =>∃(O:Int) (U:Int) (M:Mem),e=[(0,S E),(5,I O),(6,I U)]/\St w0 M0 M [] w/\Y29 E m O U=some o1) FU [(0,_),(5,_),(6,_)] ⟨rfl,rfl,rfl,trivial⟩ ⟨_,_,_,rfl,H,f⟩ ?_);rintro m6 e w ⟨O,U,M,rfl,H,f⟩;rcases m6 with _|m6
  · rw[Y29] at f;cases f
  rw[Y29] at f;refine SQ (SQ (RG (MV G G (MV G G (ST (q0q Tu9 G) G (ST (q0n G G) G (NL (TN ?_))))))));refine CB (p:=U<(E.length:Int)) G (fun V=>?_) fun V=>?_
  ·
   rw[if_pos V] at f;refine SK (TN (SQ (BL (SQ (SQ ?_)))));obtain⟨o8,u,f⟩:=bnd f;refine q07 (fun e w =>∃(Y:Bool) (M:Mem),e=[(0,S E),(5,I O),(6,I U),(26,Value.bool Y)]/\St w0 M0 M [] w/\some Y=some o8) [] ?_ ?_ (trivial)
   ·
    obtain⟨al,a2,u⟩:=bnd u;obtain⟨ac,a8,u⟩:=bnd u;refine RG (MV G G (MV G G (ST (q0G Tu9 G G a2) G (q03 H (Y3i a8) G trivial (q00 G) G ?_))));intro am M w H ad hR;obtain rfl:=hR;refine ST (q0y G) G (MV G G ?_);rcases ac with _|_
    ·
     rw[if_neg l00] at u;refine q06 5 G G (PT G G G (NL ?_));exact MN ⟨_,_,G,H,u⟩
    rw[if_pos rfl] at u;obtain⟨an,a3,u⟩:=bnd u;obtain⟨ao,a4,u⟩:=bnd u;obtain⟨ap,a9,u⟩:=bnd u;refine SG (q02 G) G G G (SG (q02 G) G G G (SG (q0W G G a3) G G G (SG (q0G Tu9 G G a4) G G G (q03 H (Y3i a9) G trivial (q0h G G G) G ?_))));intro aq M w H ad hR;obtain rfl:=hR;refine PF G G G (NL ?_);exact MN ⟨_,_,G,H,u⟩
   rintro e w ⟨Y,M,rfl,H,ae⟩;obtain rfl:=oI ae;refine TN ?_;refine q09 G (fun J=>?_) (fun J=>?_)
   ·
    subst J;rw[if_pos rfl] at f;refine q0o (q04 (q0g (TN ?_)));obtain⟨ar,a5,f⟩:=bnd f;refine RG (MV G G (ST (q0b G G a5) G (AS G G (NL ?_))));exact AG m6 ⟨_,_,_,G,H,f⟩ (l04 _)
   subst J;rw[if_neg l00] at f;refine SK (TN (SQ (SQ ?_)));obtain⟨ah,N,f⟩:=bnd f;refine q07 (fun e w =>∃(Z:Bool) (M:Mem),e=[(0,S E),(5,I O),(6,I U),(32,Value.bool Z)]/\St w0 M0 M [] w/\some Z=some ah) [] ?_ ?_ (trivial)
   ·
    by_cases z:(0:Int)<O
    ·
     rw[if_pos z] at N;refine RG (MV G G (DT z (q0H G G) G (MV G G (SG (q02 G) G G G (SG (q0H G G) G G G (PT G G G (NL ?_)))))));exact MN ⟨_,_,G,H,N⟩
    rw[if_neg z] at N;refine RG (MV G G (DF z (q0H G G) G (MV G G (GF G G G (GF G G G (PF G G G (NL ?_)))))));exact MN ⟨_,_,G,H,N⟩
   rintro e w ⟨Z,M,rfl,H,ai⟩;obtain rfl:=oI ai;refine TN ?_;refine q09 G (fun K=>?_) (fun K=>?_)
   ·
    subst K;rw[if_pos rfl] at f;refine q0o (q04 (WQ.exitOut G (q04 (q04 (q0g ?_)))));exact MN ⟨_,_,G,H,f⟩
   subst K;rw[if_neg l00] at f;refine SK (TN (RG (MV G G (AS G G (NL (IB (TN ?_)))))));obtain⟨au,a6,f⟩:=bnd f;refine RG (MV G G (ST (q0b G G a6) G (AS G G (NL ?_))));exact AG m6 ⟨_,_,_,G,H,f⟩ (l04 _)
  rw[if_neg V] at f;refine q0o (q04 (q04 (q0g ?_)));exact MN ⟨_,_,G,H,f⟩
 rintro e w ⟨n3,M,rfl,H,aj⟩;obtain rfl:=oI aj;refine TN (SQ (RG (MV G G (AS G G (NL (TN (RT ?_)))))));obtain rfl:=oI h;exact q08 G G H.ext G
theorem Y5u {p0:Ls}{p1:Ls}{r:Z0L}(h:Y42 p0 p1=some r):Ct Tryz.prog 90 [S p0,S p1] (fun M=>True) (fun v M =>∃x0,v=Value.tuple #[x0,Value.agg #[I r.2.1,I r.2.2]]/\Sl M encS x0 r.1):=by
 refine Ct.of Tryz.func90 (enters Tryz.func90 Kr G) G G G ?_;intro w0 M0 H hp;unfold Y42 at h;refine SQ (RG (AS G G (q0f [_,_] H Tz33 G (q00 G) G ?_)));intro J w H;refine NL (TN (SQ (BL (SQ ?_))));obtain⟨b1,bb,h⟩:=bnd h;refine RG (MV G G (q03 H (Y7a bb) G trivial (q00 G) G ?_));intro bi M w H z hR;obtain rfl:=hR;refine ST (q0y G) G (AS G G (NL (TN ?_)));refine q09 G (fun K=>?_) (fun K=>?_)
 ·
  replace K:b1=false:=by simpa using K
  subst K;rw[if_neg l00] at h;refine SQ ?_;obtain⟨⟨n4,n5⟩,bc,h⟩:=bnd h;try dsimp only at h
  refine RG (q03 H (Y01 bc) G trivial (q00 G) G ?_);intro bj M w H z hR;try dsimp only at hR
  obtain rfl:=hR;refine AS G G (q05 [_,_] H G G G Ku Ts33 G Kf Kf (q00 G) ?_);intro w H;refine NL (TN (RT ?_));obtain rfl:=oI h;exact q0M G G ⟨_,G,H.loadAgg Km Ta33 Ts33 Kf⟩ H.ext (⟨_,G,q0L _ _⟩)
 replace K:b1=true:=by simpa using K
 subst K;rw[if_pos rfl] at h;refine SQ (RG (MV G G (ST (q0q Tu9 G) G (ST (q0H G G) G (AS G G (NL (TN ?_)))))));refine CB (p:=(4000:Int)<(p1.length:Int)) G (fun a6=>?_) fun a6=>?_
 ·
  rw[if_pos a6] at h;refine SQ ?_;obtain⟨⟨n8,n9⟩,ax,h⟩:=bnd h;try dsimp only at h
  refine RG (q03 H (Y01 ax) G trivial (q00 G) G ?_);intro bm M w H z hR;try dsimp only at hR
  obtain rfl:=hR;refine AS G G (q05 [_,_] H G G G Ku Ts33 G Kf Kf (q00 G) ?_);intro w H;refine NL (TN (RT ?_));obtain rfl:=oI h;exact q0M G G ⟨_,G,H.loadAgg Km Ta33 Ts33 Kf⟩ H.ext (⟨_,G,q0L _ _⟩)
 rw[if_neg a6] at h;refine SQ ?_;obtain⟨ar,ay,h⟩:=bnd h;refine RG (MV G G (q03 H (Y71 ay) G trivial (q00 G) G ?_));intro bn M w H z hR;obtain rfl:=hR;refine ST (q0y G) G (AS G G (NL (TN ?_)));refine q09 G (fun E=>?_) (fun E=>?_)
 ·
  replace E:ar=false:=by simpa using E
  subst E;rw[if_neg l00] at h;refine SQ ?_;obtain⟨⟨bo,bp⟩,az,h⟩:=bnd h;try dsimp only at h
  refine RG (q03 H (Y01 az) G trivial (q00 G) G ?_);intro bq M w H z hR;try dsimp only at hR
  obtain rfl:=hR;refine AS G G (q05 [_,_] H G G G Ku Ts33 G Kf Kf (q00 G) ?_);intro w H;refine NL (TN (RT ?_));obtain rfl:=oI h;exact q0M G G ⟨_,G,H.loadAgg Km Ta33 Ts33 Kf⟩ H.ext (⟨_,G,q0L _ _⟩)
 replace E:ar=true:=by simpa using E
 subst E;rw[if_pos rfl] at h;refine SK (IB (TN (SQ ?_)));obtain⟨br,aj,h⟩:=bnd h;obtain⟨bs,ak,h⟩:=bnd h;obtain⟨bt,al,h⟩:=bnd h;refine RG (MV G G (ST (q0r G G aj) G (MV G G (ST (q0r G G ak) G (MV G G (ST (q0q Tu9 G) G (ST (q0b G G al) G (AS G G (AS G G (NL (TN (SQ (RG (AS G G (NL (TN (SQ ?_)))))))))))))))));obtain⟨au,f,h⟩:=bnd h;refine q07 (fun e w =>∃(a0:Ls) (a1:List Ls) (a7:Value) (M:Mem),e=[(5,ptr J 0),(6,S a0),(8,a7)]/\St w0 M0 M [.blk J (.cells #[I 0,I 0] 33),RowI 9 encS a7 a1] w/\some (a0,a1)=some au) [] ?_ ?_ (trivial)
 ·
  refine BL ?_;replace H:=H.newRow 9 encS;refine q0p (fun m e w =>∃(a2:Ls) (a8:Int) (a3:List Ls) (a9:Value) (M:Mem),e=[(5,ptr J 0),(6,S a2),(7,I a8),(8,a9)]/\St w0 M0 M [.blk J (.cells #[I 0,I 0] 33),RowI 9 encS a9 a3] w/\Y2H  m a2 a8 a3=some au) FU [(5,_),(6,_),(7,_),(8,_)] ⟨rfl,rfl,rfl,rfl,trivial⟩ ⟨_,_,_,_,_,rfl,(H.pick (L':=[.blk J (.cells #[I 0,I 0] 33),RowI 9 encS (Value.slice none 0 0) []]) Kp),f⟩ ?_;rintro aa e w ⟨a2,a8,a3,a9,M,rfl,H,f⟩;rcases aa with _|aa
  · rw[Y2H] at f;cases f
  rw[Y2H] at f;refine SQ (SQ (RG (MV G G (ST (q0q Tu9 G) G (ST (q0H G G) G (NL (TN ?_)))))));refine CB (p:=(78:Int)<(a2.length:Int)) G (fun U=>?_) fun U=>?_
  ·
   rw[if_pos U] at f;refine SK (TN (BL (SQ ?_)));obtain⟨bd,b0,f⟩:=bnd f;refine RG (MV G G (MV G G (q03 H (Y72 b0) G trivial (q00 G) G ?_)));intro bu M w H z hR;obtain rfl:=hR;refine AS G G (NL (TN (SQ (SQ (RG (MV G G (ST (q0j G G) G (NL (TN ?_)))))))));refine CB (p:=bd=(0:Int)) G (fun V=>?_) fun V=>?_
   ·
    rw[if_pos V] at f;refine q0o (q04 (WQ.exitOut G (q04 (q0g ?_))));exact MN ⟨_,_,_,_,G,H,f⟩
   rw[if_neg V] at f;refine SK (TN (SQ ?_));obtain⟨be,am,f⟩:=bnd f;obtain⟨bv,an,f⟩:=bnd f;refine RG (MV G G (MV G G (MV G G (ST (Ex.sliceH Tu9 G G am) G (q1g (enc:=encS) xty45 ([be]:List Ls) H G Kf (fun _=>G) G G (q00 G) G ?_)))));intro bw M w H z b2;refine q1d (l:=a3) xty45 G (fun _=>G) H G (fun _=>by repeat first|exact .head|apply Upd.tail) G (b2) an (q00 G) G ?_;intro bx w H;refine AS G G (NL (TN ?_));obtain⟨bz,ao,f⟩:=bnd f;refine RG (MV G G (MV G G (ST (Ex.sliceL Tu9 G G ao) G (AS G G (AS G G (NL (IB ?_)))))));exact AG aa ⟨_,_,_,_,_,G,H,f⟩ (l04 _)
  rw[if_neg U] at f;refine q0o (q04 (q04 (q0g ?_)));exact MN ⟨_,_,_,_,G,H,f⟩
 rintro e w ⟨a0,a1,a7,M,rfl,H,bf⟩;obtain rfl:=oI bf;try dsimp only at h
 refine TN (SQ ?_);obtain⟨N,ap,h⟩:=bnd h;refine RG (MV G G (MV G G (q1g (enc:=encS) xty45 ([a0]:List Ls) H G Kf (fun _=>G) G G (q00 G) G ?_)));intro c0 M w H z b3;refine q1d (l:=a1) xty45 G (fun _=>G) H G (fun _=>by repeat first|exact .head|apply Upd.tail) G (b3) ap (q00 G) G ?_;intro O w H;refine AS G G (NL (TN (SQ (SQ (RG (MV G G (ST (q1w (l:=N) Tu45 H Km G) G ?_)))))));refine MV G G (NL (TN ?_));obtain⟨av,u,h⟩:=bnd h;refine q07 (fun e w =>∃(ab:Int) (ac:Int) (M:Mem),e=[(5,ptr J 0),(8,O)]/\St w0 M0 M [.blk J (.cells #[I ab,I ac] 33),RowI 9 encS O N] w/\some (.inl (ab,ac))=some av) [] ?_ ?_ (trivial)
 ·
  refine BL (q0p (fun m e w =>∃(ad:Int) (ae:Int) (a4:Int) (M:Mem),e=[(5,ptr J 0),(8,O),(55,O),(56,I (N.length:Int)),(57,I a4)]/\St w0 M0 M [.blk J (.cells #[I ad,I ae] 33),RowI 9 encS O N] w/\Y2I N m ad ae a4=some av) FU [(5,_),(8,_),(55,_),(56,_),(57,_)] ⟨rfl,rfl,rfl,rfl,rfl,trivial⟩ ⟨_,_,_,_,rfl,H,u⟩ ?_);rintro ah e w ⟨ad,ae,a4,M,rfl,H,u⟩;rcases ah with _|ah
  · rw[Y2I] at u;cases u
  rw[Y2I] at u;refine SQ (RG (ST (q0n G G) G (NL (TN (SQ ?_)))));refine CB (p:=a4<(N.length:Int)) G (fun Y=>?_) fun Y=>?_
  ·
   rw[if_pos Y] at u;refine SK (TN (SQ (BL (SQ ?_))));obtain⟨bg,a5,u⟩:=bnd u;refine RG (MV G G (WR.idxRowC (l:=N) H Tu45 Ts9 Km G G a5 (q00 G) G ?_));intro c1 b4;refine ST (Ex.loadRowC H G b4 Km a5 Ta9) G ?_;refine AS G G (AS G G (NL (TN (SQ (RG (MV G G (ST (q0q Tu9 G) G (ST (q0H G G) G (NL (TN ?_))))))))));refine CB (p:=(998:Int)<(bg.length:Int)) G (fun Z=>?_) fun Z=>?_
   ·
    rw[if_pos Z] at u;refine SQ ?_;obtain⟨⟨c2,c3⟩,b5,u⟩:=bnd u;try dsimp only at u
    refine RG (MV G G (q03 H (Y01 b5) G trivial (q00 G) G ?_));intro c4 M w H z hR;try dsimp only at hR
    obtain rfl:=hR;refine AS G G (q05 [_,_] H G G G Ku Ts33 G Kf Kf (q00 G) ?_);intro w H;refine NL (TN (RT ?_));obtain rfl:=oI u;try dsimp only at h
    obtain rfl:=oI h;exact q0M G G ⟨_,G,H.loadAgg Km Ta33 Ts33 Kf⟩ H.ext (⟨_,G,q0L _ _⟩)
   rw[if_neg Z] at u;refine SK (IB (TN ?_));obtain⟨c5,aq,u⟩:=bnd u;refine RG (ST (q0b G G aq) G (MV G G (NL ?_)));exact AG ah ⟨_,_,_,_,G,H,u⟩ (l04 _)
  rw[if_neg Y] at u;refine q0o (q04 (q04 (q0g ?_)));exact MN ⟨_,_,_,G,H,u⟩
 rintro e w ⟨ab,ac,M,rfl,H,bh⟩;obtain rfl:=oI bh;try dsimp only at h
 refine TN (SQ ?_);obtain⟨⟨c6,c7⟩,b6,h⟩:=bnd h;try dsimp only at h
 refine RG (MV G G (q03 H (Y0i b6) G trivial (q00 G) G ?_));intro c8 M w H z hR;try dsimp only at hR
 obtain rfl:=hR;refine AS G G (q05 [_,_] H G G G Ku Ts33 G Kf Kf (q00 G) ?_);intro w H;refine NL (TN (RT ?_));obtain⟨M,z,b7,H⟩:=H.freezeRow (v:=O) (enc:=encS) (t:=9) Kv;obtain rfl:=oI h;exact q0M G G ⟨_,G,H.loadAgg Km Ta33 Ts33 Kf⟩ H.ext (⟨_,G,b7⟩)
theorem Y3H {J:List Z07}{O:Value}{r:Z0a}(h:Y2l J=some r):Ct Tryz.prog 56 [O] (fun M=>SlS M 2 xenc63 O J) (fun v M=>v=Value.agg #[I r.1,I r.2]):=by
 refine Ct.of Tryz.func56 (enters Tryz.func56 Kr G) G G G ?_;intro w0 M0 H hp;have u:=hp;unfold Y2l at h;refine SQ (RG (q0f [_,_] H Tz33 G (q00 G) G ?_));intro E w H;refine NL (TN (SQ (SQ (RG (MV G G (ST (q0O Tu25 u G) G (ST (q0H G G) G (NL (TN ?_)))))))));refine CB (p:=(60:Int)<(J.length:Int)) G (fun Y=>?_) fun Y=>?_
 ·
  rw[if_pos Y] at h;refine SQ ?_;obtain⟨⟨n2,n3⟩,ac,h⟩:=bnd h;try dsimp only at h
  refine RG (q03 H (Y01 ac) G trivial (q00 G) G ?_);intro ak M w H z hR;try dsimp only at hR
  obtain rfl:=hR;refine q05 [_,_] H G G G Ku Ts33 G Kf Kf (q00 G) ?_;intro w H;refine NL (TN (RT ?_));obtain rfl:=oI h;exact q08 G ⟨_,G,H.loadAgg Km Ta33 Ts33 Kf⟩ H.ext G
 rw[if_neg Y] at h;refine SK (TN (SQ (SQ (RG (MV G G (ST (q0O Tu25 u G) G (MV G G (NL (TN ?_)))))))));obtain⟨o5,f,h⟩:=bnd h;refine q07 (fun e w =>∃(n7:Int) (n8:Int) (M:Mem),e=[(2,ptr E 0)]/\St w0 M0 M [.blk E (.cells #[I n7,I n8] 33)] w/\some (.inl (n7,n8))=some o5) [] ?_ ?_ (trivial)
 ·
  refine BL (q0p (fun m e w =>∃(n9:Int) (U:Int) (V:Int) (M:Mem),e=[(2,ptr E 0),(11,O),(12,I (J.length:Int)),(13,I V)]/\St w0 M0 M [.blk E (.cells #[I n9,I U] 33)] w/\SlS M 2 xenc63 O J/\Y12 J m n9 U V=some o5) FU [(2,_),(11,_),(12,_),(13,_)] ⟨rfl,rfl,rfl,rfl,trivial⟩ ⟨_,_,_,_,rfl,H,u,f⟩ ?_);rintro Z e w ⟨n9,U,V,M,rfl,H,u,f⟩;rcases Z with _|Z
  · rw[Y12] at f;cases f
  rw[Y12] at f;refine SQ (RG (ST (q0n G G) G (NL (TN (SQ ?_)))));refine CB (p:=V<(J.length:Int)) G (fun K=>?_) fun K=>?_
  ·
   rw[if_pos K] at f;refine SK (TN (SQ (BL (SQ ?_))));obtain⟨al,a1,f⟩:=bnd f;obtain⟨aj,am,a5,a6⟩:=u.atC a1;refine RG (MV G G (ST (q0w a5 Tu25 Ts63 G G) G (ST (q0C H G a6 Ta63 Ts63 Kf) G ?_)));refine q0f [_,_] H Tz63 G (q00 G) G ?_;intro an w H;refine AS G G (q05 [_,_] H G G G Ku Ts63 G Kf Kf (q00 G) ?_);intro w H;refine NL (TN (SQ ?_));obtain⟨⟨ao,⟨ap,aq⟩⟩,a7,f⟩:=bnd f;try dsimp only at f
   refine RG (ST (q01 Tu63 G Ts9 Dc G) G (ST (XL H Ta9) G ?_));refine ST (q01 Tu63 G Ts9 Dc G) G (ST (XL H Ta9) G ?_);refine q03 H (Y5u a7) G trivial (q00 G) G ?_;intro ar M w H z hR;replace u:=u.mono z;try dsimp only at hR
   obtain⟨ah,rfl,ai⟩:=hR;refine MV G G (ST (q0e G G) G (ST (q0e G G) G (q0f [_,_] H Tz33 G (q00 G) G ?_)));intro au w H;refine AS G G (q05 [_,_] H G G G Ku Ts33 G Kf Kf (q00 G) ?_);intro w H;refine NL (TN (SQ ?_));obtain⟨av,a8,f⟩:=bnd f;refine RG (ST (q0a H G Km Ta33 Ts33 Kf) G ?_);refine q03 H (Y05 a8) G trivial (q00 G) G ?_;intro aw M w H z hR;replace u:=u.mono z;obtain rfl:=hR;refine NL (TN ?_);refine q09 G (fun N=>?_) (fun N=>?_)
   ·
    subst N;rw[if_pos rfl] at f;refine SQ ?_;obtain⟨⟨ax,ay⟩,a9,f⟩:=bnd f;try dsimp only at f
    refine RG (ST (q01 Tu33 G Ts3 Dc G) G (ST (XL H Ta3) G ?_));refine MV G G (q03 H (Y01 a9) G trivial (q00 G) G ?_);intro az M w H z hR;try dsimp only at hR
    obtain rfl:=hR;refine q05 [_,_] H G G G Ku Ts33 G Kf Kf (q00 G) ?_;intro w H;refine NL (TN (RT ?_));obtain rfl:=oI f;try dsimp only at h
    obtain rfl:=oI h;exact q08 G ⟨_,G,H.loadAgg Km Ta33 Ts33 Kf⟩ H.ext G
   subst N;rw[if_neg l00] at f;refine SK (IB (TN ?_));obtain⟨b0,a2,f⟩:=bnd f;refine RG (ST (q0b G G a2) G (MV G G (NL ?_)));exact AG Z ⟨_,_,_,_,G,(H.pick (L':=[.blk E (.cells #[I n9,I U] 33)]) Kp),u,f⟩ (l04 _)
  rw[if_neg K] at f;refine q0o (q04 (q04 (q0g ?_)));exact MN ⟨_,_,_,G,H,f⟩
 rintro e w ⟨n7,n8,M,rfl,H,ae⟩;obtain rfl:=oI ae;try dsimp only at h
 refine TN (SQ ?_);obtain⟨⟨b1,b2⟩,aa,h⟩:=bnd h;try dsimp only at h
 refine RG (q03 H (Y0i aa) G trivial (q00 G) G ?_);intro b3 M w H z hR;try dsimp only at hR
 obtain rfl:=hR;refine q05 [_,_] H G G G Ku Ts33 G Kf Kf (q00 G) ?_;intro w H;refine NL (TN (RT ?_));obtain rfl:=oI h;exact q08 G ⟨_,G,H.loadAgg Km Ta33 Ts33 Kf⟩ H.ext G
theorem Y59 {U:Z0G}{z:Value}{E:Value}{r:Ls}(h:Y39 U=some r):Ct Tryz.prog 57 [Value.agg #[z,E]] (fun M=>SlS M 2 xenc63 z U.1/\Sl M encB E U.2) (fun v M=>Sl M encB v r):=by
 refine Ct.of Tryz.func57 (enters Tryz.func57 Kr G) G G G ?_;intro w0 M0 H hp;obtain⟨u,f⟩:=hp;unfold Y39 at h;refine SQ (RG (q0I [_,_] H G G (q00 G) G ?_));intro V w H;refine AS G G (NL (TN (SQ (RG (AS G G (NL (TN (SQ (SQ (RG (ST (q01 Tu28 G Ts25 Dc G) G (ST (XL H Ta25) G ?_))))))))))));refine ST (q0O Tu25 u G) G (MV G G (NL (TN ?_)));obtain⟨o1,N,h⟩:=bnd h;refine q07 (fun e w =>∃(l4:Ls) (v5:Value) (M:Mem),e=[(1,ptr V 0),(3,v5)]/\St w0 M0 M [.blk V (.cells #[z,E] 28),RowI 5 encB v5 l4] w/\SlS M 2 xenc63 z U.1/\Sl M encB E U.2/\some l4=some o1) [] ?_ ?_ (trivial)
 ·
  refine BL ?_;replace H:=H.newRow 5 encB;refine q0p (fun m e w =>∃(l7:Ls) (v8:Value) (n9:Int) (M:Mem),e=[(1,ptr V 0),(3,v8),(11,z),(12,I (U.1.length:Int)),(13,I n9)]/\St w0 M0 M [.blk V (.cells #[z,E] 28),RowI 5 encB v8 l7] w/\SlS M 2 xenc63 z U.1/\Sl M encB E U.2/\Y1o U m l7 n9=some o1) FU [(1,_),(3,_),(11,_),(12,_),(13,_)] ⟨rfl,rfl,rfl,rfl,rfl,trivial⟩ ⟨_,_,_,_,rfl,(H.pick (L':=[.blk V (.cells #[z,E] 28),RowI 5 encB (Value.slice none 0 0) []]) Kp),u,f,N⟩ ?_;rintro ad e w ⟨l7,v8,n9,M,rfl,H,u,f,N⟩;rcases ad with _|ad
  · rw[Y1o] at N;cases N
  rw[Y1o] at N;refine SQ (RG (ST (q0n G G) G (NL (TN (SQ ?_)))));refine CB (p:=n9<(U.1.length:Int)) G (fun a2=>?_) fun a2=>?_
  ·
   rw[if_pos a2] at N;refine SK (TN (SQ (BL (SQ ?_))));obtain⟨bc,an,N⟩:=bnd N;obtain⟨ba,bd,ay,az⟩:=u.atC an;refine RG (ST (q0w ay Tu25 Ts63 G G) G (ST (q0C H G az Ta63 Ts63 Kf) G ?_));refine q0f [_,_] H Tz63 G (q00 G) G ?_;intro be w H;refine q05 [_,_] H G G G Ku Ts63 G Kf Kf (q00 G) ?_;intro w H;refine NL (TN (SQ ?_));obtain⟨⟨a4,⟨bf,bg⟩⟩,b0,N⟩:=bnd N;try dsimp only at N
   refine RG (ST (q01 Tu63 G Ts9 Dc G) G (ST (XL H Ta9) G ?_));refine ST (q01 Tu63 G Ts9 Dc G) G (ST (XL H Ta9) G ?_);refine q03 H (Y5u b0) G trivial (q00 G) G ?_;intro bh M w H O hR;replace u:=u.mono O;replace f:=f.mono O;try dsimp only at hR
   obtain⟨a5,rfl,K⟩:=hR;refine MV G G (ST (q0e G G) G (ST (q0e G G) G (q0f [_,_] H Tz33 G (q00 G) G ?_)));intro bi w H;refine AS G G (q05 [_,_] H G G G Ku Ts33 G Kf Kf (q00 G) ?_);intro w H;refine NL (TN (SQ (RG (MV G G (ST (q0V Tu45 K G) G (MV G G (NL (TN ?_))))))));obtain⟨av,J,N⟩:=bnd N;refine q07 (fun e w =>∃(ae:Ls) (ah:Value) (M:Mem),e=[(1,ptr V 0),(3,ah),(11,z),(12,I (U.1.length:Int)),(13,I n9)]/\St w0 M0 M [.blk V (.cells #[z,E] 28),RowI 5 encB ah ae] w/\SlS M 2 xenc63 z U.1/\Sl M encB E U.2/\some ae=some av) [] ?_ ?_ (trivial)
   ·
    refine BL ?_;refine q0p (fun m e w =>∃(a6:Ls) (ai:Value) (a7:Int) (M:Mem),e=[(1,ptr V 0),(3,ai),(11,z),(12,I (U.1.length:Int)),(13,I n9),(25,a5),(26,I (a4.length:Int)),(27,I a7)]/\St w0 M0 M [.blk V (.cells #[z,E] 28),RowI 5 encB ai a6] w/\SlS M 2 xenc63 z U.1/\Sl M encB E U.2/\Sl M encS a5 a4/\Y1n a4 m a6 a7=some av) FU [(1,_),(3,_),(11,_),(12,_),(13,_),(25,_),(26,_),(27,_)] ⟨rfl,rfl,rfl,rfl,rfl,rfl,rfl,rfl,trivial⟩ ⟨_,_,_,_,rfl,(H.pick (L':=[.blk V (.cells #[z,E] 28),RowI 5 encB v8 l7]) Kp),u,f,K,J⟩ ?_;rintro aj e w ⟨a6,ai,a7,M,rfl,H,u,f,K,J⟩;rcases aj with _|aj
    · rw[Y1n] at J;cases J
    rw[Y1n] at J;refine SQ (RG (ST (q0n G G) G (NL (TN (SQ ?_)))));refine CB (p:=a7<(a4.length:Int)) G (fun a3=>?_) fun a3=>?_
    ·
     rw[if_pos a3] at J;refine SK (TN (SQ (BL (SQ ?_))));obtain⟨bj,ao,J⟩:=bnd J;obtain⟨bb,bm,b1,b2⟩:=K.atC ao;refine RG (ST (q0w b1 Tu45 Ts9 G G) G (ST (q0m H G b2 Ta9) G (AS G G (NL (TN ?_)))));obtain⟨b6,ap,J⟩:=bnd J;obtain⟨bn,aq,J⟩:=bnd J;refine RG (MV G G (MV G G (q0R (l:=a6) xty26 Tu9 H G (fun _=>by repeat first|exact .head|apply Upd.tail) G ap (q00 G) G ?_)));intro bo w H;refine q1g (enc:=encB) xty26 ([13,10]:Ls) H G Kf (fun _=>G) G G (q00 G) G ?_;intro bp M w H O b3;replace u:=u.mono O;replace K:=K.mono O;replace f:=f.mono O;refine q1d (l:=b6) xty26 G (fun _=>G) H G (fun _=>by repeat first|exact .head|apply Upd.tail) G (b3) aq (q00 G) G ?_;intro bq w H;refine AS G G (NL (IB (TN ?_)));obtain⟨br,ar,J⟩:=bnd J;refine RG (ST (q0b G G ar) G (MV G G (NL ?_)));exact AG aj ⟨_,_,_,_,G,H,u,f,K,J⟩ (l04 _)
    rw[if_neg a3] at J;refine q0o (q04 (q04 (q0g ?_)));exact MN ⟨_,_,_,G,H,u,f,J⟩
   rintro e w ⟨ae,ah,M,rfl,H,u,f,b7⟩;obtain rfl:=oI b7;refine IB (TN ?_);obtain⟨bs,au,N⟩:=bnd N;refine RG (ST (q0b G G au) G (MV G G (NL ?_)));exact AG ad ⟨_,_,_,_,G,H,u,f,N⟩ (l04 _)
  rw[if_neg a2] at N;refine q0o (q04 (q04 (q0g ?_)));exact MN ⟨_,_,_,G,H,u,f,N⟩
 rintro e w ⟨l4,v5,M,rfl,H,u,f,b8⟩;obtain rfl:=oI b8;refine TN (SQ ?_);obtain⟨ak,Y,h⟩:=bnd h;obtain⟨a8,Z,h⟩:=bnd h;refine q0Y (fun e w =>∃(a9:Value) (M:Mem),e=[(2,a9)]/\St w0 M0 M [RowI 5 encB a9 a8] w) ?_ ?_
 ·
  refine q0v (m:=7) G G H ?_;intro w H;refine TK 0 G (fun _=>q02 G) G (TK 3 G (fun _=>q01 Tu28 G Ts26 Dc G) G ?_);refine q0F (i:=1) (j:=4) Kr G G ?_ ?_
  ·
   refine q1g (enc:=encB) xty26 ([13,10]:Ls) H G Kf (fun _=>G) G G (q00 G) G ?_;intro b9 M w H O a0;replace f:=f.mono O;refine NA ?_;refine q0F (i:=2) (j:=4) Kr G G ?_ ?_
   ·
    refine q1d (l:=l4) xty26 G (fun _=>G) H G (fun _=>by repeat first|exact .head|apply Upd.tail) G (a0) Y (q00 G) G ?_;intro aw w H;refine NA (q0i (fuel:=0) [4,5,6] G Kr (ST (XL H Ta26) G ?_));refine q1d (l:=ak) xty26 G (fun _=>G) H G (fun _=>by repeat first|exact .head|apply Upd.tail) G (f) Z (q00 G) G ?_;intro a1 w H;refine AS G G (NA (q0d Kr ?_));exact MP ⟨_,_,G,(H.pick (L':=[RowI 5 encB a1 a8]) Kp)⟩
   refine ST (XL H Ta26) G ?_;refine NA (q0i (fuel:=0) [2,5,6] G Kr (q1d (l:=l4) xty26 G (fun _=>G) H G (fun _=>by repeat first|exact .head|apply Upd.tail) G (a0) Y (q00 G) G ?_));intro aw w H;refine q1d (l:=ak) xty26 G (fun _=>G) H G (fun _=>by repeat first|exact .head|apply Upd.tail) G (f) Z (q00 G) G ?_;intro a1 w H;refine AS G G (NA (q0d Kr ?_));exact MP ⟨_,_,G,(H.pick (L':=[RowI 5 encB a1 a8]) Kp)⟩
  refine ST (XL H Ta26) G ?_;refine NA (q0i (fuel:=0) [1,2,5,6] G Kr (q1g (enc:=encB) xty26 ([13,10]:Ls) H G Kf (fun _=>G) G G (q00 G) G ?_));intro b9 M w H O a0;replace f:=f.mono O;refine q1d (l:=l4) xty26 G (fun _=>G) H G (fun _=>by repeat first|exact .head|apply Upd.tail) G (a0) Y (q00 G) G ?_;intro aw w H;refine q1d (l:=ak) xty26 G (fun _=>G) H G (fun _=>by repeat first|exact .head|apply Upd.tail) G (f) Z (q00 G) G ?_;intro a1 w H;refine AS G G (NA (q0d Kr ?_));exact MP ⟨_,_,G,(H.pick (L':=[RowI 5 encB a1 a8]) Kp)⟩
 rintro e w ⟨a9,M,rfl,H⟩;refine TN (RT ?_);obtain⟨M,O,b4,H⟩:=H.freezeRow (v:=a9) (enc:=encB) (t:=5) Kv;obtain rfl:=oI h;exact q08 G G H.ext b4
theorem Y73 {O:Ls}{E:Value}{r:Int}(h:Y5y O=some r):Ct Tryz.prog 91 [E] (fun M=>Sl M encB E O) (fun v M=>v=I r):=by
 refine Ct.of Tryz.func91 (enters Tryz.func91 Kr G) G G G ?_;intro w0 M0 H hp;have u:=hp;unfold Y5y at h;refine SQ (RG (AS G G (NL (TN (SQ (RG (AS G G (NL (TN (SQ (SQ (RG (AS G G (NL (TN ?_)))))))))))))));obtain⟨o1,f,h⟩:=bnd h;refine q07 (fun e w =>∃  (M:Mem),e=[]/\St w0 M0 M [] w/\some (.inl ())=some o1) [] ?_ ?_ (trivial)
 ·
  refine BL (q0p (fun m e w =>∃(n3:Int) (n4:Int) (M:Mem),e=[(0,E),(3,I n3),(4,I n4)]/\St w0 M0 M [] w/\Sl M encB E O/\Y2a O m n3 n4=some o1) FU [(0,_),(3,_),(4,_)] ⟨rfl,rfl,rfl,trivial⟩ ⟨_,_,_,rfl,H,u,f⟩ ?_);rintro m5 e w ⟨n3,n4,M,rfl,H,u,f⟩;rcases m5 with _|m5
  · rw[Y2a] at f;cases f
  rw[Y2a] at f;refine SQ (SQ (RG (MV G G (MV G G (ST (q0V Tu26 u G) G (ST (q0n G G) G (NL (TN ?_))))))));refine CB (p:=n4<(O.length:Int)) G (fun a3=>?_) fun a3=>?_
  ·
   rw[if_pos a3] at f;refine SK (TN (SQ (BL (SQ ?_))));obtain⟨U,ah,f⟩:=bnd f;obtain⟨aw,az,ai,aj⟩:=u.atC ah;refine RG (MV G G (MV G G (ST (q0w ai Tu26 Ts5 G G) G (ST (q0m H G aj Ta5) G (AS G G (NL (TN (SQ (SQ ?_)))))))));obtain⟨o8,z,f⟩:=bnd f;refine q07 (fun e w =>∃(a4:Bool) (M:Mem),e=[(0,E),(3,I n3),(4,I n4),(5,encB U),(32,Value.bool a4)]/\St w0 M0 M [] w/\Sl M encB E O/\some a4=some o8) [] ?_ ?_ (trivial)
   ·
    by_cases J:U=13
    ·
     rw[if_pos J] at z;obtain⟨an,a8,z⟩:=bnd z;refine RG (MV G G (DT J (q0P (c:=U) (d:=13) G G) G (MV G G (SG (q02 G) G G G (SG (q0b G G a8) G G G (SG (q02 G) G G G (SG (q0V Tu26 u G) G G G ?_)))))));by_cases K:an<(O.length:Int)
     ·
      rw[if_pos K] at z;obtain⟨b0,a9,z⟩:=bnd z;obtain⟨ao,aa,z⟩:=bnd z;obtain⟨ay,b1,ak,al⟩:=u.atC aa;refine DU K (q0n G G) G G G (PT G G G (MV G G (SG (q02 G) G G G (SG (q02 G) G G G (SG (q0b G G a9) G G G (SG (q0w ak Tu26 Ts5 G G) G G G (SG (q0m H G al Ta5) G G G (SG (q0P (c:=ao) (d:=10) G G) G G G (PT G G G (NL ?_))))))))));exact MN ⟨_,_,G,H,u,z⟩
     rw[if_neg K] at z;refine DG K (q0n G G) G G G (PT G G G (MV G G (q06 6 G G (PF G G G (NL ?_)))));exact MN ⟨_,_,G,H,u,z⟩
    rw[if_neg J] at z;refine RG (MV G G (DF J (q0P (c:=U) (d:=13) G G) G (MV G G (q06 5 G G (PF G G G (MV G G (q06 6 G G (PF G G G (NL ?_)))))))));exact MN ⟨_,_,G,H,u,z⟩
   rintro e w ⟨a4,M,rfl,H,u,ap⟩;obtain rfl:=oI ap;refine TN ?_;refine q09 G (fun V=>?_) (fun V=>?_)
   ·
    subst V;rw[if_pos rfl] at f;refine SQ (RG (AS G G (NL (TN (SQ ?_)))));obtain⟨b2,ab,f⟩:=bnd f;refine RG (MV G G (ST (q0b G G ab) G (AS G G (NL (TN (q0o (q04 (q0g (TN ?_)))))))));obtain⟨b3,ac,f⟩:=bnd f;refine RG (MV G G (ST (q0b G G ac) G (AS G G (NL ?_))));exact AG m5 ⟨_,_,_,G,H,u,f⟩ (l04 _)
   subst V;rw[if_neg l00] at f;refine SK (TN (SQ (SQ ?_)));obtain⟨aq,a0,f⟩:=bnd f;refine q07 (fun e w =>∃(a5:Bool) (M:Mem),e=[(0,E),(3,I n3),(4,I n4),(40,Value.bool a5)]/\St w0 M0 M [] w/\Sl M encB E O/\some a5=some aq) [] ?_ ?_ (trivial)
   ·
    by_cases N:U=13
    ·
     rw[if_pos N] at a0;refine RG (MV G G (DT N (q0P (c:=U) (d:=13) G G) G (MV G G (GT G G G (GT G G G (PT G G G (NL ?_)))))));exact MN ⟨_,_,G,H,u,a0⟩
    rw[if_neg N] at a0;refine RG (MV G G (DF N (q0P (c:=U) (d:=13) G G) G (MV G G (SG (q02 G) G G G (SG (q0P (c:=U) (d:=10) G G) G G G (PF G G G (NL ?_)))))));exact MN ⟨_,_,G,H,u,a0⟩
   rintro e w ⟨a5,M,rfl,H,u,ar⟩;obtain rfl:=oI ar;refine TN ?_;refine q09 G (fun Y=>?_) (fun Y=>?_)
   ·
    subst Y;rw[if_pos rfl] at f;refine SQ (RG (AS G G (NL (TN (RT ?_)))));obtain rfl:=oI f;try dsimp only at h
    obtain rfl:=oI h;exact q08 G G H.ext G
   subst Y;rw[if_neg l00] at f;refine SK (TN (SQ ?_));obtain⟨au,ad,f⟩:=bnd f;refine RG (MV G G (ST (q0b G G ad) G (AS G G (NL (TN (SQ (RG (MV G G (ST (q0H G G) G (NL (TN ?_)))))))))));refine CB (p:=(998:Int)<au) G (fun Z=>?_) fun Z=>?_
   ·
    rw[if_pos Z] at f;refine SQ (RG (AS G G (NL (TN (RT ?_)))));obtain rfl:=oI f;try dsimp only at h
    obtain rfl:=oI h;exact q08 G G H.ext G
   rw[if_neg Z] at f;refine SK (IB (TN ?_));obtain⟨b4,ae,f⟩:=bnd f;refine RG (MV G G (ST (q0b G G ae) G (AS G G (NL ?_))));exact AG m5 ⟨_,_,_,G,H,u,f⟩ (l04 _)
  rw[if_neg a3] at f;refine q0o (q04 (q04 (q0g ?_)));exact MN ⟨_,G,H,f⟩
 rintro e w ⟨M,rfl,H,av⟩;obtain rfl:=oI av;try dsimp only at h
 refine TN (SQ (RG (AS G G (NL (TN (RT ?_))))));obtain rfl:=oI h;exact q08 G G H.ext G
theorem Y6H {N:Ls}{E:Value}{r:Z0a}(h:Y43 N=some r):Ct Tryz.prog 58 [E] (fun M=>Sl M encB E N) (fun v M=>v=Value.agg #[I r.1,I r.2]):=by
 refine Ct.of Tryz.func58 (enters Tryz.func58 Kr G) G G G ?_;intro w0 M0 H hp;have O:=hp;unfold Y43 at h;refine SQ (RG (q0f [_,_] H Tz33 G (q00 G) G ?_));intro Z w H;refine NL (TN (SQ (SQ ?_)));obtain⟨U,V,h⟩:=bnd h;refine RG (MV G G (q03 H (Y73 V) G (O) (q00 G) G ?_));intro v4 M w H f hR;obtain rfl:=hR;refine NL (TN (BL (SQ (RG (ST (q0j G G) G (AS G G (NL (TN ?_))))))));refine CB (p:=U=(11:Int)) G (fun u=>?_) fun u=>?_
 ·
  rw[if_pos u] at h;refine SQ ?_;obtain⟨⟨n4,n5⟩,Y,h⟩:=bnd h;try dsimp only at h
  refine RG (q03 H (Y01 Y) G trivial (q00 G) G ?_);intro v7 M w H f hR;try dsimp only at hR
  obtain rfl:=hR;refine q05 [_,_] H G G G Ku Ts33 G Kf Kf (q00 G) ?_;intro w H;refine NL (TN (RT ?_));obtain rfl:=oI h;exact q08 G ⟨_,G,H.loadAgg Km Ta33 Ts33 Kf⟩ H.ext G
 rw[if_neg u] at h;refine SQ (RG (ST (q0j G G) G (AS G G (NL (TN ?_)))));refine CB (p:=U=(1:Int)) G (fun z=>?_) fun z=>?_
 ·
  rw[if_pos z] at h;refine SQ ?_;obtain⟨⟨n8,n9⟩,J,h⟩:=bnd h;try dsimp only at h
  refine RG (q03 H (Y01 J) G trivial (q00 G) G ?_);intro a0 M w H f hR;try dsimp only at hR
  obtain rfl:=hR;refine q05 [_,_] H G G G Ku Ts33 G Kf Kf (q00 G) ?_;intro w H;refine NL (TN (RT ?_));obtain rfl:=oI h;exact q08 G ⟨_,G,H.loadAgg Km Ta33 Ts33 Kf⟩ H.ext G
 rw[if_neg z] at h;refine SK (IB (TN (SQ ?_)));obtain⟨⟨a1,a2⟩,K,h⟩:=bnd h;try dsimp only at h
 refine RG (q03 H (Y0i K) G trivial (q00 G) G ?_);intro a3 M w H f hR;try dsimp only at hR
 obtain rfl:=hR;refine q05 [_,_] H G G G Ku Ts33 G Kf Kf (q00 G) ?_;intro w H;refine NL (TN (RT ?_));obtain rfl:=oI h;exact q08 G ⟨_,G,H.loadAgg Km Ta33 Ts33 Kf⟩ H.ext G
theorem Y3n {U:Z0G}{E:Value}{J:Value}{r:Z0a}(h:Y1D U=some r):Ct Tryz.prog 34 [Value.agg #[E,J]] (fun M=>SlS M 2 xenc63 E U.1/\Sl M encB J U.2) (fun v M=>v=Value.agg #[I r.1,I r.2]):=by
 refine Ct.of Tryz.func34 (enters Tryz.func34 Kr G) G G G ?_;intro w0 M0 H hp;obtain⟨u,f⟩:=hp;unfold Y1D at h;refine SQ (RG (q0I [_,_] H G G (q00 G) G ?_));intro a3 w H;refine q0f [_,_] H Tz33 G (q00 G) G ?_;intro a4 w H;refine NL (TN (SQ (SQ ?_)));obtain⟨⟨n1,n2⟩,Z,h⟩:=bnd h;try dsimp only at h
 refine RG (ST (q01 Tu28 G Ts25 Dc G) G (ST (XL H Ta25) G ?_));refine q03 H (Y3H Z) G (u) (q00 G) G ?_;intro v6 M w H z hR;replace u:=u.mono z;replace f:=f.mono z;try dsimp only at hR
 obtain rfl:=hR;refine q0f [_,_] H Tz33 G (q00 G) G ?_;intro a5 w H;refine q05 [_,_] H G G G Ku Ts33 G Kf Kf (q00 G) ?_;intro w H;refine NL (TN (SQ ?_));obtain⟨b4,a0,h⟩:=bnd h;refine RG (ST (q0a H G Km Ta33 Ts33 Kf) G ?_);refine q03 H (Y05 a0) G trivial (q00 G) G ?_;intro v8 M w H z hR;replace u:=u.mono z;replace f:=f.mono z;obtain rfl:=hR;refine NL (TN ?_);refine q09 G (fun K=>?_) (fun K=>?_)
 ·
  subst K;rw[if_pos rfl] at h;refine SQ (RG (ST (q0a H G Km Ta33 Ts33 Kf) G ?_));refine q05 [_,_] H G G G Ku Ts33 G Kf Kf (q00 G) ?_;intro w H;refine NL (TN (RT ?_));obtain rfl:=oI h;exact q08 G ⟨_,G,H.loadAgg Km Ta33 Ts33 Kf⟩ H.ext G
 subst K;rw[if_neg l00] at h;refine SK (TN (SQ (SQ ?_)));obtain⟨l7,a1,h⟩:=bnd h;refine RG (ST (q0a H G Km Ta28 Ts28 Kf) G ?_);refine q03 H (Y59 a1) G ⟨u,f⟩ (q00 G) G ?_;intro a6 M w H z hR;replace f:=f.mono z;have O:=hR;refine ST (q0V Tu26 O G) G (ST (q0H G G) G (NL (TN ?_)));refine CB (p:=(12000:Int)<(l7.length:Int)) G (fun N=>?_) fun N=>?_
 ·
  rw[if_pos N] at h;refine SQ ?_;obtain⟨⟨a7,a8⟩,V,h⟩:=bnd h;try dsimp only at h
  refine RG (q03 H (Y01 V) G trivial (q00 G) G ?_);intro a9 M w H z hR;try dsimp only at hR
  obtain rfl:=hR;refine q05 [_,_] H G G G Ku Ts33 G Kf Kf (q00 G) ?_;intro w H;refine NL (TN (RT ?_));obtain rfl:=oI h;exact q08 G ⟨_,G,H.loadAgg Km Ta33 Ts33 Kf⟩ H.ext G
 rw[if_neg N] at h;refine SK (TN (SQ ?_));obtain⟨⟨aa,ab⟩,Y,h⟩:=bnd h;try dsimp only at h
 refine RG (ST (q01 Tu28 G Ts26 Dc G) G (ST (XL H Ta26) G ?_));refine q03 H (Y6H Y) G (f) (q00 G) G ?_;intro ac M w H z hR;try dsimp only at hR
 obtain rfl:=hR;refine q05 [_,_] H G G G Ku Ts33 G Kf Kf (q00 G) ?_;intro w H;refine NL (TN (RT ?_));obtain rfl:=oI h;exact q08 G ⟨_,G,H.loadAgg Km Ta33 Ts33 Kf⟩ H.ext G
theorem Y5a {O:Z0G}{J:Value}{K:Value}{r:Z0Q}(h:Y3a O=some r):Ct Tryz.prog 44 [Value.agg #[J,K]] (fun M=>SlS M 2 xenc63 J O.1/\Sl M encB K O.2) (fun v M =>∃V,v=Value.tuple #[V,Value.agg #[I r.2.1,I r.2.2]]/\Sl M encB V r.1):=by
 refine Ct.of Tryz.func44 (enters Tryz.func44 Kr G) G G G ?_;intro w0 M0 H hp;obtain⟨f,u⟩:=hp;unfold Y3a at h;refine SQ (RG (q0I [_,_] H G G (q00 G) G ?_));intro a1 w H;refine AS G G (q0f [_,_] H Tz33 G (q00 G) G ?_);intro a2 w H;refine NL (TN (SQ (SQ ?_)));obtain⟨⟨n1,n2⟩,Y,h⟩:=bnd h;try dsimp only at h
 refine RG (ST (q0a H G Km Ta28 Ts28 Kf) G ?_);refine q03 H (Y3n Y) G ⟨f,u⟩ (q00 G) G ?_;intro v6 M w H z hR;replace f:=f.mono z;replace u:=u.mono z;try dsimp only at hR
 obtain rfl:=hR;refine q0f [_,_] H Tz33 G (q00 G) G ?_;intro a3 w H;refine q05 [_,_] H G G G Ku Ts33 G Kf Kf (q00 G) ?_;intro w H;refine NL (TN (SQ ?_));obtain⟨b4,Z,h⟩:=bnd h;refine RG (ST (q0a H G Km Ta33 Ts33 Kf) G ?_);refine q03 H (Y05 Z) G trivial (q00 G) G ?_;intro v8 M w H z hR;replace f:=f.mono z;replace u:=u.mono z;obtain rfl:=hR;refine NL (TN ?_);refine q09 G (fun N=>?_) (fun N=>?_)
 ·
  subst N;rw[if_pos rfl] at h;refine SQ (q0v (m:=3) G G H ?_);intro w H;refine TK 1 G (fun _=>q1o G) G (q0i (fuel:=0) [0,2] G Kr (ST (q0a H G Km Ta33 Ts33 Kf) G ?_));refine q05 [_,_] H G G G Ku Ts33 G Kf Kf (q00 G) ?_;intro w H;refine NA (q0d Kr (TN (RT ?_)));obtain rfl:=oI h;exact q0M G G ⟨_,G,H.loadAgg Km Ta33 Ts33 Kf⟩ H.ext (⟨_,G,q0L _ _⟩)
 subst N;rw[if_neg l00] at h;refine SK (TN (SQ ?_));obtain⟨l7,a0,h⟩:=bnd h;obtain⟨⟨n9,a4⟩,U,h⟩:=bnd h;try dsimp only at h
 refine RG (ST (q0a H G Km Ta28 Ts28 Kf) G ?_);refine q03 H (Y59 a0) G ⟨f,u⟩ (q00 G) G ?_;intro a5 M w H z hR;have E:=hR;refine q03 H (Y0i U) G trivial (q00 G) G ?_;intro a6 M w H z hR;replace E:=E.mono z;try dsimp only at hR
 obtain rfl:=hR;refine AS G G (q05 [_,_] H G G G Ku Ts33 G Kf Kf (q00 G) ?_);intro w H;refine NL (TN (RT ?_));obtain rfl:=oI h;exact q0M G G ⟨_,G,H.loadAgg Km Ta33 Ts33 Kf⟩ H.ext (⟨_,G,E⟩)
theorem Y6S {f:Ls}{r:Bool}(h:Y4B f=some r):Ct Tryz.prog 169 [S f] (fun M=>True) (fun v M=>v=Value.bool r):=by
 refine Ct.of Tryz.func169 (enters Tryz.func169 Kr G) G G G ?_;intro U M0 H hp;unfold Y4B at h;refine SQ (RG (AS G G (NL (TN (SQ ?_)))));obtain⟨⟨V,⟨Y,Z⟩⟩,u,h⟩:=bnd h;try dsimp only at h
 refine RG (MV G G (q03 H (Y5u u) G trivial (q00 G) G ?_));intro v7 M w H z hR;try dsimp only at hR
 obtain⟨J,rfl,K⟩:=hR;refine MV G G (ST (q0e G G) G (ST (q0e G G) G (q0f [_,_] H Tz33 G (q00 G) G ?_)));intro N w H;refine AS G G (q05 [_,_] H G G G Ku Ts33 G Kf Kf (q00 G) ?_);intro w H;refine NL (TN (SQ ?_));obtain⟨b5,E,h⟩:=bnd h;refine RG (ST (q0a H G Km Ta33 Ts33 Kf) G ?_);refine q03 H (Y05 E) G trivial (q00 G) G ?_;intro O M w H z hR;obtain rfl:=hR;refine ST (q0y G) G (AS G G (NL (TN (RT ?_))));obtain rfl:=oI h;exact q08 G G H.ext G
theorem Y6I {N:List Z07}{O:Ls}{E:Value}{r:Z0a}(h:Y4O N O=some r):Ct Tryz.prog 153 [E,S O] (fun M=>SlS M 2 xenc63 E N) (fun v M=>v=Value.agg #[I r.1,I r.2]):=by
 refine Ct.of Tryz.func153 (enters Tryz.func153 Kr G) G G G ?_;intro w0 M0 H hp;have U:=hp;unfold Y4O at h;refine SQ (RG (q0f [_,_] H Tz33 G (q00 G) G ?_));intro a1 w H;refine NL (TN (SQ (SQ ?_)));obtain⟨⟨n1,n2⟩,V,h⟩:=bnd h;try dsimp only at h
 refine RG (MV G G (q03 H (Y3H V) G (U) (q00 G) G ?_));intro v7 M w H u hR;try dsimp only at hR
 obtain rfl:=hR;refine q0f [_,_] H Tz33 G (q00 G) G ?_;intro a2 w H;refine q05 [_,_] H G G G Ku Ts33 G Kf Kf (q00 G) ?_;intro w H;refine NL (TN (SQ ?_));obtain⟨b4,Y,h⟩:=bnd h;refine RG (ST (q0a H G Km Ta33 Ts33 Kf) G ?_);refine q03 H (Y05 Y) G trivial (q00 G) G ?_;intro v9 M w H u hR;obtain rfl:=hR;refine NL (TN ?_);refine q09 G (fun z=>?_) (fun z=>?_)
 ·
  subst z;rw[if_pos rfl] at h;refine SQ (RG (ST (q0a H G Km Ta33 Ts33 Kf) G ?_));refine q05 [_,_] H G G G Ku Ts33 G Kf Kf (q00 G) ?_;intro w H;refine NL (TN (RT ?_));obtain rfl:=oI h;exact q08 G ⟨_,G,H.loadAgg Km Ta33 Ts33 Kf⟩ H.ext G
 subst z;rw[if_neg l00] at h;refine SK (TN (SQ (SQ ?_)));obtain⟨Z,a0,h⟩:=bnd h;refine RG (MV G G (q03 H (Y6S a0) G trivial (q00 G) G ?_));intro a3 M w H u hR;obtain rfl:=hR;refine ST (q0y G) G (NL (TN ?_));refine q09 G (fun f=>?_) (fun f=>?_)
 ·
  replace f:Z=false:=by simpa using f
  subst f;rw[if_neg l00] at h;refine SQ ?_;obtain⟨⟨a4,a5⟩,J,h⟩:=bnd h;try dsimp only at h
  refine RG (q03 H (Y01 J) G trivial (q00 G) G ?_);intro a6 M w H u hR;try dsimp only at hR
  obtain rfl:=hR;refine q05 [_,_] H G G G Ku Ts33 G Kf Kf (q00 G) ?_;intro w H;refine NL (TN (RT ?_));obtain rfl:=oI h;exact q08 G ⟨_,G,H.loadAgg Km Ta33 Ts33 Kf⟩ H.ext G
 replace f:Z=true:=by simpa using f
 subst f;rw[if_pos rfl] at h;refine SK (TN (SQ ?_));obtain⟨⟨a7,a8⟩,K,h⟩:=bnd h;try dsimp only at h
 refine RG (q03 H (Y0i K) G trivial (q00 G) G ?_);intro a9 M w H u hR;try dsimp only at hR
 obtain rfl:=hR;refine q05 [_,_] H G G G Ku Ts33 G Kf Kf (q00 G) ?_;intro w H;refine NL (TN (RT ?_));obtain rfl:=oI h;exact q08 G ⟨_,G,H.loadAgg Km Ta33 Ts33 Kf⟩ H.ext G
theorem Y0V {p0:Ls}{r:Ls}(h:Y1Z p0=some r):Ct Tryz.prog 60 [S p0] (fun M=>True) (fun v M=>v=S r):=by
 refine Ct.of Tryz.func60 (enters Tryz.func60 Kr G) G G G ?_;intro w0 M0 H hp;unfold Y1Z at h;refine SQ (RG (AS G G (NL (TN (SQ ?_)))));obtain⟨J,aa,h⟩:=bnd h;refine RG (MV G G (WR.toBytesC H Tu9 Tu26 Tu5 G aa (q00 G) G ?_));intro z u w a8 H;refine AS G G (NL (TN (SQ (SQ (RG (MV G G (ST (Ex.lenSOK Tu26 a8 G) G (MV G G (NL (TN ?_))))))))));obtain⟨o4,f,h⟩:=bnd h;refine q07 (fun e w =>∃(l6:Ls) (M:Mem),e=[(3,(Value.slice (some ⟨z,0,none⟩) J.length u))]/\St w0 M0 M [SRow z u 5 l6] w/\SOK M l6 J.length u/\some l6=some o4) [] ?_ ?_ (trivial)
 ·
  refine BL (q0p (fun m e w =>∃(l8:Ls) (N:Int) (M:Mem),e=[(3,(Value.slice (some ⟨z,0,none⟩) J.length u)),(8,(Value.slice (some ⟨z,0,none⟩) J.length u)),(9,I (J.length:Int)),(10,I N)]/\St w0 M0 M [SRow z u 5 l8] w/\SOK M l8 J.length u/\Y1u J m l8 N=some o4) FU [(3,_),(8,_),(9,_),(10,_)] ⟨rfl,rfl,rfl,rfl,trivial⟩ ⟨_,_,_,rfl,H,a8,f⟩ ?_);rintro Y e w ⟨l8,N,M,rfl,H,E,f⟩;rcases Y with _|Y
  · rw[Y1u] at f;cases f
  rw[Y1u] at f;refine SQ (RG (ST (q0n G G) G (NL (TN (SQ ?_)))));refine CB (p:=N<(J.length:Int)) G (fun U=>?_) fun U=>?_
  ·
   rw[if_pos U] at f;refine SK (TN (SQ (BL (SQ ?_))));obtain⟨K,Z,f⟩:=bnd f;refine RG (MV G G (ST (Ex.idxSC Tu26 Ts5 E G G Z) G (ST (Ex.loadSC H G Km Z Ta5) G ?_)));refine AS G G (AS G G (NL (TN (SQ ?_))));obtain⟨ae,a0,f⟩:=bnd f;refine q07 (fun e w =>∃(a2:Bool) (M:Mem),e=[(3,(Value.slice (some ⟨z,0,none⟩) J.length u)),(4,I N),(5,encB K),(8,(Value.slice (some ⟨z,0,none⟩) J.length u)),(9,I (J.length:Int)),(10,I N),(20,Value.bool a2)]/\St w0 M0 M [SRow z u 5 l8] w/\SOK M l8 J.length u/\some a2=some ae) [] ?_ ?_ (trivial)
   ·
    by_cases O:65<=K.toNat
    ·
     rw[if_pos O] at a0;refine RG (MV G G (DT O (q0K (i:=K.toNat) (j:=65) G G) G (MV G G (SG (q02 G) G G G (SG (q0X (i:=K.toNat) (j:=90) G G) G G G (PT G G G (NL ?_)))))));exact MN ⟨_,_,G,H,E,a0⟩
    rw[if_neg O] at a0;refine RG (MV G G (DF O (q0K (i:=K.toNat) (j:=65) G G) G (MV G G (GF G G G (GF G G G (PF G G G (NL ?_)))))));exact MN ⟨_,_,G,H,E,a0⟩
   rintro e w ⟨a2,M,rfl,H,E,ah⟩;obtain rfl:=oI ah;refine TN ?_;refine q09 G (fun V=>?_) (fun V=>?_)
   ·
    subst V;rw[if_pos rfl] at f;obtain⟨ak,a4,f⟩:=bnd f;obtain⟨al,a5,f⟩:=bnd f;refine RG (MV G G (MV G G (MV G G (ST (Ex.addB (c:=K) (d:=97) G G) G (ST (Ex.subB (c:=(K+(97:UInt8))) (d:=65) G G) G (ST (Ex.idxSC Tu26 Ts5 E G G a4) G (WR.storeSC H G G E (fun _=>by repeat first|exact .head|apply Upd.tail) a5 Ts5 (q00 G) ?_)))))));intro w ab H;refine NL (IB (TN ?_));obtain⟨am,a6,f⟩:=bnd f;refine RG (ST (q0b G G a6) G (MV G G (NL ?_)));exact AG Y ⟨_,_,_,G,H,ab,f⟩ (l04 _)
   subst V;rw[if_neg l00] at f;refine SK (IB (TN ?_));obtain⟨an,a7,f⟩:=bnd f;refine RG (ST (q0b G G a7) G (MV G G (NL ?_)));exact AG Y ⟨_,_,_,G,H,E,f⟩ (l04 _)
  rw[if_neg U] at f;refine q0o (q04 (q04 (q0g ?_)));exact MN ⟨_,_,G,H,E,f⟩
 rintro e w ⟨l6,M,rfl,H,ai,aj⟩;obtain rfl:=oI aj;refine TN (SQ (RG (MV G G (ST (Ex.toStrS Tu26 Tu5 Tu9 H Km ai.1.symm G) G ?_))));refine AS G G (NL (TN (RT ?_)));obtain rfl:=oI h;exact q08 G G H.ext G
theorem Y4s {z:Ls}{E:Ls}{r:Bool}(h:Y2V z E=some r):Ct Tryz.prog 62 [S z,S E] (fun M=>True) (fun v M=>v=Value.bool r):=by
 refine Ct.of Tryz.func62 (enters Tryz.func62 Kr G) G G G ?_;intro U M0 H hp;unfold Y2V at h;refine SQ (RG (AS G G (NL (TN (SQ ?_)))));obtain⟨V,f,h⟩:=bnd h;refine q07 (fun e w =>∃(J:Bool) (M:Mem),e=[(4,Value.bool J)]/\St U M0 M [] w/\some J=some V) [] ?_ ?_ (trivial)
 ·
  refine RG (MV G G (ST (q0q Tu9 G) G (MV G G (ST (q0q Tu9 G) G ?_))));by_cases u:(z.length:Int)=(E.length:Int)
  ·
   rw[if_pos u] at f;obtain⟨s5,K,f⟩:=bnd f;obtain⟨s7,N,f⟩:=bnd f;refine DT u (q0j G G) G (MV G G (SG (q02 G) G G G (q03 H (Y0V K) G trivial (q0h G G G) G ?_)));intro Z M w H O hR;obtain rfl:=hR;refine SG (q02 G) G G G (q03 H (Y0V N) G trivial (q0h G G G) G ?_);intro a0 M w H O hR;obtain rfl:=hR;refine SG (q0N G G) G G G (PT G G G (AS G G (NL ?_)));exact MN ⟨_,_,G,H,f⟩
  rw[if_neg u] at f;refine DF u (q0j G G) G (MV G G (q06 5 G G (PF G G G (AS G G (NL ?_)))));exact MN ⟨_,_,G,H,f⟩
 rintro e w ⟨J,M,rfl,H,Y⟩;obtain rfl:=oI Y;refine TN (RT ?_);obtain rfl:=oI h;exact q08 G G H.ext G
theorem Y74 {p0:List Z07}{p1:Ls}{O:Value}{r:Z0L}(h:Y4w p0 p1=some r):Ct Tryz.prog 134 [O,S p1] (fun M=>SlS M 2 xenc63 O p0) (fun v M =>∃x0,v=Value.tuple #[x0,Value.agg #[I r.2.1,I r.2.2]]/\Sl M encS x0 r.1):=by
 refine Ct.of Tryz.func134 (enters Tryz.func134 Kr G) G G G ?_;intro w0 M0 H hp;have f:=hp;unfold Y4w at h;refine SQ (RG (AS G G (q0f [_,_] H Tz33 G (q00 G) G ?_)));intro E w H;refine NL (TN (SQ (SQ ?_)));obtain⟨⟨n1,n2⟩,ai,h⟩:=bnd h;try dsimp only at h
 refine RG (MV G G (MV G G (q03 H (Y6I ai) G (f) (q00 G) G ?_)));intro aq M w H z hR;replace f:=f.mono z;try dsimp only at hR
 obtain rfl:=hR;refine q0f [_,_] H Tz33 G (q00 G) G ?_;intro ar w H;refine q05 [_,_] H G G G Ku Ts33 G Kf Kf (q00 G) ?_;intro w H;refine NL (TN (SQ ?_));obtain⟨b4,aj,h⟩:=bnd h;refine RG (ST (q0a H G Km Ta33 Ts33 Kf) G ?_);refine q03 H (Y05 aj) G trivial (q00 G) G ?_;intro au M w H z hR;replace f:=f.mono z;obtain rfl:=hR;refine NL (TN ?_);refine q09 G (fun a1=>?_) (fun a1=>?_)
 ·
  subst a1;rw[if_pos rfl] at h;refine SQ (q0v (m:=3) G G H ?_);intro w H;refine TK 1 G (fun _=>q1o G) G (q0i (fuel:=0) [0,2] G Kr (ST (q0a H G Km Ta33 Ts33 Kf) G ?_));refine q05 [_,_] H G G G Ku Ts33 G Kf Kf (q00 G) ?_;intro w H;refine NA (q0d Kr (TN (RT ?_)));obtain rfl:=oI h;exact q0M G G ⟨_,G,H.loadAgg Km Ta33 Ts33 Kf⟩ H.ext (⟨_,G,q0L _ _⟩)
 subst a1;rw[if_neg l00] at h;refine SK (TN (SQ (RG (AS G G (NL (TN (SQ (SQ (RG (MV G G (ST (q0O Tu25 f G) G (MV G G (NL (TN ?_))))))))))))));obtain⟨o7,u,h⟩:=bnd h;refine q07 (fun e w =>∃(a2:List Ls) (U:Value) (M:Mem),e=[(5,ptr E 0),(7,U)]/\St w0 M0 M [.blk E (.cells #[I 0,I 0] 33),RowI 9 encS U a2] w/\some a2=some o7) [] ?_ ?_ (trivial)
 ·
  refine BL ?_;replace H:=H.newRow 9 encS;refine q0p (fun m e w =>∃(J:List Ls) (V:Value) (Y:Int) (M:Mem),e=[(1,S p1),(5,ptr E 0),(7,V),(16,O),(17,I (p0.length:Int)),(18,I Y)]/\St w0 M0 M [.blk E (.cells #[I 0,I 0] 33),RowI 9 encS V J] w/\SlS M 2 xenc63 O p0/\Y1z p0 p1 m J Y=some o7) FU [(1,_),(5,_),(7,_),(16,_),(17,_),(18,_)] ⟨rfl,rfl,rfl,rfl,rfl,rfl,trivial⟩ ⟨_,_,_,_,rfl,(H.pick (L':=[.blk E (.cells #[I 0,I 0] 33),RowI 9 encS (Value.slice none 0 0) []]) Kp),f,u⟩ ?_;rintro Z e w ⟨J,V,Y,M,rfl,H,f,u⟩;rcases Z with _|Z
  · rw[Y1z] at u;cases u
  rw[Y1z] at u;refine SQ (RG (ST (q0n G G) G (NL (TN (SQ ?_)))));refine CB (p:=Y<(p0.length:Int)) G (fun K=>?_) fun K=>?_
  ·
   rw[if_pos K] at u;refine SK (TN (SQ (BL (SQ ?_))));obtain⟨al,a4,u⟩:=bnd u;obtain⟨ap,av,a8,a9⟩:=f.atC a4;refine RG (ST (q0w a8 Tu25 Ts63 G G) G (ST (q0C H G a9 Ta63 Ts63 Kf) G ?_));refine q0f [_,_] H Tz63 G (q00 G) G ?_;intro aw w H;refine q05 [_,_] H G G G Ku Ts63 G Kf Kf (q00 G) ?_;intro w H;refine NL (TN (SQ ?_));obtain⟨ax,aa,u⟩:=bnd u;refine RG (ST (q01 Tu63 G Ts9 Dc G) G (ST (XL H Ta9) G ?_));refine MV G G (q03 H (Y4s aa) G trivial (q00 G) G ?_);intro ay M w H z hR;replace f:=f.mono z;obtain rfl:=hR;refine NL (TN ?_);refine q09 G (fun N=>?_) (fun N=>?_)
   ·
    subst N;rw[if_pos rfl] at u;obtain⟨am,a5,u⟩:=bnd u;refine RG (MV G G (ST (q01 Tu63 G Ts9 Dc G) G (ST (XL H Ta9) G ?_)));refine q1g (enc:=encS) xty45 ([al.2]:List Ls) H G Kf (fun _=>G) G G (q00 G) G ?_;intro az M w H z ab;replace f:=f.mono z;refine q1d (l:=J) xty45 G (fun _=>G) H G (fun _=>by repeat first|exact .head|apply Upd.tail) G (ab) a5 (q00 G) G ?_;intro an w H;refine AS G G (NL (IB (TN ?_)));obtain⟨b0,a6,u⟩:=bnd u;refine RG (ST (q0b G G a6) G (MV G G (NL ?_)));exact AG Z ⟨_,_,_,_,G,(H.pick (L':=[.blk E (.cells #[I 0,I 0] 33),RowI 9 encS an am]) Kp),f,u⟩ (l04 _)
   subst N;rw[if_neg l00] at u;refine SK (IB (TN ?_));obtain⟨b1,a7,u⟩:=bnd u;refine RG (ST (q0b G G a7) G (MV G G (NL ?_)));exact AG Z ⟨_,_,_,_,G,(H.pick (L':=[.blk E (.cells #[I 0,I 0] 33),RowI 9 encS V J]) Kp),f,u⟩ (l04 _)
  rw[if_neg K] at u;refine q0o (q04 (q04 (q0g ?_)));exact MN ⟨_,_,_,G,H,u⟩
 rintro e w ⟨a2,U,M,rfl,H,ao⟩;obtain rfl:=oI ao;refine TN (SQ ?_);obtain⟨⟨b2,b3⟩,ac,h⟩:=bnd h;try dsimp only at h
 refine RG (MV G G (q03 H (Y0i ac) G trivial (q00 G) G ?_));intro b5 M w H z hR;try dsimp only at hR
 obtain rfl:=hR;refine AS G G (q05 [_,_] H G G G Ku Ts33 G Kf Kf (q00 G) ?_);intro w H;refine NL (TN (RT ?_));obtain⟨M,z,ad,H⟩:=H.freezeRow (v:=U) (enc:=encS) (t:=9) Kv;obtain rfl:=oI h;exact q0M G G ⟨_,G,H.loadAgg Km Ta33 Ts33 Kf⟩ H.ext (⟨_,G,ad⟩)
theorem Y2Y {u:Z0w}{Y:Ls}{O:Nat}{z:Value}{E:Value}{J:Value}{K:Value}{N:Value}{f:Nat}{r:(List Ls × Z03)}(h:Y1Q u Y=some r):CtX Tryz.prog 111 [ptr O 0,S Y] [.blk O (.cells #[S u.1,z,S u.2.2.1,E,J,I u.2.2.2.2.2.1,(Value.map (some f)),K,N] 115), .blk f (mapO u.2.2.2.2.2.2.1)] (fun M=>SlS M 2 xenc68 z u.2.1/\SlS M 2 xenc63 E u.2.2.2.1/\Sl M encB J u.2.2.2.2.1) (fun v M its =>∃Z,v=Z/\Sl M encS Z r.1/\its=[.blk O (.cells #[S r.2.1,z,S r.2.2.2.1,E,J,I r.2.2.2.2.2.2.1,(Value.map (some f)),K,N] 115), .blk f (mapO r.2.2.2.2.2.2.2.1)]):=by
 refine q0T Tryz.func111 (enters Tryz.func111 Kr G) G G G ?_;intro w0 M0 H hp;obtain⟨a1,U,a2⟩:=hp;unfold Y1Q at h;refine SQ (RG (AS G G (NL (TN (SQ ?_)))));obtain⟨⟨l1,⟨n2,n3⟩⟩,a0,h⟩:=bnd h;try dsimp only at h
 refine RG (MV G G (FN G G Tu115 G Ts30 G G (ST (q01 Tu30 G Ts28 Dc G) G (ST (q01 Tu28 G Ts25 Dc G) G (ST (XL H Ta25) G ?_)))));refine MV G G (q03 H (Y74 a0) G (U) (q00 G) G ?_);intro a4 M w H a5 hR;try dsimp only at hR
 obtain⟨a3,rfl,V⟩:=hR;refine MV G G (ST (q0e G G) G (ST (q0e G G) G (q0f [_,_] H Tz33 G (q00 G) G ?_)));intro a6 w H;refine AS G G (q05 [_,_] H G G G Ku Ts33 G Kf Kf (q00 G) ?_);intro w H;refine NL (TN (SQ (RG (MV G G (AS G G (NL (TN (RT ?_))))))));obtain rfl:=oI h;exact q0x (its:=[.blk O (.cells #[S u.1,z,S u.2.2.1,E,J,I u.2.2.2.2.2.1,(Value.map (some f)),K,N] 115), .blk f (mapO u.2.2.2.2.2.2.1)]) G G H Kp ⟨_,G,V,G⟩
theorem Y5I {Z:Ls}{r:Z0O}(h:Y2E Z=some r):Ct Tryz.prog 150 [S Z] (fun M=>True) (fun v M =>∃x0,v=Value.tuple #[x0,Value.bool r.2]/\SlS M 3 xenc218 x0 r.1):=by
 refine Ct.of Tryz.func150 (enters Tryz.func150 Kr G) G G G ?_;intro w0 M0 H hp;unfold Y2E at h;refine SQ (RG (AS G G (AS G G (NL (TN (SQ (RG (AS G G (NL (TN (SQ (SQ (RG (AS G G (NL (TN ?_))))))))))))))));obtain⟨o1,f,h⟩:=bnd h;refine q07 (fun e w =>∃(l4:List Z0d) (v5:Value) (M:Mem),e=[(4,v5)]/\St w0 M0 M [RowS 218 3 xenc218 v5 l4] w/\some (.inl l4)=some o1) [] ?_ ?_ (trivial)
 ·
  refine BL ?_;replace H:=H.newRowS 218 3 xenc218;refine q0p (fun m e w =>∃(E:List Z0d) (v9:Value) (V:Int) (M:Mem),e=[(0,S Z),(4,v9),(5,I V)]/\St w0 M0 M [RowS 218 3 xenc218 v9 E] w/\Y0b Z m E V=some o1) FU [(0,_),(4,_),(5,_)] ⟨rfl,rfl,rfl,trivial⟩ ⟨_,_,_,_,rfl,H,f⟩ ?_;rintro u e w ⟨E,v9,V,M,rfl,H,f⟩;rcases u with _|u
  · rw[Y0b] at f;cases f
  rw[Y0b] at f;refine SQ (SQ (RG (MV G G (MV G G (ST (q0q Tu9 G) G (ST (q0n G G) G (NL (TN ?_))))))));refine CB (p:=V<(Z.length:Int)) G (fun J=>?_) fun J=>?_
  ·
   rw[if_pos J] at f;refine SK (TN (SQ (BL (SQ ?_))));obtain⟨z,a1,f⟩:=bnd f;refine RG (MV G G (MV G G (ST (q0G Tu9 G G a1) G (NL (TN (BL (SQ (RG (ST (q0P (c:=z) (d:=42) G G) G (AS G G (NL (TN ?_))))))))))));refine CB (p:=z=42) G (fun K=>?_) fun K=>?_
   ·
    rw[if_pos K] at f;obtain⟨av,a2,f⟩:=bnd f;refine RG (MV G G (ST (q0A [Value.bool false,Value.bool true,encB 0] Tu218 Tz218 (xplaces218 Tu218) G G) G (q0Q (enc:=xenc218) xty200 ([(false,true,0)]:List Z0d) H (fun _=>G) G Kr G G G (q00 G) G ?_)));intro aw M w H Y aj;refine q1j (l:=E) xty200 G xone218 H G (fun _=>by repeat first|exact .head|apply Upd.tail) G (aj) a2 (q00 G) G ?_;intro ax w H;refine AS G G (NL (IB (IB (TN ?_))));obtain⟨ay,a3,f⟩:=bnd f;refine RG (MV G G (ST (q0b G G a3) G (AS G G (NL ?_))));exact AG u ⟨_,_,_,_,G,H,f⟩ (l04 _)
   rw[if_neg K] at f;refine SQ (RG (ST (q0P (c:=z) (d:=63) G G) G (AS G G (NL (TN ?_)))));refine CB (p:=z=63) G (fun N=>?_) fun N=>?_
   ·
    rw[if_pos N] at f;obtain⟨az,a4,f⟩:=bnd f;refine RG (MV G G (ST (q0A [Value.bool true,Value.bool false,encB 0] Tu218 Tz218 (xplaces218 Tu218) G G) G (q0Q (enc:=xenc218) xty200 ([(true,false,0)]:List Z0d) H (fun _=>G) G Kr G G G (q00 G) G ?_)));intro b0 M w H Y ak;refine q1j (l:=E) xty200 G xone218 H G (fun _=>by repeat first|exact .head|apply Upd.tail) G (ak) a4 (q00 G) G ?_;intro b1 w H;refine AS G G (NL (IB (IB (TN ?_))));obtain⟨b2,a5,f⟩:=bnd f;refine RG (MV G G (ST (q0b G G a5) G (AS G G (NL ?_))));exact AG u ⟨_,_,_,_,G,H,f⟩ (l04 _)
   rw[if_neg N] at f;refine SQ (RG (ST (q0P (c:=z) (d:=92) G G) G (AS G G (NL (TN ?_)))));refine CB (p:=z=92) G (fun O=>?_) fun O=>?_
   ·
    rw[if_pos O] at f;refine SQ (SQ ?_);obtain⟨ar,a6,f⟩:=bnd f;refine RG (MV G G (ST (q0b G G a6) G (AS G G (NL (TN (SQ (RG (MV G G (MV G G (ST (q0q Tu9 G) G (ST (q0j G G) G (NL (TN ?_)))))))))))));refine CB (p:=ar=(Z.length:Int)) G (fun U=>?_) fun U=>?_
    ·
     rw[if_pos U] at f;refine SQ (RG (AS G G (AS G G (NL (TN (RT ?_))))));obtain rfl:=oI f;try dsimp only at h
     obtain rfl:=oI h;exact q0M G G G H.ext (⟨_,G,(SlS.nil _ _ (fun _=>G))⟩)
    rw[if_neg U] at f;refine SK (TN ?_);obtain⟨ad,a7,f⟩:=bnd f;obtain⟨b3,a8,f⟩:=bnd f;refine RG (MV G G (MV G G (MV G G (ST (q0G Tu9 G G a7) G (ST (q0A [Value.bool false,Value.bool false,encB ad] Tu218 Tz218 (xplaces218 Tu218) G G) G (q0Q (enc:=xenc218) xty200 ([(false,false,ad)]:List Z0d) H (fun _=>G) G Kr G G G (q00 G) G ?_))))));intro b4 M w H Y al;refine q1j (l:=E) xty200 G xone218 H G (fun _=>by repeat first|exact .head|apply Upd.tail) G (al) a8 (q00 G) G ?_;intro b5 w H;refine AS G G (NL (IB (IB (TN ?_))));obtain⟨b6,a9,f⟩:=bnd f;refine RG (MV G G (ST (q0b G G a9) G (AS G G (NL ?_))));exact AG u ⟨_,_,_,_,G,H,f⟩ (l04 _)
   rw[if_neg O] at f;obtain⟨ae,aa,f⟩:=bnd f;obtain⟨b7,ab,f⟩:=bnd f;refine RG (MV G G (MV G G (MV G G (ST (q0G Tu9 G G aa) G (ST (q0A [Value.bool false,Value.bool false,encB ae] Tu218 Tz218 (xplaces218 Tu218) G G) G (q0Q (enc:=xenc218) xty200 ([(false,false,ae)]:List Z0d) H (fun _=>G) G Kr G G G (q00 G) G ?_))))));intro b8 M w H Y am;refine q1j (l:=E) xty200 G xone218 H G (fun _=>by repeat first|exact .head|apply Upd.tail) G (am) ab (q00 G) G ?_;intro b9 w H;refine AS G G (NL (IB (IB (TN ?_))));obtain⟨ba,ac,f⟩:=bnd f;refine RG (MV G G (ST (q0b G G ac) G (AS G G (NL ?_))));exact AG u ⟨_,_,_,_,G,H,f⟩ (l04 _)
  rw[if_neg J] at f;refine q0o (q04 (q04 (q0g ?_)));exact MN ⟨_,_,_,G,H,f⟩
 rintro e w ⟨l4,v5,M,rfl,H,au⟩;obtain rfl:=oI au;try dsimp only at h
 refine TN (SQ (RG (MV G G (AS G G (AS G G (NL (TN (RT ?_))))))));obtain⟨M,Y,an,H⟩:=H.freezeRowS (v:=v5) (enc:=xenc218) (t:=218) Kv (fun _=>rfl);obtain rfl:=oI h;exact q0M G G G H.ext (⟨_,G,an⟩)
theorem Y4P {K:Z0d}{p1:Int}{p2:Ls}{p3:Ls}{Y:Nat}{Z:Nat}{r:Bool}(h:Y2F K p1 p2 p3=some r):Ct Tryz.prog 167 [Value.agg #[Value.bool K.1,Value.bool K.2.1,encB K.2.2],I p1,ptr Y 0,ptr Z 0] (fun M=>PtM M Y (.cells #[S p2] 9)/\PtM M Z (.cells #[S p3] 9)) (fun v M=>v=Value.bool r):=by
 refine Ct.of Tryz.func167 (enters Tryz.func167 Kr G) G G G ?_;intro w0 M0 H hp;obtain⟨a6,u⟩:=hp;unfold Y2F at h;refine SQ (RG (q0I [_,_,_] H G G (q00 G) G ?_));intro aa w H;refine AS G G (NL (TN (SQ ?_)));obtain⟨o1,f,h⟩:=bnd h;refine q07 (fun e w =>∃(b3:Bool) (M:Mem),e=[(6,Value.bool b3)]/\St w0 M0 M [] w/\some b3=some o1) [] ?_ ?_ (trivial)
 ·
  refine q0v (m:=22) G G H ?_;intro w H;refine TK 0 G (fun _=>q02 G) G (q0i (fuel:=19) [1,2] G Kr (ST (q0m H G (a6.cell (j:=0) G) Ta9) G (ST (q0q Tu9 G) G (NA ?_))));by_cases O:p1<(p2.length:Int)
  ·
   rw[if_pos O] at f;refine q0i (fuel:=16) [3,4,5] G Kr (DT O (q0n G G) G (MV G G (SG (q01 Tu218 G Ts4 Dc G) G G G (NA ?_))));by_cases U:K.1=true
   ·
    rw[if_pos U] at f;refine q0i (fuel:=14) [6,7] G Kr (q0l (v' := .bool true) (XL H Ta4) (congrArg Value.bool U) (q0h G G G) G G ?_);refine SG (q02 G) G G G (NA (WA.takes (fuel:=5) [8,9,10,11,13,14,15,16,17] G Kr Kr G (q0i (fuel:=0) [12,18,19,20,21] G Kr (GT G G G (GT G G G (SG (q0t G G) G G G (PT G G G (AS G G (NA (q0d Kr ?_))))))))));exact MN ⟨_,_,G,(H.pick (L':=[]) Kp),f⟩
   rw[if_neg U] at f;obtain⟨s6,N,f⟩:=bnd f;obtain⟨n8,a4,f⟩:=bnd f;obtain⟨s9,J,f⟩:=bnd f;refine q0i (fuel:=14) [6,7] G Kr (q0l (v' := .bool false) (XL H Ta4) (congrArg Value.bool (l1d U)) (q0h G G G) G G ?_);refine SG (q02 G) G G G (NA (q1l (i:=8) G Kr Kr Kr (fun _=>q01 Tu218 G Ts5 Dc G) (q0h G G G) G G (fun _ _=>G) (q1l (i:=14) G Kr Kr Kr (fun _=>q02 G) (q0h G G G) G G (fun _ _=>G) (q1l (i:=15) G Kr Kr Kr (fun _=>q02 G) (q0h G G G) G G (fun _ _=>G) (q1l (i:=16) G Kr Kr Kr (fun _=>q0b G G a4) (q0h G G G) G G (fun _ _=>G) ?_)))));refine q0F (i:=9) (j:=13) Kr G G ?_ ?_
   ·
    refine SG (XL H Ta5) G G G ?_;refine NA ?_;refine q0F (i:=10) (j:=13) Kr G G ?_ ?_
    ·
     refine q1g (enc:=encB) xty26 ([K.2.2]:Ls) H G Kf (fun _=>G) G G (q0h G G G) G ?_;intro a0 M w H z E;replace u:=u.mono z;refine NA ?_;refine q0F (i:=11) (j:=13) Kr G G ?_ ?_
     ·
      refine SG (Ex.toStr Tu26 Tu5 Tu9 H (E) G) G G G (NA ?_);refine q0F (i:=12) (j:=13) Kr G G ?_ ?_
      ·
       refine q03 H (Y0V N) G trivial (q0h G G G) G ?_;intro V M w H z hR;replace u:=u.mono z;obtain rfl:=hR;refine NA (q0i (fuel:=0) [13,17,18,19,20,21] G Kr (SG (q0m H G (u.cell (j:=0) G) Ta9) G G G (SG (Ex.sliceC Tu9 G G G J) G G G (SG (q0N G G) G G G (SG (q0u G G) G G G (PT G G G (AS G G (NA (q0d Kr ?_)))))))));exact MN ⟨_,_,G,(H.pick (L':=[]) Kp),f⟩
      refine SG (q0m H G (u.cell (j:=0) G) Ta9) G G G (NA (q1l (i:=17) G Kr Kr Kr (fun _=>Ex.sliceC Tu9 G G G J) (q0h G G G) G G (fun _ _=>G) (q0i (fuel:=0) [12,18,19,20,21] G Kr (q03 H (Y0V N) G trivial (q0h G G G) G ?_))));intro V M w H z hR;obtain rfl:=hR;refine SG (q0N G G) G G G (SG (q0u G G) G G G (PT G G G (AS G G (NA (q0d Kr ?_)))));exact MN ⟨_,_,G,(H.pick (L':=[]) Kp),f⟩
     refine SG (q0m H G (u.cell (j:=0) G) Ta9) G G G (NA (q1l (i:=17) G Kr Kr Kr (fun _=>Ex.sliceC Tu9 G G G J) (q0h G G G) G G (fun _ _=>G) (q0i (fuel:=0) [11,12,18,19,20,21] G Kr (SG (Ex.toStr Tu26 Tu5 Tu9 H (E) G) G G G (q03 H (Y0V N) G trivial (q0h G G G) G ?_)))));intro V M w H z hR;obtain rfl:=hR;refine SG (q0N G G) G G G (SG (q0u G G) G G G (PT G G G (AS G G (NA (q0d Kr ?_)))));exact MN ⟨_,_,G,(H.pick (L':=[]) Kp),f⟩
    refine SG (q0m H G (u.cell (j:=0) G) Ta9) G G G (NA (q1l (i:=17) G Kr Kr Kr (fun _=>Ex.sliceC Tu9 G G G J) (q0h G G G) G G (fun _ _=>G) (q0i (fuel:=0) [10,11,12,18,19,20,21] G Kr (q1g (enc:=encB) xty26 ([K.2.2]:Ls) H G Kf (fun _=>G) G G (q0h G G G) G ?_))));intro a0 M w H z E;refine SG (Ex.toStr Tu26 Tu5 Tu9 H (E) G) G G G (q03 H (Y0V N) G trivial (q0h G G G) G ?_);intro V M w H z hR;obtain rfl:=hR;refine SG (q0N G G) G G G (SG (q0u G G) G G G (PT G G G (AS G G (NA (q0d Kr ?_)))));exact MN ⟨_,_,G,(H.pick (L':=[]) Kp),f⟩
   refine SG (q0m H G (u.cell (j:=0) G) Ta9) G G G (NA (q1l (i:=17) G Kr Kr Kr (fun _=>Ex.sliceC Tu9 G G G J) (q0h G G G) G G (fun _ _=>G) (q0i (fuel:=0) [9,10,11,12,18,19,20,21] G Kr (SG (XL H Ta5) G G G ?_))));refine q1g (enc:=encB) xty26 ([K.2.2]:Ls) H G Kf (fun _=>G) G G (q0h G G G) G ?_;intro a0 M w H z E;refine SG (Ex.toStr Tu26 Tu5 Tu9 H (E) G) G G G (q03 H (Y0V N) G trivial (q0h G G G) G ?_);intro V M w H z hR;obtain rfl:=hR;refine SG (q0N G G) G G G (SG (q0u G G) G G G (PT G G G (AS G G (NA (q0d Kr ?_)))));exact MN ⟨_,_,G,(H.pick (L':=[]) Kp),f⟩
  rw[if_neg O] at f;refine q0i (fuel:=14) [3,4,5,6,7] G Kr (DF O (q0n G G) G (MV G G (q06 3 G G (NA (WA.takes (fuel:=5) [8,9,10,11,13,14,15,16,17] G Kr Kr G (q0i (fuel:=0) [12,18,19,20,21] G Kr (q06 3 G G (PF G G G (AS G G (NA (q0d Kr ?_)))))))))));exact MN ⟨_,_,G,(H.pick (L':=[]) Kp),f⟩
 rintro e w ⟨b3,M,rfl,H,a7⟩;obtain rfl:=oI a7;refine TN (RT ?_);obtain rfl:=oI h;exact q08 G G H.ext G
end Go.Proofs.YtgicephoflppiaaGreatDoor
end
