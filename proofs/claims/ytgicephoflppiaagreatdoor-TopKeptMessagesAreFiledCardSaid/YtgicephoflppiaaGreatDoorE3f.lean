/-
  Kct10 .. Kv: own texts of this repository (wip/tpl, wip/plans), merged and shaken by wip/tools/pack.py.
-/
import Derived.KernelRfl
import Derived.Test.YtgicephoflppiaaGreatDoorE3e
set_option maxRecDepth 100000
set_option linter.unusedVariables false
set_option linter.unusedSimpArgs false
section
namespace Go.Proofs.YtgicephoflppiaaGreatDoor
open Go Go.RowKit Go.Ph Go.Ph.Pl Go.Ph.Pf
theorem Y67 {N:Z07}{r:Ls}(h:Y4C N=some r):Ct Tryz.prog 97 [Value.agg #[S N.1,S N.2]] (fun M=>True) (fun v M=>v=S r):=by
 refine Ct.of Tryz.func97 (enters Tryz.func97 Kr G) G G G ?_;intro O M0 H hp;unfold Y4C at h;refine SQ (RG (q0I [_,_] H G G (q00 G) G ?_));intro Z w H;refine AS G G (NL (TN (SQ ?_)));obtain⟨s1,J,h⟩:=bnd h;obtain⟨s3,f,h⟩:=bnd h;obtain⟨s4,K,h⟩:=bnd h;obtain⟨s6,u,h⟩:=bnd h;obtain⟨U,z,h⟩:=bnd h;refine q0Y (fun e w =>∃  (M:Mem),e=[(2,S U)]/\St O M0 M [] w) ?_ ?_
 .
  refine q0v (m:=10) G G H ?_;intro w H;refine TK 0 G (fun _=>q01 Tu63 G Ts9 Dc G) G (TK 4 G (fun _=>q01 Tu63 G Ts9 Dc G) G (q0B (i:=1) [5] G Kr Kr Kr (XL H Ta9) (q00 G) G G (fun _ _=>G) ?_));refine q0F (i:=2) (j:=5) Kr G G ?_ ?_
  .
   refine q03 H (Y0V J) G trivial (q00 G) G ?_;intro V M w H E hR;obtain rfl:=hR;refine NA (TK 3 G (fun _=>q0r G G f) G (q0i (fuel:=0) [5,6,7,8,9] G Kr (ST (XL H Ta9) G ?_)));refine q03 H (Y37 K) G trivial (q00 G) G ?_;intro Y M w H E hR;obtain rfl:=hR;refine ST (q0r G G u) G (ST (q0r G G z) G (AS G G (NA (q0d Kr ?_))));exact MP ⟨_,G,(H.pick (L':=[]) Kp)⟩
  refine ST (XL H Ta9) G ?_;refine NA (ON 2 Kr G (q03 H (Y0V J) G trivial (q00 G) G ?_));intro V M w H E hR;obtain rfl:=hR;refine NA (TK 3 G (fun _=>q0r G G f) G (q0i (fuel:=0) [6,7,8,9] G Kr (q03 H (Y37 K) G trivial (q00 G) G ?_)));intro Y M w H E hR;obtain rfl:=hR;refine ST (q0r G G u) G (ST (q0r G G z) G (AS G G (NA (q0d Kr ?_))));exact MP ⟨_,G,(H.pick (L':=[]) Kp)⟩
 rintro e w ⟨M,rfl,H⟩;refine TN (RT ?_);obtain rfl:=oI h;exact q08 G G H.ext G
theorem Y5X {p0:List Z07}{Y:List Ls}{N:Value}{O:Value}{r:Z0Q}(h:Y4b p0 Y=some r):CtO Tryz.prog 65 [N,O] (fun M=>SlS M 2 xenc63 N p0/\Sl M encS O Y) (fun v M its =>∃x0,v=Value.tuple #[x0,Value.agg #[I r.2.1,I r.2.2]]/\its=[RowI 5 encB x0 r.1]):=by
 refine CtO.of Tryz.func65 (enters Tryz.func65 Kr G) G G G ?_;intro w0 M0 H hp;obtain⟨u,z⟩:=hp;unfold Y4b at h;refine SQ (RG (AS G G (q0f [_,_] H Tz33 G (q00 G) G ?_)));intro J w H;refine NL (TN (SQ (SQ ?_)));obtain⟨⟨n1,n2⟩,bh,h⟩:=bnd h;try dsimp only at h
 refine RG (MV G G (q03 H (Y3H bh) G (u) (q00 G) G ?_));intro bu M w H K hR;replace u:=u.mono K;replace z:=z.mono K;try dsimp only at hR
 obtain rfl:=hR;refine q0f [_,_] H Tz33 G (q00 G) G ?_;intro bv w H;refine q05 [_,_] H G G G Ku Ts33 G Kf Kf (q00 G) ?_;intro w H;refine NL (TN (SQ ?_));obtain⟨b4,bi,h⟩:=bnd h;refine RG (ST (q0a H G Km Ta33 Ts33 Kf) G ?_);refine q03 H (Y05 bi) G trivial (q00 G) G ?_;intro bw M w H K hR;replace u:=u.mono K;replace z:=z.mono K;obtain rfl:=hR;refine NL (TN ?_);refine q09 G (fun ae=>?_) (fun ae=>?_)
 .
  subst ae;rw[if_pos rfl] at h;cases h
 subst ae;rw[if_neg l00] at h;refine SK (TN (SQ (SQ (RG (MV G G (ST (q0V Tu45 z G) G (ST (q0H G G) G (NL (TN ?_)))))))));refine CB (p:=(300:Int)<(Y.length:Int)) G (fun ah=>?_) fun ah=>?_
 .
  rw[if_pos ah] at h;cases h
 rw[if_neg ah] at h;refine SK (TN (SQ ?_));obtain⟨l8,b3,h⟩:=bnd h;refine RG (MV G G (ST (q0O Tu25 u G) G (WR.mkC (enc:=encBo) (z0:=(false:Bool)) xty71 G H G G b3 (q00 G) G ?_)));intro V w H;refine AS G G (NL (TN (SQ (RG (AS G G (NL (TN (SQ (SQ (RG (MV G G (ST (q0V Tu45 z G) G (MV G G (NL (TN ?_)))))))))))))));obtain⟨b1,E,h⟩:=bnd h;refine q07 (fun e w =>∃(a8:Ls) (a9:Value) (M:Mem),e=[(5,ptr J 0),(8,a9)]/\St w0 M0 M [.blk J (.cells #[I 0,I 0] 33),RowI 5 encB a9 a8] w/\some a8=some b1) [] ?_ ?_ (trivial)
 .
  refine BL ?_;replace H:=H.newRow 5 encB;refine q0p (fun m e w =>∃(ai:List Bool) (aa:Ls) (ab:Value) (Z:Int) (M:Mem),e=[(0,N),(5,ptr J 0),(7,V),(8,ab),(24,O),(25,I (Y.length:Int)),(26,I Z)]/\St w0 M0 M [.blk J (.cells #[I 0,I 0] 33),RowI 4 encBo V ai,RowI 5 encB ab aa] w/\SlS M 2 xenc63 N p0/\Sl M encS O Y/\Y2o p0 Y m ai aa Z=some b1) FU [(0,_),(5,_),(7,_),(8,_),(24,_),(25,_),(26,_)] ⟨rfl,rfl,rfl,rfl,rfl,rfl,rfl,trivial⟩ ⟨_,_,_,_,_,rfl,(H.pick (L':=[.blk J (.cells #[I 0,I 0] 33),RowI 4 encBo V l8,RowI 5 encB (Value.slice none 0 0) []]) Kp),u,z,E⟩ ?_;rintro aj e w ⟨ai,aa,ab,Z,M,rfl,H,u,z,E⟩;rcases aj with _|aj
  . rw[Y2o] at E;cases E
  rw[Y2o] at E;refine SQ (RG (ST (q0n G G) G (NL (TN (SQ ?_)))));refine CB (p:=Z<(Y.length:Int)) G (fun a5=>?_) fun a5=>?_
  .
   rw[if_pos a5] at E;refine SK (TN (SQ (BL (SQ ?_))));obtain⟨ak,aq,E⟩:=bnd E;obtain⟨br,bx,b5,b6⟩:=z.atC aq;refine RG (ST (q0w b5 Tu45 Ts9 G G) G (ST (q0m H G b6 Ta9) G (AS G G (NL (TN (SQ ?_))))));obtain⟨bz,ar,E⟩:=bnd E;refine RG (MV G G (ST (q0O Tu25 u G) G (ST (q0W G G ar) G (AS G G (NL (TN ?_))))));obtain⟨b2,f,E⟩:=bnd E;refine q07 (fun e w =>∃(al:List Bool) (am:Ls) (an:Value) (M:Mem),e=[(0,N),(5,ptr J 0),(7,V),(8,an),(24,O),(25,I (Y.length:Int)),(26,I Z)]/\St w0 M0 M [.blk J (.cells #[I 0,I 0] 33),RowI 4 encBo V al,RowI 5 encB an am] w/\SlS M 2 xenc63 N p0/\Sl M encS O Y/\some (al,am)=some b2) [] ?_ ?_ (trivial)
   .
    refine BL (q0p (fun m e w =>∃(a0:List Bool) (a2:Ls) (a3:Value) (a4:Int) (M:Mem),e=[(0,N),(5,ptr J 0),(7,V),(8,a3),(10,S ak),(11,I a4),(24,O),(25,I (Y.length:Int)),(26,I Z)]/\St w0 M0 M [.blk J (.cells #[I 0,I 0] 33),RowI 4 encBo V a0,RowI 5 encB a3 a2] w/\SlS M 2 xenc63 N p0/\Sl M encS O Y/\Y2n p0 ak m a0 a2 a4=some b2) FU [(0,_),(5,_),(7,_),(8,_),(10,_),(11,_),(24,_),(25,_),(26,_)] ⟨rfl,rfl,rfl,rfl,rfl,rfl,rfl,rfl,rfl,trivial⟩ ⟨_,_,_,_,_,rfl,H,u,z,f⟩ ?_);rintro ao e w ⟨a0,a2,a3,a4,M,rfl,H,u,z,f⟩;rcases ao with _|ao
    . rw[Y2n] at f;cases f
    rw[Y2n] at f;refine SQ (SQ (RG (MV G G (ST (q1a G G) G (NL (TN ?_))))));refine CB (p:=(0:Int)<=a4) G (fun a6=>?_) fun a6=>?_
    .
     rw[if_pos a6] at f;refine SK (TN (SQ (BL (SQ ?_))));obtain⟨bj,U,f⟩:=bnd f;refine q07 (fun e w =>∃(ap:Bool) (M:Mem),e=[(0,N),(5,ptr J 0),(7,V),(8,a3),(10,S ak),(11,I a4),(24,O),(25,I (Y.length:Int)),(26,I Z),(50,Value.bool ap)]/\St w0 M0 M [.blk J (.cells #[I 0,I 0] 33),RowI 4 encBo V a0,RowI 5 encB a3 a2] w/\SlS M 2 xenc63 N p0/\Sl M encS O Y/\some ap=some bj) [] ?_ ?_ (trivial)
     .
      obtain⟨bm,ac,U⟩:=bnd U;refine RG (MV G G (MV G G (WR.idxRowC (l:=a0) H Tu71 Ts4 Km G G ac (q00 G) G ?_)));intro c0 b7;refine ST (Ex.loadRowC H G b7 Km ac Ta4) G ?_;refine ST (q0y G) G (MV G G ?_);rcases bm with _|_
      .
       rw[if_neg l00] at U;obtain⟨c1,au,U⟩:=bnd U;obtain⟨bs,c2,b8,b9⟩:=u.atC au;obtain⟨c3,ba,U⟩:=bnd U;refine SG (q02 G) G G G (SG (q02 G) G G G (SG (q0w b8 Tu25 Ts63 G G) G G G (SG (q01 Tu63 G Ts9 Dc G) G G G (SG (q0m H G (b9.at (j:=0) G) Ta9) G G G (SG (q02 G) G G G (q03 H (Y4s ba) G trivial (q0h G G G) G ?_))))));intro c4 M w H K hR;replace u:=u.mono K;replace z:=z.mono K;obtain rfl:=hR;refine PT G G G (NL ?_);exact MN ⟨_,_,G,H,u,z,U⟩
      rw[if_pos rfl] at U;refine q06 7 G G (PF G G G (NL ?_));exact MN ⟨_,_,G,H,u,z,U⟩
     rintro e w ⟨ap,M,rfl,H,u,z,bn⟩;obtain rfl:=oI bn;refine TN ?_;refine q09 G (fun a7=>?_) (fun a7=>?_)
     .
      subst a7;rw[if_pos rfl] at f;refine SQ ?_;obtain⟨c5,av,f⟩:=bnd f;obtain⟨c6,aw,f⟩:=bnd f;refine RG (MV G G (MV G G (WR.idxRowC (l:=a0) H Tu71 Ts4 Km G G av (q00 G) G ?_)));intro c7 bb;refine q1k (a:=true) H G G ⟨G,G⟩ bb (fun _=>by repeat first|exact .head|apply Upd.tail) aw Ts4 (q00 G) ?_;intro w H;refine NL (TN (SQ ?_));obtain⟨c8,ax,f⟩:=bnd f;obtain⟨bt,c9,bc,bd⟩:=u.atC ax;obtain⟨ca,be,f⟩:=bnd f;obtain⟨cb,ay,f⟩:=bnd f;refine RG (MV G G (MV G G (MV G G (ST (q0w bc Tu25 Ts63 G G) G (ST (q0C H G bd Ta63 Ts63 Kf) G ?_)))));refine q03 H (Y67 be) G trivial (q00 G) G ?_;intro cc M w H K hR;replace u:=u.mono K;replace z:=z.mono K;obtain rfl:=hR;refine q0R (l:=a2) xty26 Tu9 H G (fun _=>by repeat first|exact .head|apply Upd.tail) G ay (q00 G) G ?_;intro cd w H;refine AS G G (NL (TN (q0o (WQ.exitOut G (q04 (q04 (q0g ?_)))))));exact MN ⟨_,_,_,_,G,H,u,z,f⟩
     subst a7;rw[if_neg l00] at f;refine SK (IB (TN ?_));obtain⟨ce,az,f⟩:=bnd f;refine RG (MV G G (ST (q0W G G az) G (AS G G (NL ?_))));exact AG ao ⟨_,_,_,_,_,G,H,u,z,f⟩ (l04 _)
    rw[if_neg a6] at f;refine q0o (q04 (q04 (q0g ?_)));exact MN ⟨_,_,_,_,G,H,u,z,f⟩
   rintro e w ⟨al,am,an,M,rfl,H,u,z,bo⟩;obtain rfl:=oI bo;try dsimp only at E
   refine IB (TN ?_);obtain⟨cf,b0,E⟩:=bnd E;refine RG (ST (q0b G G b0) G (MV G G (NL ?_)));exact AG aj ⟨_,_,_,_,_,G,H,u,z,E⟩ (l04 _)
  rw[if_neg a5] at E;refine q0o (q04 (q04 (q0g ?_)));exact MN ⟨_,_,_,G,(H.pick (L':=[.blk J (.cells #[I 0,I 0] 33),RowI 5 encB ab aa]) Kp),E⟩
 rintro e w ⟨a8,a9,M,rfl,H,bp⟩;obtain rfl:=oI bp;refine TN (SQ ?_);obtain⟨⟨cg,ch⟩,bf,h⟩:=bnd h;try dsimp only at h
 refine RG (MV G G (q03 H (Y0i bf) G trivial (q00 G) G ?_));intro ci M w H K hR;try dsimp only at hR
 obtain rfl:=hR;refine AS G G (q05 [_,_] H G G G Ku Ts33 G Kf Kf (q00 G) ?_);intro w H;refine NL (TN (RT ?_));obtain rfl:=oI h;exact WQ.ret2O (its:=[RowI 5 encB a9 a8]) G G ⟨_,G,H.loadAgg Km Ta33 Ts33 Kf⟩ H (by repeat(first|exact List.Sublist.refl _|apply List.Sublist.cons_cons|apply List.Sublist.cons)) ⟨_,G,G⟩
theorem Y6K {p0:Int}{E:Ls}{z:Value}{r:Int}(h:Y6t p0 E=some r):Ct Tryz.prog 68 [Value.int .u64 p0,z] (fun M=>Sl M encB z E) (fun v M=>v=Value.int .u64 r):=by
 refine Ct.of Tryz.func68 (enters Tryz.func68 Kr G) G G G ?_;intro w0 M0 H hp;have u:=hp;unfold Y6t at h;refine SQ (RG (AS G G (NL (TN (SQ (RG (MV G G (ST (Ex.xorU G G) G (AS G G (NL (TN (SQ (SQ (RG (MV G G (ST (q0V Tu26 u G) G (MV G G (NL (TN ?_)))))))))))))))))));obtain⟨o1,f,h⟩:=bnd h;refine q07 (fun e w =>∃(N:Int) (M:Mem),e=[(1,z),(5,Value.int .u64 N)]/\St w0 M0 M [] w/\Sl M encB z E/\some N=some o1) [] ?_ ?_ (trivial)
 .
  refine BL (q0p (fun m e w =>∃(O:Int) (K:Int) (M:Mem),e=[(1,z),(5,Value.int .u64 O),(10,z),(11,I (E.length:Int)),(12,I K)]/\St w0 M0 M [] w/\Sl M encB z E/\Y4D E m O K=some o1) FU [(1,_),(5,_),(10,_),(11,_),(12,_)] ⟨rfl,rfl,rfl,rfl,rfl,trivial⟩ ⟨_,_,_,rfl,H,u,f⟩ ?_);rintro U e w ⟨O,K,M,rfl,H,u,f⟩;rcases U with _|U
  . rw[Y4D] at f;cases f
  rw[Y4D] at f;refine SQ (RG (ST (q0n G G) G (NL (TN (SQ ?_)))));refine CB (p:=K<(E.length:Int)) G (fun J=>?_) fun J=>?_
  .
   rw[if_pos J] at f;refine SK (TN (SQ (BL (SQ ?_))));obtain⟨c8,V,f⟩:=bnd f;obtain⟨a5,a6,Y,Z⟩:=u.atC V;refine RG (ST (q0w Y Tu26 Ts5 G G) G (ST (q0m H G Z Ta5) G (AS G G (NL (TN (SQ (RG (MV G G (MV G G (ST (Ex.conv Tu5 Tu66 G) G (ST (Ex.xorU G G) G (ST (Ex.mul G G) G (AS G G (NL (TN (RG (MV G G (MV G G (ST (Ex.shr G G Dc) G (ST (Ex.xorU G G) G (AS G G (NL (IB (TN ?_))))))))))))))))))))))));obtain⟨n9,a0,f⟩:=bnd f;refine RG (ST (q0b G G a0) G (MV G G (NL ?_)));exact AG U ⟨_,_,_,G,H,u,f⟩ (l04 _)
  rw[if_neg J] at f;refine q0o (q04 (q04 (q0g ?_)));exact MN ⟨_,_,G,H,u,f⟩
 rintro e w ⟨N,M,rfl,H,u,a4⟩;obtain rfl:=oI a4;refine TN (SQ (RG (MV G G (MV G G (ST (q0V Tu26 u G) G (ST (Ex.conv Tu3 Tu66 G) G (ST (Ex.xorU G G) G (ST (Ex.mul G G) G (AS G G (NL (TN (SQ (RG (MV G G (MV G G (ST (Ex.shr G G Dc) G (ST (Ex.xorU G G) G (AS G G (NL (TN (RT ?_)))))))))))))))))))));obtain rfl:=oI h;exact q08 G G H.ext G
theorem Y6L {E:Int}{r:Ls}(h:Y6u E=some r):Ct Tryz.prog 67 [Value.int .u64 E] (fun M=>True) (fun v M=>v=S r):=by
 refine Ct.of Tryz.func67 (enters Tryz.func67 Kr G) G G G ?_;intro w0 M0 H hp;unfold Y6u at h;refine SQ (RG (AS G G (NL (TN (SQ ?_)))));obtain⟨J,a2,h⟩:=bnd h;refine RG (WR.mkC (enc:=encB) (z0:=(0:UInt8)) xty26 G H G G a2 (q00 G) G ?_);intro u w H;refine AS G G (NL (TN (SQ (SQ (RG (MV G G (ST (q1w (l:=J) Tu26 H Km G) G ?_)))))));refine MV G G (NL (TN ?_));obtain⟨o3,f,h⟩:=bnd h;refine q07 (fun e w =>∃(l5:Ls) (M:Mem),e=[(3,u)]/\St w0 M0 M [RowI 5 encB u l5] w/\some l5=some o3) [] ?_ ?_ (trivial)
 .
  refine BL (q0p (fun m e w =>∃(K:Ls) (N:Int) (M:Mem),e=[(0,Value.int .u64 E),(3,u),(7,I (J.length:Int)),(8,I N)]/\St w0 M0 M [RowI 5 encB u K] w/\Y4E E J m K N=some o3) FU [(0,_),(3,_),(7,_),(8,_)] ⟨rfl,rfl,rfl,rfl,trivial⟩ ⟨_,_,_,rfl,H,f⟩ ?_);rintro m8 e w ⟨K,N,M,rfl,H,f⟩;rcases m8 with _|m8
  . rw[Y4E] at f;cases f
  rw[Y4E] at f;refine SQ (RG (ST (q0n G G) G (NL (TN (SQ ?_)))));refine CB (p:=N<(J.length:Int)) G (fun z=>?_) fun z=>?_
  .
   rw[if_pos z] at f;refine SK (TN (SQ (BL (SQ (RG (MV G G (AS G G (NL (TN ?_)))))))));obtain⟨ab,O,f⟩:=bnd f;obtain⟨ac,U,f⟩:=bnd f;obtain⟨ad,V,f⟩:=bnd f;obtain⟨a9,Y,f⟩:=bnd f;obtain⟨ae,Z,f⟩:=bnd f;obtain⟨ah,a0,f⟩:=bnd f;refine RG (MV G G (MV G G (MV G G (MV G G (ST (Ex.mulC G G O) G (ST (q0W G G U) G (ST (Ex.shrU G G V) G (ST (Ex.andU G G) G (ST (q0G Tu9 G G Y) G (WR.idxRowC (l:=K) H Tu26 Ts5 Km G G Z (q00 G) G ?_))))))))));intro ai a5;refine q1k (a:=a9) H G G ⟨G,G⟩ a5 (fun _=>by repeat first|exact .head|apply Upd.tail) a0 Ts5 (q00 G) ?_;intro w H;refine NL (IB (TN ?_));obtain⟨aj,a1,f⟩:=bnd f;refine RG (ST (q0b G G a1) G (MV G G (NL ?_)));exact AG m8 ⟨_,_,_,G,H,f⟩ (l04 _)
  rw[if_neg z] at f;refine q0o (q04 (q04 (q0g ?_)));exact MN ⟨_,_,G,H,f⟩
 rintro e w ⟨l5,M,rfl,H,aa⟩;obtain rfl:=oI aa;refine TN (SQ (RG (MV G G ?_)));obtain⟨M,ak,a6,H⟩:=H.freezeRow (v:=u) (enc:=encB) (t:=5) Kv;refine ST (Ex.toStr Tu26 Tu5 Tu9 H (a6) G) G (AS G G (NL (TN (RT ?_))));obtain rfl:=oI h;exact q08 G G H.ext G
theorem Y76 {p0:Z0G}{p1:Ls}{p2:Int}{p3:List Ls}{U:Value}{V:Value}{Y:Value}{r:(Ls × Bool)}(h:Y6a p0 p1 p2 p3=some r):Ct Tryz.prog 37 [Value.agg #[U,V],S p1,Value.int .u64 p2,Y] (fun M=>GlF (fun w =>∃m,w.cell? ⟨0,0,none⟩=some (.int .i64 m)) M/\SlS M 2 xenc63 U p0.1/\Sl M encB V p0.2/\Sl M encS Y p3) (fun v M=>v=Value.tuple #[S r.1,Value.bool r.2]):=by
 refine Ct.of Tryz.func37 (enters Tryz.func37 Kr G) G G G ?_;intro w0 M0 H hp;obtain⟨J,N,a1,z⟩:=hp;unfold Y6a at h;refine SQ (RG (q0I [_,_] H G G (q00 G) G ?_));intro b1 w H;refine AS G G (AS G G (NL (TN (SQ ?_))));obtain⟨⟨l1,⟨n2,n3⟩⟩,ap,h⟩:=bnd h;try dsimp only at h
 refine RG (ST (q01 Tu28 G Ts26 Dc G) G (ST (XL H Ta26) G ?_));refine q03 H (Y6j ap) G ⟨J,a1⟩ (q00 G) G ?_;intro b2 M w H f hR;replace J:=J.mono f;replace N:=N.mono f;replace z:=z.mono f;try dsimp only at hR
 obtain⟨Z,rfl,u⟩:=hR;refine MV G G (ST (q0e G G) G (ST (q0e G G) G (q0f [_,_] H Tz33 G (q00 G) G ?_)));intro az w H;refine AS G G (q05 [_,_] H G G G Ku Ts33 G Kf Kf (q00 G) ?_);intro w H;refine NL (TN (SQ ?_));obtain⟨⟨l5,⟨n6,n7⟩⟩,aq,h⟩:=bnd h;try dsimp only at h
 refine RG (ST (q01 Tu28 G Ts25 Dc G) G (ST (XL H Ta25) G ?_));refine MV G G (WR.callO H (Y5X aq) G ⟨N,z⟩ (q00 G) G ?_);intro b3 M w its H f hR;replace J:=J.mono f;replace z:=z.mono f;replace u:=u.mono f;try dsimp only at hR
 obtain⟨K,rfl,rfl⟩:=hR;simp only[l01,l02] at H;refine MV G G (ST (q0e G G) G (ST (q0e G G) G (q0f [_,_] H Tz33 G (q00 G) G ?_)));intro b0 w H;refine AS G G (q05 [_,_] H G G G Ku Ts33 G Kf Kf (q00 G) ?_);intro w H;refine NL (TN (SQ (SQ ?_)));obtain⟨ar,E,h⟩:=bnd h;refine q07 (fun e w =>∃(a0:Bool) (M:Mem),e=[(1,S p1),(2,Value.int .u64 p2),(3,Y),(10,Z),(12,K),(33,Value.bool a0)]/\St w0 M0 M [RowI 5 encB K l5] w/\GlF (fun w =>∃m,w.cell? ⟨0,0,none⟩=some (.int .i64 m)) M/\Sl M encS Y p3/\Sl M encB Z l1/\some a0=some ar) [] ?_ ?_ (trivial)
 .
  obtain⟨au,ah,E⟩:=bnd E;refine RG (ST (q0a H G Km Ta33 Ts33 Kf) G ?_);refine q03 H (Y05 ah) G trivial (q00 G) G ?_;intro b4 M w H f hR;replace J:=J.mono f;replace z:=z.mono f;replace u:=u.mono f;obtain rfl:=hR;refine MV G G ?_;rcases au with _|_
  .
   rw[if_neg l00] at E;obtain⟨b5,ai,E⟩:=bnd E;refine SG (q0a H G Km Ta33 Ts33 Kf) G G G ?_;refine q03 H (Y05 ai) G trivial (q0h G G G) G ?_;intro b6 M w H f hR;replace J:=J.mono f;replace z:=z.mono f;replace u:=u.mono f;obtain rfl:=hR;refine PF G G G (NL ?_);exact MN ⟨_,_,G,(H.pick (L':=[RowI 5 encB K l5]) Kp),J,z,u,E⟩
  rw[if_pos rfl] at E;refine GT G G G (GT G G G (PT G G G (NL ?_)));exact MN ⟨_,_,G,(H.pick (L':=[RowI 5 encB K l5]) Kp),J,z,u,E⟩
 rintro e w ⟨a0,M,rfl,H,J,z,u,av⟩;obtain rfl:=oI av;refine TN ?_;refine q09 G (fun O=>?_) (fun O=>?_)
 .
  subst O;rw[if_pos rfl] at h;cases h
 subst O;rw[if_neg l00] at h;refine SK (TN (SQ ?_));obtain⟨b7,a3,h⟩:=bnd h;obtain⟨b8,a4,h⟩:=bnd h;obtain⟨b9,aj,h⟩:=bnd h;obtain⟨ba,a5,h⟩:=bnd h;obtain⟨bb,a6,h⟩:=bnd h;obtain⟨bc,ak,h⟩:=bnd h;obtain⟨bd,al,h⟩:=bnd h;obtain⟨be,a7,h⟩:=bnd h;obtain⟨bf,a8,h⟩:=bnd h;refine RG (MV G G (ST (q0r G G a3) G (ST (q0r G G a4) G (MV G G (q03 H (Y6w aj) G (z) (q00 G) G ?_)))));intro bg M w H f hR;replace u:=u.mono f;obtain rfl:=hR;refine ST (q0r G G a5) G (ST (q0r G G a6) G (MV G G (MV G G (q03 H (Y6K ak) G (u) (q00 G) G ?_))));intro bh M w H f hR;obtain rfl:=hR;refine q03 H (Y6L al) G trivial (q00 G) G ?_;intro bi M w H f hR;obtain rfl:=hR;refine ST (q0r G G a7) G (ST (q0r G G a8) G (AS G G (NL (TN (SQ ?_)))));obtain⟨bj,a9,h⟩:=bnd h;obtain⟨bm,am,h⟩:=bnd h;obtain⟨bn,an,h⟩:=bnd h;obtain⟨bo,aa,h⟩:=bnd h;refine RG (MV G G (MV G G (MV G G (MV G G (q0R (l:=l5) xty26 Tu9 H G (fun _=>by repeat first|exact .head|apply Upd.tail) G a9 (q00 G) G ?_)))));intro aw w H;obtain⟨M,f,ao,H⟩:=H.freezeRow (v:=aw) (enc:=encB) (t:=5) Kv;refine q03 H (Y6K am) G (ao) (q00 G) G ?_;intro bp M w H f hR;obtain rfl:=hR;refine q03 H (Y6L an) G trivial (q00 G) G ?_;intro bq M w H f hR;obtain rfl:=hR;refine ST (q0r G G aa) G (AS G G (AS G G (NL (TN (RT ?_)))));obtain rfl:=oI h;exact q0M G G G H.ext G
theorem Y0A {J:List (List Z07)}{E:Value}{r:List Z07}(h:Y3l J=some r):Ct Tryz.prog 69 [E] (fun M=>SlR xrl25 M E J) (fun v M=>SlS M 2 xenc63 v r):=by
 refine Ct.of Tryz.func69 (enters Tryz.func69 Kr G) G G G ?_;intro w0 M0 H hp;have u:=hp;unfold Y3l at h;refine SQ (RG (AS G G (NL (TN (SQ (RG (AS G G (NL (TN (SQ (SQ (RG (MV G G (ST (q0S Tu165 u G) G (MV G G (NL (TN ?_)))))))))))))))));obtain⟨o1,z,h⟩:=bnd h;refine q07 (fun e w =>∃(n3:Int) (M:Mem),e=[(0,E),(3,I n3)]/\St w0 M0 M [] w/\SlR xrl25 M E J/\some n3=some o1) [] ?_ ?_ (trivial)
 .
  refine BL (q0p (fun m e w =>∃(n4:Int) (n5:Int) (M:Mem),e=[(0,E),(3,I n4),(9,E),(10,I (J.length:Int)),(11,I n5)]/\St w0 M0 M [] w/\SlR xrl25 M E J/\Y1K J m n4 n5=some o1) FU [(0,_),(3,_),(9,_),(10,_),(11,_)] ⟨rfl,rfl,rfl,rfl,rfl,trivial⟩ ⟨_,_,_,rfl,H,u,z⟩ ?_);rintro m6 e w ⟨n4,n5,M,rfl,H,u,z⟩;rcases m6 with _|m6
  . rw[Y1K] at z;cases z
  rw[Y1K] at z;refine SQ (RG (ST (q0n G G) G (NL (TN (SQ ?_)))));refine CB (p:=n5<(J.length:Int)) G (fun a0=>?_) fun a0=>?_
  .
   rw[if_pos a0] at z;refine SK (TN (SQ (BL (SQ ?_))));obtain⟨a8,am,z⟩:=bnd z;obtain⟨b2,b5,a9,an,ao,K⟩:=u.atC am;replace K:SlS _ 2 xenc63 (hv a9) a8:=K;have a1:=K;refine RG (ST (q0w an Tu165 Ts25 G G) G (ST (q0m H G (ao.at (j:=0) G) Ta25) G (AS G G (NL (TN (SQ ?_))))));obtain⟨n9,ap,z⟩:=bnd z;refine RG (MV G G (MV G G (ST (q0O Tu25 a1 G) G (ST (q0b G G ap) G (AS G G (NL (TN (SQ (RG (MV G G (ST (q0n G G) G (NL (TN ?_)))))))))))));refine CB (p:=n9<(0:Int)) G (fun N=>?_) fun N=>?_
   .
    rw[if_pos N] at z;cases z
   rw[if_neg N] at z;refine SK (IB (TN ?_));obtain⟨b6,aa,z⟩:=bnd z;refine RG (ST (q0b G G aa) G (MV G G (NL ?_)));exact AG m6 ⟨_,_,_,G,H,u,z⟩ (l04 _)
  rw[if_neg a0] at z;refine q0o (q04 (q04 (q0g ?_)));exact MN ⟨_,_,G,H,u,z⟩
 rintro e w ⟨n3,M,rfl,H,u,ax⟩;obtain rfl:=oI ax;refine TN (SQ ?_);obtain⟨b7,aq,h⟩:=bnd h;refine RG (MV G G (WR.callO H (Y5A aq) G trivial (q00 G) G ?_));intro ay M w its H ah hR;replace u:=u.mono ah;obtain⟨ay,rfl,rfl⟩:=hR;simp only[l01,l02] at H;refine AS G G (NL (TN (SQ (SQ (RG (MV G G (ST (q0S Tu165 u G) G (MV G G (NL (TN ?_))))))))));obtain⟨ai,f,h⟩:=bnd h;refine q07 (fun e w =>∃(a2:List Z07) (V:Value) (M:Mem),e=[(6,V)]/\St w0 M0 M [RowS 63 2 xenc63 V a2] w/\some a2=some ai) [] ?_ ?_ (trivial)
 .
  refine BL (q0p (fun m e w =>∃(Y:List Z07) (a3:Value) (Z:Int) (M:Mem),e=[(6,a3),(25,E),(26,I (J.length:Int)),(27,I Z)]/\St w0 M0 M [RowS 63 2 xenc63 a3 Y] w/\SlR xrl25 M E J/\Y1L J m Y Z=some ai) FU [(6,_),(25,_),(26,_),(27,_)] ⟨rfl,rfl,rfl,rfl,trivial⟩ ⟨_,_,_,_,rfl,H,u,f⟩ ?_);rintro a4 e w ⟨Y,a3,Z,M,rfl,H,u,f⟩;rcases a4 with _|a4
  . rw[Y1L] at f;cases f
  rw[Y1L] at f;refine SQ (RG (ST (q0n G G) G (NL (TN (SQ ?_)))));refine CB (p:=Z<(J.length:Int)) G (fun O=>?_) fun O=>?_
  .
   rw[if_pos O] at f;refine SK (TN (SQ (BL (SQ ?_))));obtain⟨az,ab,f⟩:=bnd f;obtain⟨b4,b8,ac,ar,au,U⟩:=u.atC ab;replace U:SlS _ 2 xenc63 (hv ac) az:=U;have a5:=U;refine RG (ST (q0w ar Tu165 Ts25 G G) G (ST (q0m H G (au.at (j:=0) G) Ta25) G (AS G G (NL (TN ?_)))));obtain⟨b9,ad,f⟩:=bnd f;refine RG (MV G G (MV G G (q1j (l:=Y) xty25 G xone63 H G (fun _=>by repeat first|exact .head|apply Upd.tail) G (a5) ad (q00 G) G ?_)));intro ba w H;refine AS G G (NL (IB (TN ?_)));obtain⟨bb,ae,f⟩:=bnd f;refine RG (ST (q0b G G ae) G (MV G G (NL ?_)));exact AG a4 ⟨_,_,_,_,G,H,u,f⟩ (l04 _)
  rw[if_neg O] at f;refine q0o (q04 (q04 (q0g ?_)));exact MN ⟨_,_,_,G,H,f⟩
 rintro e w ⟨a2,V,M,rfl,H,b0⟩;obtain rfl:=oI b0;refine TN (SQ (RG (MV G G (AS G G (NL (TN (RT ?_)))))));obtain⟨M,ah,av,H⟩:=H.freezeRowS (v:=V) (enc:=xenc63) (t:=63) Kv (fun _=>rfl);obtain rfl:=oI h;exact q08 G G H.ext av
theorem Y6U {p0:Z0G}{Y:Ls}{Z:Ls}{a6:Value}{a7:Value}{r:Z0G}(h:Y5Q p0 Y Z=some r):Ct Tryz.prog 38 [Value.agg #[a6,a7],S Y,S Z] (fun M=>SlS M 2 xenc63 a6 p0.1/\Sl M encB a7 p0.2) (fun v M =>∃a9 aa,v=Value.agg #[a9,aa]/\SlS M 2 xenc63 a9 r.1/\Sl M encB aa r.2):=by
 refine Ct.of Tryz.func38 (enters Tryz.func38 Kr G) G G G ?_;intro w0 M0 H hp;obtain⟨E,u⟩:=hp;unfold Y5Q at h;refine SQ (RG (q0I [_,_] H G G (q00 G) G ?_));intro aj w H;refine q0f [_,_] H Tz28 G (q00 G) G ?_;intro V w H;refine NL (TN (SQ ?_));obtain⟨l3,a0,h⟩:=bnd h;obtain⟨l5,a1,h⟩:=bnd h;refine q0Y (fun e w =>∃(v7:Value) (v9:Value) (M:Mem),e=[(6,ptr V 0)]/\St w0 M0 M [.blk V (.cells #[v7,v9] 28)] w/\SlS M 2 xenc63 v7 l3/\Sl M encB v9 l5) ?_ ?_
 .
  refine q0v (m:=13) G G H ?_;intro w H;refine TK 0 G (fun _=>q02 G) G (TK 1 G (fun _=>q02 G) G (TK 2 G (fun _=>q0A [S Y,S Z] Tu63 Tz63 (xplaces63 Tu63) G G) G (TK 4 G (fun _=>q01 Tu28 G Ts25 Dc G) G (TK 8 G (fun _=>q01 Tu28 G Ts26 Dc G) G ?_))));refine WA.three (i:=3) (j:=5) (k:=9) Kr G G G ?_ ?_ ?_
  .
   refine q0Q (enc:=xenc63) xty25 ([(Y,Z)]:List Z07) H (fun _=>G) G Kr G G G (q00 G) G ?_;intro a8 M w H z K;replace E:=E.mono z;replace u:=u.mono z;refine NA (q0B (i:=5) [9] G Kr Kr Kr (XL H Ta25) (q00 G) G G (fun _ _=>G) ?_);refine q0F (i:=6) (j:=9) Kr G G ?_ ?_
   .
    have Hn:=H;obtain⟨q1,rfl⟩:=K.hd;have H:=Hn;have Hn:=H;obtain⟨q2,rfl⟩:=E.hd;have H:=Hn;refine q0Q (enc:=xrl25.enc) xty165 ([q1,q2]:List Hd) H (fun _=>G) G Kr G G G (q00 G) G ?_;intro a5 M w H z N;replace E:=E.mono z;replace u:=u.mono z;replace K:=K.mono z;replace N:=q1q (R:=xrl25) (l:=([([(Y,Z)]:List Z07),p0.1]:List (List Z07))) N ⟨K,E,trivial⟩;refine NA ?_;refine q0F (i:=7) (j:=9) Kr G G ?_ ?_
    .
     refine q03 H (Y0A a0) G (N) (q00 G) G ?_;intro O M w H z hR;replace u:=u.mono z;have f:=hR;refine NA (q0i (fuel:=0) [9,10,11,12] G Kr (ST (XL H Ta26) G ?_));refine q03 H (Y0J a1) G (u) (q00 G) G ?_;intro U M w H z hR;replace f:=f.mono z;have J:=hR;refine ST (q0A [O,U] Tu28 Tz28 (xplaces28 Tu28) G (by obtain⟨_,_,_,hv,-⟩:=f;rw [hv];clear hv;obtain ⟨_,_,hv,-⟩:=J;rw [hv];clear hv;rfl)) G ?_;refine q05 [_,_] H G G G Ku Ts28 G Kf (by simp only[l0f,l0j,(f).one.2,(J).one.2];rfl) (q00 G) ?_;intro w H;refine NA (q0d Kr ?_);exact MP ⟨_,_,_,G,(H.pick (L':=[.blk V (.cells #[O,U] 28)]) Kp),f,J⟩
    refine ST (XL H Ta26) G ?_;refine NA (q0i (fuel:=0) [7,10,11,12] G Kr (q03 H (Y0A a0) G (N) (q00 G) G ?_));intro O M w H z hR;replace u:=u.mono z;have f:=hR;refine q03 H (Y0J a1) G (u) (q00 G) G ?_;intro U M w H z hR;replace f:=f.mono z;have J:=hR;refine ST (q0A [O,U] Tu28 Tz28 (xplaces28 Tu28) G (by obtain⟨_,_,_,hv,-⟩:=f;rw [hv];clear hv;obtain ⟨_,_,hv,-⟩:=J;rw [hv];clear hv;rfl)) G ?_;refine q05 [_,_] H G G G Ku Ts28 G Kf (by simp only[l0f,l0j,(f).one.2,(J).one.2];rfl) (q00 G) ?_;intro w H;refine NA (q0d Kr ?_);exact MP ⟨_,_,_,G,(H.pick (L':=[.blk V (.cells #[O,U] 28)]) Kp),f,J⟩
   refine ST (XL H Ta26) G ?_;refine NA (q0i (fuel:=0) [6,7,10,11,12] G Kr ?_);have Hn:=H;obtain⟨q1,rfl⟩:=K.hd;have H:=Hn;have Hn:=H;obtain⟨q2,rfl⟩:=E.hd;have H:=Hn;refine q0Q (enc:=xrl25.enc) xty165 ([q1,q2]:List Hd) H (fun _=>G) G Kr G G G (q00 G) G ?_;intro a5 M w H z N;replace E:=E.mono z;replace u:=u.mono z;replace K:=K.mono z;replace N:=q1q (R:=xrl25) (l:=([([(Y,Z)]:List Z07),p0.1]:List (List Z07))) N ⟨K,E,trivial⟩;refine q03 H (Y0A a0) G (N) (q00 G) G ?_;intro O M w H z hR;replace u:=u.mono z;have f:=hR;refine q03 H (Y0J a1) G (u) (q00 G) G ?_;intro U M w H z hR;replace f:=f.mono z;have J:=hR;refine ST (q0A [O,U] Tu28 Tz28 (xplaces28 Tu28) G (by obtain⟨_,_,_,hv,-⟩:=f;rw [hv];clear hv;obtain ⟨_,_,hv,-⟩:=J;rw [hv];clear hv;rfl)) G ?_;refine q05 [_,_] H G G G Ku Ts28 G Kf (by simp only[l0f,l0j,(f).one.2,(J).one.2];rfl) (q00 G) ?_;intro w H;refine NA (q0d Kr ?_);exact MP ⟨_,_,_,G,(H.pick (L':=[.blk V (.cells #[O,U] 28)]) Kp),f,J⟩
  .
   refine ST (XL H Ta25) G ?_;refine NA ?_;refine q0F (i:=3) (j:=9) Kr G G ?_ ?_
   .
    refine q0Q (enc:=xenc63) xty25 ([(Y,Z)]:List Z07) H (fun _=>G) G Kr G G G (q00 G) G ?_;intro a8 M w H z K;replace E:=E.mono z;replace u:=u.mono z;refine NA ?_;refine q0F (i:=6) (j:=9) Kr G G ?_ ?_
    .
     have Hn:=H;obtain⟨q1,rfl⟩:=K.hd;have H:=Hn;have Hn:=H;obtain⟨q2,rfl⟩:=E.hd;have H:=Hn;refine q0Q (enc:=xrl25.enc) xty165 ([q1,q2]:List Hd) H (fun _=>G) G Kr G G G (q00 G) G ?_;intro a5 M w H z N;replace E:=E.mono z;replace u:=u.mono z;replace K:=K.mono z;replace N:=q1q (R:=xrl25) (l:=([([(Y,Z)]:List Z07),p0.1]:List (List Z07))) N ⟨K,E,trivial⟩;refine NA ?_;refine q0F (i:=7) (j:=9) Kr G G ?_ ?_
     .
      refine q03 H (Y0A a0) G (N) (q00 G) G ?_;intro O M w H z hR;replace u:=u.mono z;have f:=hR;refine NA (q0i (fuel:=0) [9,10,11,12] G Kr (ST (XL H Ta26) G ?_));refine q03 H (Y0J a1) G (u) (q00 G) G ?_;intro U M w H z hR;replace f:=f.mono z;have J:=hR;refine ST (q0A [O,U] Tu28 Tz28 (xplaces28 Tu28) G (by obtain⟨_,_,_,hv,-⟩:=f;rw [hv];clear hv;obtain ⟨_,_,hv,-⟩:=J;rw [hv];clear hv;rfl)) G ?_;refine q05 [_,_] H G G G Ku Ts28 G Kf (by simp only[l0f,l0j,(f).one.2,(J).one.2];rfl) (q00 G) ?_;intro w H;refine NA (q0d Kr ?_);exact MP ⟨_,_,_,G,(H.pick (L':=[.blk V (.cells #[O,U] 28)]) Kp),f,J⟩
     refine ST (XL H Ta26) G ?_;refine NA (q0i (fuel:=0) [7,10,11,12] G Kr (q03 H (Y0A a0) G (N) (q00 G) G ?_));intro O M w H z hR;replace u:=u.mono z;have f:=hR;refine q03 H (Y0J a1) G (u) (q00 G) G ?_;intro U M w H z hR;replace f:=f.mono z;have J:=hR;refine ST (q0A [O,U] Tu28 Tz28 (xplaces28 Tu28) G (by obtain⟨_,_,_,hv,-⟩:=f;rw [hv];clear hv;obtain ⟨_,_,hv,-⟩:=J;rw [hv];clear hv;rfl)) G ?_;refine q05 [_,_] H G G G Ku Ts28 G Kf (by simp only[l0f,l0j,(f).one.2,(J).one.2];rfl) (q00 G) ?_;intro w H;refine NA (q0d Kr ?_);exact MP ⟨_,_,_,G,(H.pick (L':=[.blk V (.cells #[O,U] 28)]) Kp),f,J⟩
    refine ST (XL H Ta26) G ?_;refine NA (q0i (fuel:=0) [6,7,10,11,12] G Kr ?_);have Hn:=H;obtain⟨q1,rfl⟩:=K.hd;have H:=Hn;have Hn:=H;obtain⟨q2,rfl⟩:=E.hd;have H:=Hn;refine q0Q (enc:=xrl25.enc) xty165 ([q1,q2]:List Hd) H (fun _=>G) G Kr G G G (q00 G) G ?_;intro a5 M w H z N;replace E:=E.mono z;replace u:=u.mono z;replace K:=K.mono z;replace N:=q1q (R:=xrl25) (l:=([([(Y,Z)]:List Z07),p0.1]:List (List Z07))) N ⟨K,E,trivial⟩;refine q03 H (Y0A a0) G (N) (q00 G) G ?_;intro O M w H z hR;replace u:=u.mono z;have f:=hR;refine q03 H (Y0J a1) G (u) (q00 G) G ?_;intro U M w H z hR;replace f:=f.mono z;have J:=hR;refine ST (q0A [O,U] Tu28 Tz28 (xplaces28 Tu28) G (by obtain⟨_,_,_,hv,-⟩:=f;rw [hv];clear hv;obtain ⟨_,_,hv,-⟩:=J;rw [hv];clear hv;rfl)) G ?_;refine q05 [_,_] H G G G Ku Ts28 G Kf (by simp only[l0f,l0j,(f).one.2,(J).one.2];rfl) (q00 G) ?_;intro w H;refine NA (q0d Kr ?_);exact MP ⟨_,_,_,G,(H.pick (L':=[.blk V (.cells #[O,U] 28)]) Kp),f,J⟩
   refine ST (XL H Ta26) G ?_;refine NA (q0i (fuel:=0) [3,6,7,10,11,12] G Kr (q0Q (enc:=xenc63) xty25 ([(Y,Z)]:List Z07) H (fun _=>G) G Kr G G G (q00 G) G ?_));intro a8 M w H z K;replace E:=E.mono z;replace u:=u.mono z;have Hn:=H;obtain⟨q1,rfl⟩:=K.hd;have H:=Hn;have Hn:=H;obtain⟨q2,rfl⟩:=E.hd;have H:=Hn;refine q0Q (enc:=xrl25.enc) xty165 ([q1,q2]:List Hd) H (fun _=>G) G Kr G G G (q00 G) G ?_;intro a5 M w H z N;replace E:=E.mono z;replace u:=u.mono z;replace K:=K.mono z;replace N:=q1q (R:=xrl25) (l:=([([(Y,Z)]:List Z07),p0.1]:List (List Z07))) N ⟨K,E,trivial⟩;refine q03 H (Y0A a0) G (N) (q00 G) G ?_;intro O M w H z hR;replace u:=u.mono z;have f:=hR;refine q03 H (Y0J a1) G (u) (q00 G) G ?_;intro U M w H z hR;replace f:=f.mono z;have J:=hR;refine ST (q0A [O,U] Tu28 Tz28 (xplaces28 Tu28) G (by obtain⟨_,_,_,hv,-⟩:=f;rw [hv];clear hv;obtain ⟨_,_,hv,-⟩:=J;rw [hv];clear hv;rfl)) G ?_;refine q05 [_,_] H G G G Ku Ts28 G Kf (by simp only[l0f,l0j,(f).one.2,(J).one.2];rfl) (q00 G) ?_;intro w H;refine NA (q0d Kr ?_);exact MP ⟨_,_,_,G,(H.pick (L':=[.blk V (.cells #[O,U] 28)]) Kp),f,J⟩
  refine ST (XL H Ta26) G ?_;refine NA ?_;refine q0F (i:=3) (j:=5) Kr G G ?_ ?_
  .
   refine q0Q (enc:=xenc63) xty25 ([(Y,Z)]:List Z07) H (fun _=>G) G Kr G G G (q00 G) G ?_;intro a8 M w H z K;replace E:=E.mono z;replace u:=u.mono z;refine NA (q0i (fuel:=0) [5,6,7,10,11,12] G Kr (ST (XL H Ta25) G ?_));have Hn:=H;obtain⟨q1,rfl⟩:=K.hd;have H:=Hn;have Hn:=H;obtain⟨q2,rfl⟩:=E.hd;have H:=Hn;refine q0Q (enc:=xrl25.enc) xty165 ([q1,q2]:List Hd) H (fun _=>G) G Kr G G G (q00 G) G ?_;intro a5 M w H z N;replace E:=E.mono z;replace u:=u.mono z;replace K:=K.mono z;replace N:=q1q (R:=xrl25) (l:=([([(Y,Z)]:List Z07),p0.1]:List (List Z07))) N ⟨K,E,trivial⟩;refine q03 H (Y0A a0) G (N) (q00 G) G ?_;intro O M w H z hR;replace u:=u.mono z;have f:=hR;refine q03 H (Y0J a1) G (u) (q00 G) G ?_;intro U M w H z hR;replace f:=f.mono z;have J:=hR;refine ST (q0A [O,U] Tu28 Tz28 (xplaces28 Tu28) G (by obtain⟨_,_,_,hv,-⟩:=f;rw [hv];clear hv;obtain ⟨_,_,hv,-⟩:=J;rw [hv];clear hv;rfl)) G ?_;refine q05 [_,_] H G G G Ku Ts28 G Kf (by simp only[l0f,l0j,(f).one.2,(J).one.2];rfl) (q00 G) ?_;intro w H;refine NA (q0d Kr ?_);exact MP ⟨_,_,_,G,(H.pick (L':=[.blk V (.cells #[O,U] 28)]) Kp),f,J⟩
  refine ST (XL H Ta25) G ?_;refine NA (q0i (fuel:=0) [3,6,7,10,11,12] G Kr (q0Q (enc:=xenc63) xty25 ([(Y,Z)]:List Z07) H (fun _=>G) G Kr G G G (q00 G) G ?_));intro a8 M w H z K;replace E:=E.mono z;replace u:=u.mono z;have Hn:=H;obtain⟨q1,rfl⟩:=K.hd;have H:=Hn;have Hn:=H;obtain⟨q2,rfl⟩:=E.hd;have H:=Hn;refine q0Q (enc:=xrl25.enc) xty165 ([q1,q2]:List Hd) H (fun _=>G) G Kr G G G (q00 G) G ?_;intro a5 M w H z N;replace E:=E.mono z;replace u:=u.mono z;replace K:=K.mono z;replace N:=q1q (R:=xrl25) (l:=([([(Y,Z)]:List Z07),p0.1]:List (List Z07))) N ⟨K,E,trivial⟩;refine q03 H (Y0A a0) G (N) (q00 G) G ?_;intro O M w H z hR;replace u:=u.mono z;have f:=hR;refine q03 H (Y0J a1) G (u) (q00 G) G ?_;intro U M w H z hR;replace f:=f.mono z;have J:=hR;refine ST (q0A [O,U] Tu28 Tz28 (xplaces28 Tu28) G (by obtain⟨_,_,_,hv,-⟩:=f;rw [hv];clear hv;obtain ⟨_,_,hv,-⟩:=J;rw [hv];clear hv;rfl)) G ?_;refine q05 [_,_] H G G G Ku Ts28 G Kf (by simp only[l0f,l0j,(f).one.2,(J).one.2];rfl) (q00 G) ?_;intro w H;refine NA (q0d Kr ?_);exact MP ⟨_,_,_,G,(H.pick (L':=[.blk V (.cells #[O,U] 28)]) Kp),f,J⟩
 rintro e w ⟨v7,v9,M,rfl,H,ad,K⟩;refine TN (RT ?_);obtain rfl:=oI h;exact q08 G ⟨_,G,H.loadAgg Km Ta28 Ts28 Kf⟩ H.ext (⟨_,_,G,ad,K⟩)
theorem Y7c {p0:Z0G}{p1:Ls}{p2:Int}{p3:List Ls}{a1:Value}{a2:Value}{ab:Value}{r:(Z0G × Z0a)}(h:Y6v p0 p1 p2 p3=some r):Ct Tryz.prog 17 [Value.agg #[a1,a2],S p1,Value.int .u64 p2,ab] (fun M=>GlF (fun w =>∃m,w.cell? ⟨0,0,none⟩=some (.int .i64 m)) M/\SlS M 2 xenc63 a1 p0.1/\Sl M encB a2 p0.2/\Sl M encS ab p3) (fun v M =>∃a5 a6,v=Value.tuple #[Value.agg #[a5,a6],Value.agg #[I r.2.1,I r.2.2]]/\SlS M 2 xenc63 a5 r.1.1/\Sl M encB a6 r.1.2):=by
 refine Ct.of Tryz.func17 (enters Tryz.func17 Kr G) G G G ?_;intro w0 M0 H hp;obtain⟨K,E,J,U⟩:=hp;unfold Y6v at h;refine SQ (RG (q0I [_,_] H G G (q00 G) G ?_));intro b2 w H;refine q0f [_,_] H Tz28 G (q00 G) G ?_;intro a3 w H;refine q0f [_,_] H Tz33 G (q00 G) G ?_;intro a4 w H;refine NL (TN (SQ (SQ ?_)));obtain⟨⟨n1,n2⟩,ap,h⟩:=bnd h;try dsimp only at h
 refine RG (ST (q0a H G Km Ta28 Ts28 Kf) G ?_);refine q03 H (Y3n ap) G ⟨E,J⟩ (q00 G) G ?_;intro b3 M w H f hR;replace K:=K.mono f;replace E:=E.mono f;replace J:=J.mono f;replace U:=U.mono f;try dsimp only at hR
 obtain rfl:=hR;refine q0f [_,_] H Tz33 G (q00 G) G ?_;intro az w H;refine q05 [_,_] H G G G Ku Ts33 G Kf Kf (q00 G) ?_;intro w H;refine NL (TN (SQ ?_));obtain⟨b4,aq,h⟩:=bnd h;refine RG (ST (q0a H G Km Ta33 Ts33 Kf) G ?_);refine q03 H (Y05 aq) G trivial (q00 G) G ?_;intro b5 M w H f hR;replace K:=K.mono f;replace E:=E.mono f;replace J:=J.mono f;replace U:=U.mono f;obtain rfl:=hR;refine NL (TN ?_);refine q09 G (fun a7=>?_) (fun a7=>?_)
 .
  subst a7;rw[if_pos rfl] at h;cases h
 subst a7;rw[if_neg l00] at h;refine SK (TN (SQ (SQ ?_)));obtain⟨b7,au,h⟩:=bnd h;refine RG (MV G G (q03 H (Y5N au) G trivial (q00 G) G ?_));intro b6 M w H f hR;replace K:=K.mono f;replace E:=E.mono f;replace J:=J.mono f;replace U:=U.mono f;obtain rfl:=hR;refine ST (q0y G) G (NL (TN ?_));refine q09 G (fun Z=>?_) (fun Z=>?_)
 .
  replace Z:b7=false:=by simpa using Z
  subst Z;rw[if_neg l00] at h;cases h
 replace Z:b7=true:=by simpa using Z
 subst Z;rw[if_pos rfl] at h;refine SK (TN (SQ (SQ ?_)));obtain⟨ac,ah,h⟩:=bnd h;refine RG (MV G G (q03 H (Y75 ah) G (U) (q00 G) G ?_));intro b8 M w H f hR;replace K:=K.mono f;replace E:=E.mono f;replace J:=J.mono f;replace U:=U.mono f;obtain rfl:=hR;refine ST (q0y G) G (NL (TN ?_));refine q09 G (fun V=>?_) (fun V=>?_)
 .
  replace V:ac=false:=by simpa using V
  subst V;rw[if_neg l00] at h;cases h
 replace V:ac=true:=by simpa using V
 subst V;rw[if_pos rfl] at h;refine SK (TN (SQ ?_));obtain⟨⟨b9,ad⟩,ai,h⟩:=bnd h;try dsimp only at h
 refine RG (ST (q0a H G Km Ta28 Ts28 Kf) G ?_);refine MV G G (MV G G (MV G G (q03 H (Y76 ai) G ⟨K,E,J,U⟩ (q00 G) G ?_)));intro ba M w H f hR;replace K:=K.mono f;replace E:=E.mono f;replace J:=J.mono f;try dsimp only at hR
 obtain rfl:=hR;refine MV G G (ST (q0e G G) G (ST (q0e G G) G (AS G G (AS G G (NL (TN (SQ (SQ (RG (MV G G (ST (q0y G) G (NL (TN ?_)))))))))))));refine q09 G (fun Y=>?_) (fun Y=>?_)
 .
  replace Y:ad=false:=by simpa using Y
  subst Y;rw[if_neg l00] at h;cases h
 replace Y:ad=true:=by simpa using Y
 subst Y;rw[if_pos rfl] at h;refine SK (TN (SQ ?_));obtain⟨⟨av,aw⟩,aj,h⟩:=bnd h;try dsimp only at h
 refine RG (ST (q0a H G Km Ta28 Ts28 Kf) G ?_);refine MV G G (q03 H (Y6U aj) G ⟨E,J⟩ (q00 G) G ?_);intro bb M w H f hR;replace K:=K.mono f;try dsimp only at hR
 obtain⟨N,O,rfl,u,z⟩:=hR;refine q0f [_,_] H Tz28 G (q00 G) G ?_;intro b0 w H;refine q05 [_,_] H G G G Ku Ts28 G Kf (by simp only[l0f,l0j,(u).one.2,(z).one.2];rfl) (q00 G) ?_;intro w H;refine NL (TN (SQ (SQ ?_)));obtain⟨⟨bc,bd⟩,ak,h⟩:=bnd h;try dsimp only at h
 refine RG (ST (q0a H G Km Ta28 Ts28 Kf) G ?_);refine q03 H (Y3n ak) G ⟨u,z⟩ (q00 G) G ?_;intro be M w H f hR;replace K:=K.mono f;replace u:=u.mono f;replace z:=z.mono f;try dsimp only at hR
 obtain rfl:=hR;refine q0f [_,_] H Tz33 G (q00 G) G ?_;intro b1 w H;refine q05 [_,_] H G G G Ku Ts33 G Kf Kf (q00 G) ?_;intro w H;refine NL (TN (SQ ?_));obtain⟨bf,al,h⟩:=bnd h;refine RG (ST (q0a H G Km Ta33 Ts33 Kf) G ?_);refine q03 H (Y05 al) G trivial (q00 G) G ?_;intro bg M w H f hR;replace K:=K.mono f;replace u:=u.mono f;replace z:=z.mono f;obtain rfl:=hR;refine NL (TN ?_);refine q09 G (fun a0=>?_) (fun a0=>?_)
 .
  subst a0;rw[if_pos rfl] at h;cases h
 subst a0;rw[if_neg l00] at h;refine SK (TN (SQ ?_));obtain⟨⟨a8,a9⟩,aa,h⟩:=bnd h;try dsimp only at h
 refine q0Y (fun e w =>∃  (M:Mem),e=[(8,ptr a3 0),(9,ptr a4 0)]/\St w0 M0 M [.blk a3 (.cells #[N,O] 28), .blk a4 (.cells #[I a8,I a9] 33)] w/\GlF (fun w =>∃m,w.cell? ⟨0,0,none⟩=some (.int .i64 m)) M/\SlS M 2 xenc63 N av/\Sl M encB O aw) ?_ ?_
 .
  refine q0v (m:=4) G G H ?_;intro w H;refine q0F (i:=0) (j:=1) Kr G G ?_ ?_
  .
   refine ST (q0a H G Km Ta28 Ts28 Kf) G ?_;refine NA (q0i (fuel:=0) [1,2,3] G Kr (q03 H (Y0i aa) G trivial (q00 G) G ?_));intro ax M w H f hR;replace K:=K.mono f;replace u:=u.mono f;replace z:=z.mono f;try dsimp only at hR
   obtain rfl:=hR;refine q05 [_,_] H G G G Ku Ts28 G Kf (by simp only[l0f,l0j,(u).one.2,(z).one.2];rfl) (q00 G) ?_;intro w H;refine q05 [_,_] H G G G Ku Ts33 G Kf Kf (q00 G) ?_;intro w H;refine NA (q0d Kr ?_);exact MP ⟨_,G,(H.pick (L':=[.blk a3 (.cells #[N,O] 28), .blk a4 (.cells #[I a8,I a9] 33)]) Kp),K,u,z⟩
  refine q03 H (Y0i aa) G trivial (q00 G) G ?_;intro ax M w H f hR;replace K:=K.mono f;replace u:=u.mono f;replace z:=z.mono f;try dsimp only at hR
  obtain rfl:=hR;refine NA (q0i (fuel:=0) [0,2,3] G Kr (ST (q0a H G Km Ta28 Ts28 Kf) G ?_));refine q05 [_,_] H G G G Ku Ts28 G Kf (by simp only[l0f,l0j,(u).one.2,(z).one.2];rfl) (q00 G) ?_;intro w H;refine q05 [_,_] H G G G Ku Ts33 G Kf Kf (q00 G) ?_;intro w H;refine NA (q0d Kr ?_);exact MP ⟨_,G,(H.pick (L':=[.blk a3 (.cells #[N,O] 28), .blk a4 (.cells #[I a8,I a9] 33)]) Kp),K,u,z⟩
 rintro e w ⟨M,rfl,H,K,u,z⟩;refine TN (RT ?_);obtain rfl:=oI h;exact q0M G ⟨_,G,H.loadAgg Km Ta28 Ts28 Kf⟩ ⟨_,G,H.loadAgg Km Ta33 Ts33 Kf⟩ H.ext (⟨_,_,G,u,z⟩)
theorem Y3I  {r : Bool} (h : Y35 = some r) : Ct Tryz.prog 5 [] (fun M => GlF (fun w => ∃ tp p, w.var? Tryz.prog "strconv.ErrRange" = some #[.iface tp p]) M /\ GlF (fun w => ∃ tp p, w.var? Tryz.prog "strconv.ErrSyntax" = some #[.iface tp p]) M /\ GlF (fun w => ∃ m, w.cell? ⟨0, 0, none⟩ = some (.int .i64 m)) M /\ GlF (fun w => Lib.TabIs Tryz.prog w "internal/strconv.uint64pow10" .u64 Lib.pow10Tab) M) (fun v M => v = Value.bool r) := by
 refine Ct.of Tryz.func5 (enters Tryz.func5 Kr G) G G G ?_;intro w0 M0 H hp;obtain⟨u,z,O,f⟩:=hp;unfold Y35 at h;refine SQ (RG (AS G G (NL (TN (SQ (RG (ST (q0A [S [70,114,111,109],S [97,64,98,46,99]] Tu63 Tz63 (xplaces63 Tu63) G G) G (ST (q0A [S [76,105,115,116,45,73,100],S [120]] Tu63 Tz63 (xplaces63 Tu63) G G) G (q0Q (enc:=xenc63) xty25 ([([70,114,111,109],[97,64,98,46,99]),([76,105,115,116,45,73,100],[120])]:List Z07) H (fun _=>G) G Kr G G G (q00 G) G ?_)))))))));intro ae M w H E U;replace u:=u.mono E;replace z:=z.mono E;replace O:=O.mono E;replace f:=f.mono E;refine WR.litC xty26 Tu5 ([104,105,13,10]:Ls) H G Kf G G (q00 G) G (fun _=>q00 G) G ?_;intro ah M w H E V;replace u:=u.mono E;replace z:=z.mono E;replace O:=O.mono E;replace f:=f.mono E;replace U:=U.mono E;refine ST (q0A [ae,ah] Tu28 Tz28 (xplaces28 Tu28) G (by obtain⟨_,_,_,hv,-⟩:=U;rw [hv];clear hv;obtain ⟨_,_,hv,-⟩:=V;rw [hv];clear hv;rfl)) G ?_;refine q0f [_,_] H Tz28 G (q00 G) G ?_;intro aw w H;refine q05 [_,_] H G G G Ku Ts28 G Kf (by simp only[l0f,l0j,(U).one.2,(V).one.2];rfl) (q00 G) ?_;intro w H;refine NL (TN (SQ ?_));obtain⟨⟨⟨l1,l2⟩,⟨n3,n4⟩⟩,ai,h⟩:=bnd h;try dsimp only at h
 refine RG (ST (q0a H G Km Ta28 Ts28 Kf) G ?_);refine q1g (enc:=encS) xty45 ([[102,114,111,109]]:List Ls) H G Kf (fun _=>G) G G (q00 G) G ?_;intro ax M w H E aa;replace u:=u.mono E;replace z:=z.mono E;replace O:=O.mono E;replace f:=f.mono E;replace U:=U.mono E;replace V:=V.mono E;refine q03 H (Y7c ai) G ⟨O,U,V,aa⟩ (q00 G) G ?_;intro ay M w H E hR;replace u:=u.mono E;replace z:=z.mono E;replace O:=O.mono E;replace f:=f.mono E;try dsimp only at hR
 obtain⟨a5,a6,rfl,J,K⟩:=hR;refine MV G G (ST (q0e G G) G (ST (q0e G G) G (q0f [_,_] H Tz28 G (q00 G) G ?_)));intro az w H;refine q0f [_,_] H Tz33 G (q00 G) G ?_;intro b0 w H;refine q05 [_,_] H G G G Ku Ts28 G Kf (by simp only[l0f,l0j,(J).one.2,(K).one.2];rfl) (q00 G) ?_;intro w H;refine q05 [_,_] H G G G Ku Ts33 G Kf Kf (q00 G) ?_;intro w H;refine NL (TN (SQ ?_));obtain⟨⟨l6,⟨n7,n8⟩⟩,aj,h⟩:=bnd h;try dsimp only at h
 refine RG (q03 H (Y5K aj) G ⟨u,z,f⟩ (q00 G) G ?_);intro b1 M w H E hR;replace u:=u.mono E;replace z:=z.mono E;replace O:=O.mono E;replace f:=f.mono E;replace J:=J.mono E;replace K:=K.mono E;try dsimp only at hR
 obtain⟨ao,rfl,Y⟩:=hR;refine MV G G (ST (q0e G G) G (ST (q0e G G) G (q0f [_,_] H Tz33 G (q00 G) G ?_)));intro b2 w H;refine AS G G (q05 [_,_] H G G G Ku Ts33 G Kf Kf (q00 G) ?_);intro w H;refine NL (TN (SQ ?_));obtain⟨⟨ak,⟨al,b3⟩⟩,ab,h⟩:=bnd h;try dsimp only at h
 refine RG (MV G G (ST (q0A [S [100,64,101,46,102],I 0] Tu68 Tz68 (xplaces68 Tu68) G G) G (q0Q (enc:=xenc68) xty22 ([([100,64,101,46,102],0)]:List Z0b) H (fun _=>G) G Kr G G G (q00 G) G ?_)));intro a9 M w H E a3;replace u:=u.mono E;replace z:=z.mono E;replace O:=O.mono E;replace f:=f.mono E;replace J:=J.mono E;replace K:=K.mono E;replace Y:=Y.mono E;refine ST (q0A [S [97,64,98,46,99],a9,S []] Tu24 Tryz.zeroValue24 (xplaces24 Tu24) G (by obtain⟨_,_,_,hv,-⟩:=a3;rw [hv];clear hv;rfl)) G ?_;refine ST (q0a H G Km Ta28 Ts28 Kf) G ?_;refine ST (q0A [S [97,64,98,46,99],a9,S [],a5,a6] Tu30 Tryz.zeroValue30 (xplaces30 Tu30) G (by obtain⟨_,_,_,hv,-⟩:=a3;rw [hv];clear hv;obtain ⟨_,_,_,hv,-⟩:=J;rw [hv];clear hv;obtain ⟨_,_,hv,-⟩:=K;rw [hv];clear hv;rfl)) G ?_;refine q03 H (Y5v ab) G ⟨O,f,Y,a3,J,K⟩ (q00 G) G ?_;intro b4 M w H E hR;replace u:=u.mono E;replace z:=z.mono E;replace O:=O.mono E;replace f:=f.mono E;try dsimp only at hR
 obtain⟨ap,rfl,a4⟩:=hR;refine MV G G (ST (q0e G G) G (ST (q0e G G) G (q0f [_,_] H Tz33 G (q00 G) G ?_)));intro b5 w H;refine AS G G (q05 [_,_] H G G G Ku Ts33 G Kf Kf (q00 G) ?_);intro w H;refine NL (TN (SQ ?_));obtain⟨am,N,h⟩:=bnd h
 refine q07 (fun e w => ∃ (a7 : Bool) (M : Mem), e = [(0, Value.bool a7)] /\ St w0 M0 M [] w /\ GlF (fun w => ∃ tp p, w.var? Tryz.prog "strconv.ErrRange" = some #[.iface tp p]) M /\ GlF (fun w => ∃ tp p, w.var? Tryz.prog "strconv.ErrSyntax" = some #[.iface tp p]) M /\ GlF (fun w => ∃ m, w.cell? ⟨0, 0, none⟩ = some (.int .i64 m)) M /\ GlF (fun w => Lib.TabIs Tryz.prog w "internal/strconv.uint64pow10" .u64 Lib.pow10Tab) M /\ some a7 = some am) [] ?_ ?_ (trivial)
 .
  refine RG (ST (q01 Tu33 G Ts3 Dc G) G (ST (XL H Ta3) G ?_));by_cases Z:n3=(0:Int)
  .
   rw[if_pos Z] at N;refine DT Z (q0j G G) G (MV G G (SG (q01 Tu33 G Ts3 Dc G) G G G (SG (XL H Ta3) G G G ?_)));by_cases a0:n7=(0:Int)
   .
    rw[if_pos a0] at N;refine DU a0 (q0j G G) G G G (PT G G G (MV G G (SG (q01 Tu33 G Ts3 Dc G) G G G (SG (XL H Ta3) G G G ?_))));by_cases a1:al=(0:Int)
    .
     rw[if_pos a1] at N;refine DU a1 (q0j G G) G G G (PT G G G (MV G G (SG (q02 G) G G G (SG (q0O Tu39 a4 G) G G G ?_))));by_cases a2:(ak.length:Int)=(1:Int)
     .
      rw[if_pos a2] at N;obtain⟨b6,a8,N⟩:=bnd N;obtain⟨av,b7,ac,ad⟩:=a4.atC a8;refine DU a2 (q0j G G) G G G (PT G G G (MV G G (SG (q02 G) G G G (SG (q0w ac Tu39 Ts70 G G) G G G (SG (q01 Tu70 G Ts9 Dc G) G G G (SG (q0m H G (ad.at (j:=1) G) Ta9) G G G (SG (q0N G G) G G G (PT G G G (AS G G (NL ?_))))))))));exact MN ⟨_,_,G,(H.pick (L':=[]) Kp),u,z,O,f,N⟩
     rw[if_neg a2] at N;refine DG a2 (q0j G G) G G G (PT G G G (MV G G (q06 5 G G (PF G G G (AS G G (NL ?_))))));exact MN ⟨_,_,G,(H.pick (L':=[]) Kp),u,z,O,f,N⟩
    rw[if_neg a1] at N;refine DG a1 (q0j G G) G G G (PT G G G (MV G G (q06 3 G G (PF G G G (MV G G (q06 5 G G (PF G G G (AS G G (NL ?_)))))))));exact MN ⟨_,_,G,(H.pick (L':=[]) Kp),u,z,O,f,N⟩
   rw[if_neg a0] at N;refine DG a0 (q0j G G) G G G (PT G G G (MV G G (q06 3 G G (PF G G G (MV G G (q06 3 G G (PF G G G (MV G G (q06 5 G G (PF G G G (AS G G (NL ?_))))))))))));exact MN ⟨_,_,G,(H.pick (L':=[]) Kp),u,z,O,f,N⟩
  rw[if_neg Z] at N;refine DF Z (q0j G G) G (MV G G (q06 3 G G (PF G G G (MV G G (q06 3 G G (PF G G G (MV G G (q06 3 G G (PF G G G (MV G G (q06 5 G G (PF G G G (AS G G (NL ?_))))))))))))));exact MN ⟨_,_,G,(H.pick (L':=[]) Kp),u,z,O,f,N⟩
 rintro e w ⟨a7,M,rfl,H,u,z,O,f,an⟩;obtain rfl:=oI an;refine TN (RT ?_);obtain rfl:=oI h;exact q08 G G H.ext G
theorem Y48 {p0 : Ls}{p1 : Z0D}{ah : Value}{ai : Value}{aj : Value}{r : Bool}(h : Y1A p0 p1 = some r): Ct Tryz.prog 3 [S p0, Value.agg #[S p1.1, ah, S p1.2.2.1, ai, aj]] (fun M => GlF (fun w => ∃ tp p, w.var? Tryz.prog "strconv.ErrRange" = some #[.iface tp p]) M /\ GlF (fun w => ∃ tp p, w.var? Tryz.prog "strconv.ErrSyntax" = some #[.iface tp p]) M /\ GlF (fun w => ∃ m, w.cell? ⟨0, 0, none⟩ = some (.int .i64 m)) M /\ GlF (fun w => Lib.TabIs Tryz.prog w "internal/strconv.uint64pow10" .u64 Lib.pow10Tab) M /\ SlS M 2 xenc68 ah p1.2.1 /\ SlS M 2 xenc63 ai p1.2.2.2.1 /\ Sl M encB aj p1.2.2.2.2) (fun v M => v = Value.bool r) := by
 refine Ct.of Tryz.func3 (enters Tryz.func3 Kr G) G G G ?_;intro w0 M0 H hp;obtain⟨u,z,J,f,O,U,V⟩:=hp;unfold Y1A at h;refine SQ (RG (q0I [_,_,_,_,_] H G G (q00 G) G ?_));intro c1 w H;refine AS G G (NL (TN (SQ ?_)));obtain⟨⟨l1,⟨n2,n3⟩⟩,bd,h⟩:=bnd h;try dsimp only at h
 refine RG (MV G G (q03 H (Y5K bd) G ⟨u,z,f⟩ (q00 G) G ?_));intro c2 M w H E hR;replace u:=u.mono E;replace z:=z.mono E;replace J:=J.mono E;replace f:=f.mono E;replace O:=O.mono E;replace U:=U.mono E;replace V:=V.mono E;try dsimp only at hR
 obtain⟨bu,rfl,Y⟩:=hR;refine MV G G (ST (q0e G G) G (ST (q0e G G) G (q0f [_,_] H Tz33 G (q00 G) G ?_)));intro c3 w H;refine AS G G (q05 [_,_] H G G G Ku Ts33 G Kf Kf (q00 G) ?_);intro w H;refine NL (TN (SQ (SQ (RG (ST (q01 Tu33 G Ts3 Dc G) G (ST (XL H Ta3) G ?_))))));refine ST (q0E G G) G (NL (TN ?_));refine q09 G (fun a1=>?_) (fun a1=>?_)
 .
  replace a1 :¬(n2=(0:Int)):=of_not_decide a1;rw[if_neg a1] at h;refine SQ ?_;obtain⟨b6,be,h⟩:=bnd h;refine RG (q03 H (Y3I be) G ⟨u,z,J,f⟩ (q00 G) G ?_);intro c4 M w H E hR;obtain rfl:=hR;refine AS G G (NL (TN (RT ?_)));obtain rfl:=oI h;exact q08 G G H.ext G
 replace a1:n2=(0:Int):=of_not_decide' a1;rw[if_pos a1] at h;refine SK (TN (SQ ?_));obtain⟨⟨b8,⟨n9,c5⟩⟩,ax,h⟩:=bnd h;try dsimp only at h
 refine RG (MV G G (q03 H (Y6Q ax) G (Y) (q00 G) G ?_));intro c6 M w H E hR;replace u:=u.mono E;replace z:=z.mono E;replace J:=J.mono E;replace f:=f.mono E;replace O:=O.mono E;replace U:=U.mono E;replace V:=V.mono E;replace Y:=Y.mono E;try dsimp only at hR
 obtain rfl:=hR;refine MV G G (ST (q0e G G) G (ST (q0e G G) G (q0f [_,_] H Tz33 G (q00 G) G ?_)));intro c7 w H;refine AS G G (q05 [_,_] H G G G Ku Ts33 G Kf Kf (q00 G) ?_);intro w H;refine NL (TN (SQ ?_));obtain⟨⟨bg,⟨a3,a4⟩⟩,ay,h⟩:=bnd h;try dsimp only at h
 refine RG (MV G G (ST (q0a H G Km Ta30 Ts30 Kf) G ?_));refine q03 H (Y5v ay) G ⟨J,f,Y,O,U,V⟩ (q00 G) G ?_;intro c8 M w H E hR;replace u:=u.mono E;replace z:=z.mono E;replace J:=J.mono E;replace f:=f.mono E;replace O:=O.mono E;replace U:=U.mono E;replace V:=V.mono E;replace Y:=Y.mono E;try dsimp only at hR
 obtain⟨ak,rfl,N⟩:=hR;refine MV G G (ST (q0e G G) G (ST (q0e G G) G (q0f [_,_] H Tz33 G (q00 G) G ?_)));intro a7 w H;refine AS G G (q05 [_,_] H G G G Ku Ts33 G Kf Kf (q00 G) ?_);intro w H;refine NL (TN (SQ ?_));obtain⟨⟨c9,bh,⟨a2,a5⟩⟩,az,h⟩:=bnd h;try dsimp only at h
 refine RG (MV G G (ST (q0a H G Km Ta30 Ts30 Kf) G ?_));refine q03 H (Y6T az) G ⟨J,f,Y,O,U,V⟩ (q00 G) G ?_;intro ca M w H E hR;replace u:=u.mono E;replace z:=z.mono E;replace J:=J.mono E;replace f:=f.mono E;replace N:=N.mono E;try dsimp only at hR
 obtain⟨bv,al,rfl,bw,Z⟩:=hR;refine MV G G (ST (q0e G G) G (ST (q0e G G) G (ST (q0e G G) G (q0f [_,_] H Tz33 G (q00 G) G ?_))));intro a8 w H;refine AS G G (AS G G (q05 [_,_] H G G G Ku Ts33 G Kf Kf (q00 G) ?_));intro w H;refine NL (TN (SQ (SQ ?_)));obtain⟨bi,am,h⟩:=bnd h
 refine q07 (fun e w => ∃ (ar : Bool) (M : Mem), e = [(7, Value.bool b8), (9, ak), (10, ptr a7 0), (12, al), (13, ptr a8 0), (50, Value.bool ar)] /\ St w0 M0 M [.blk a7 (.cells #[I a3, I a4] 33), .blk a8 (.cells #[I a2, I a5] 33)] w /\ GlF (fun w => ∃ tp p, w.var? Tryz.prog "strconv.ErrRange" = some #[.iface tp p]) M /\ GlF (fun w => ∃ tp p, w.var? Tryz.prog "strconv.ErrSyntax" = some #[.iface tp p]) M /\ GlF (fun w => ∃ m, w.cell? ⟨0, 0, none⟩ = some (.int .i64 m)) M /\ GlF (fun w => Lib.TabIs Tryz.prog w "internal/strconv.uint64pow10" .u64 Lib.pow10Tab) M /\ SlS M 3 xenc70 ak bg /\ SlS M 3 xenc70 al bh /\ some ar = some bi) [] ?_ ?_ (trivial)
 .
  refine RG (ST (q01 Tu33 G Ts3 Dc G) G (ST (XL H Ta3) G ?_));by_cases a9:n9=(0:Int)
  .
   rw[if_pos a9] at am;refine q0l (v' := .bool false) (q0E G G) (congrArg Value.bool (by rw[decide_eq_true a9];rfl)) (q00 G) G G ?_;refine MV G G (SG (q01 Tu33 G Ts3 Dc G) G G G (SG (XL H Ta3) G G G ?_));refine SG (q0E G G) G G G (PF G G G (NL ?_));exact MN ⟨_,_,G,(H.pick (L':=[.blk a7 (.cells #[I a3,I a4] 33), .blk a8 (.cells #[I a2,I a5] 33)]) Kp),u,z,J,f,N,Z,am⟩
  rw[if_neg a9] at am;refine q0l (v' := .bool true) (q0E G G) (congrArg Value.bool (by rw[decide_eq_false a9];rfl)) (q00 G) G G ?_;refine MV G G (q06 3 G G (PT G G G (NL ?_)));exact MN ⟨_,_,G,(H.pick (L':=[.blk a7 (.cells #[I a3,I a4] 33), .blk a8 (.cells #[I a2,I a5] 33)]) Kp),u,z,J,f,N,Z,am⟩
 rintro e w ⟨ar,M,rfl,H,u,z,J,f,N,Z,bj⟩;obtain rfl:=oI bj;refine TN ?_;refine q09 G (fun ae=>?_) (fun ae=>?_)
 .
  subst ae;rw[if_pos rfl] at h;refine SQ ?_;obtain⟨bm,a6,h⟩:=bnd h
  refine q07 (fun e w => ∃ (au : Bool) (M : Mem), e = [(4, Value.bool au)] /\ St w0 M0 M [] w /\ GlF (fun w => ∃ tp p, w.var? Tryz.prog "strconv.ErrRange" = some #[.iface tp p]) M /\ GlF (fun w => ∃ tp p, w.var? Tryz.prog "strconv.ErrSyntax" = some #[.iface tp p]) M /\ GlF (fun w => ∃ m, w.cell? ⟨0, 0, none⟩ = some (.int .i64 m)) M /\ GlF (fun w => Lib.TabIs Tryz.prog w "internal/strconv.uint64pow10" .u64 Lib.pow10Tab) M /\ some au = some bm) [] ?_ ?_ (trivial)
  .
   refine RG (ST (q0a H G Km Ta33 Ts33 Kf) G ?_);refine ST (q0a H G Km Ta33 Ts33 Kf) G ?_;by_cases aa:a3=a2/\a4=a5
   .
    rw[if_pos aa] at a6;obtain⟨cb,b0,a6⟩:=bnd a6;refine DT aa (Ex.eqlAgg G G Kr (xeq33 a3 a2 a4 a5)) G (MV G G (q03 H (Y3I b0) G ⟨u,z,J,f⟩ (q0h G G G) G ?_));intro cc M w H E hR;replace u:=u.mono E;replace z:=z.mono E;replace J:=J.mono E;replace f:=f.mono E;obtain rfl:=hR;refine PT G G G (AS G G (NL ?_));exact MN ⟨_,_,G,(H.pick (L':=[]) Kp),u,z,J,f,a6⟩
   rw[if_neg aa] at a6;refine DF aa (Ex.eqlAgg G G Kr (xeq33 a3 a2 a4 a5)) G (MV G G (GF G G G (PF G G G (AS G G (NL ?_)))));exact MN ⟨_,_,G,(H.pick (L':=[]) Kp),u,z,J,f,a6⟩
  rintro e w ⟨au,M,rfl,H,u,z,J,f,bn⟩;obtain rfl:=oI bn;refine TN (RT ?_);obtain rfl:=oI h;exact q08 G G H.ext G
 subst ae;rw[if_neg l00] at h;refine SK (TN (SQ ?_));obtain⟨⟨⟨bo,cd,ce,cf,cg⟩,⟨bp,ch⟩⟩,b1,h⟩:=bnd h;try dsimp only at h
 refine RG (MV G G (q03 H (Y6n b1) G (N) (q00 G) G ?_));intro ci M w H E hR;replace u:=u.mono E;replace z:=z.mono E;replace J:=J.mono E;replace f:=f.mono E;replace N:=N.mono E;replace Z:=Z.mono E;try dsimp only at hR
 obtain⟨b5,b7,b9,ba,rfl,a0,ao,ap,aq⟩:=hR;refine MV G G (ST (q0e G G) G (ST (q0e G G) G (q0f [_,_,_,_,_] H Tz47 G (q00 G) G ?_)));intro bz w H;refine q0f [_,_] H Tz33 G (q00 G) G ?_;intro c0 w H;refine q05 [_,_,_,_,_] H G G G Ku Ts47 G Kf (by simp only[l0f,l0j,(a0).one.2,(ao).one.2,(ap).one.2,(aq).one.2];rfl) (q00 G) ?_;intro w H;refine q05 [_,_] H G G G Ku Ts33 G Kf Kf (q00 G) ?_;intro w H;refine NL (TN (SQ ?_));obtain⟨bq,K,h⟩:=bnd h
 refine q07 (fun e w => ∃ (av : Bool) (M : Mem), e = [(4, Value.bool av)] /\ St w0 M0 M [] w /\ GlF (fun w => ∃ tp p, w.var? Tryz.prog "strconv.ErrRange" = some #[.iface tp p]) M /\ GlF (fun w => ∃ tp p, w.var? Tryz.prog "strconv.ErrSyntax" = some #[.iface tp p]) M /\ GlF (fun w => ∃ m, w.cell? ⟨0, 0, none⟩ = some (.int .i64 m)) M /\ GlF (fun w => Lib.TabIs Tryz.prog w "internal/strconv.uint64pow10" .u64 Lib.pow10Tab) M /\ some av = some bq) [] ?_ ?_ (trivial)
 .
  refine RG (ST (q01 Tu33 G Ts3 Dc G) G (ST (XL H Ta3) G ?_));by_cases ab:a2=(0:Int)
  .
   rw[if_pos ab] at K;refine DT ab (q0j G G) G (MV G G (SG (q01 Tu33 G Ts3 Dc G) G G G (SG (XL H Ta3) G G G ?_)));by_cases ac:bp=(0:Int)
   .
    rw[if_pos ac] at K;obtain⟨br,b2,K⟩:=bnd K;refine DU ac (q0j G G) G G G (PT G G G (MV G G (SG (q02 G) G G G (SG (q02 G) G G G (q03 H (Y4p b2) G ⟨N,Z⟩ (q0h G G G) G ?_)))));intro cj M w H E hR;replace u:=u.mono E;replace z:=z.mono E;replace J:=J.mono E;replace f:=f.mono E;replace a0:=a0.mono E;obtain rfl:=hR;refine PT G G G (MV G G ?_);rcases br with _|_
    .
     rw[if_neg l00] at K;refine q06 8 G G (PF G G G (MV G G (GF G G G (PF G G G (AS G G (NL ?_))))));exact MN ⟨_,_,G,(H.pick (L':=[]) Kp),u,z,J,f,K⟩
    rw[if_pos rfl] at K;refine SG (q02 G) G G G (SG (q0y G) G G G (SG (q02 G) G G G ?_));rcases b8 with _|_
    .
     rw[if_neg l00] at K;obtain⟨ck,b3,K⟩:=bnd K;refine q06 4 G G (SG (q0t G G) G G G (PT G G G (MV G G (q03 H (Y3I b3) G ⟨u,z,J,f⟩ (q0h G G G) G ?_))));intro bs M w H E hR;replace u:=u.mono E;replace z:=z.mono E;replace J:=J.mono E;replace f:=f.mono E;obtain rfl:=hR;refine PT G G G (AS G G (NL ?_));exact MN ⟨_,_,G,(H.pick (L':=[]) Kp),u,z,J,f,K⟩
    rw[if_pos rfl] at K;refine SG (q01 Tu47 G Ts45 Dc G) G G G (SG (XL H Ta45) G G G ?_);refine SG (q0V Tu45 a0 G) G G G ?_;by_cases ad:(0:Int)<(bo.length:Int)
    .
     rw[if_pos ad] at K;obtain⟨cl,b4,K⟩:=bnd K;refine DU ad (q0H G G) G G G (SG (q0u G G) G G G (PT G G G (MV G G (q03 H (Y3I b4) G ⟨u,z,J,f⟩ (q0h G G G) G ?_))));intro bs M w H E hR;replace u:=u.mono E;replace z:=z.mono E;replace J:=J.mono E;replace f:=f.mono E;obtain rfl:=hR;refine PT G G G (AS G G (NL ?_));exact MN ⟨_,_,G,(H.pick (L':=[]) Kp),u,z,J,f,K⟩
    rw[if_neg ad] at K;refine DG ad (q0H G G) G G G (SG (q0u G G) G G G (PT G G G (MV G G (GF G G G (PF G G G (AS G G (NL ?_)))))));exact MN ⟨_,_,G,(H.pick (L':=[]) Kp),u,z,J,f,K⟩
   rw[if_neg ac] at K;refine DG ac (q0j G G) G G G (PT G G G (MV G G (q06 3 G G (PF G G G (MV G G (q06 8 G G (PF G G G (MV G G (GF G G G (PF G G G (AS G G (NL ?_))))))))))));exact MN ⟨_,_,G,(H.pick (L':=[]) Kp),u,z,J,f,K⟩
  rw[if_neg ab] at K;refine DF ab (q0j G G) G (MV G G (q06 3 G G (PF G G G (MV G G (q06 3 G G (PF G G G (MV G G (q06 8 G G (PF G G G (MV G G (GF G G G (PF G G G (AS G G (NL ?_))))))))))))));exact MN ⟨_,_,G,(H.pick (L':=[]) Kp),u,z,J,f,K⟩
 rintro e w ⟨av,M,rfl,H,u,z,J,f,bt⟩;obtain rfl:=oI bt;refine TN (RT ?_);obtain rfl:=oI h;exact q08 G G H.ext G
end Go.Proofs.YtgicephoflppiaaGreatDoor
end
section
namespace Go.Ph.Pf
open Go.Ph.Pl
abbrev TT : Type:=Int × List BT88 × Ls × Int × Ls × Int
theorem two {X:Option Bool}(h:X.isSome=true):X=some true∨X=some false:=by
 cases X with
 | none=>cases h
 | some b=>cases b <;> simp
def innT (t:TT):Prop:=(t.1=2->t.2.1.length=1)/\(t.1=3∨t.1=4->1<=t.2.1.length/\t.2.1.length<=60)/\(t.1≠2->t.1≠3->t.1≠4->t.2.1.length=0)
theorem inn_len {t:TT}(h:innT t):t.2.1.length<=60:=by
 obtain⟨f,u,z⟩:=h;by_cases a:t.1=2
 . have:=f a;omega
 by_cases b:t.1=3∨t.1=4
 . exact(u b).2
 have:=z a (fun e=>b (.inl e)) (fun e=>b (.inr e));omega
theorem inner_eq (t:TT):∃b,Y3R t=some b/\(b=true->innT t):=by
 unfold Y3R innT;by_cases a:t.1=2
 . rw[if_pos a];exact⟨_,G,fun h=>⟨fun _=>by have:=of_decide_eq_true h;omega,fun h=>by omega,fun h=>absurd a h⟩⟩
 rw[if_neg a];by_cases b:t.1=3
 . rw[if_pos b,bsome,if_pos (by simp [b])];by_cases c:(1:Int)<=(t.2.1.length:Int)
   . rw[if_pos c,bsome];exact⟨_,G,fun h=>⟨fun h=>absurd h a,fun _=>by have:=of_decide_eq_true h;omega,fun _ h=>absurd b h⟩⟩
   rw[if_neg c,bsome];exact⟨_,G,fun h=>by cases h⟩
 rw[if_neg b,bsome];by_cases b':t.1=4
 . rw[if_pos (by simp [b'])];by_cases c:(1:Int)<=(t.2.1.length:Int)
   . rw[if_pos c,bsome];exact⟨_,G,fun h=>⟨fun h=>absurd h a,fun _=>by have:=of_decide_eq_true h;omega,fun _ _ h=>absurd b' h⟩⟩
   rw[if_neg c,bsome];exact⟨_,G,fun h=>by cases h⟩
 rw[if_neg (by simp [b'])];exact⟨_,G,fun h=>⟨fun h=>absurd h a,fun h=>by rcases h with h|h;exact absurd h b;exact absurd h b',fun _ _ _=>by have:=of_decide_eq_true h;omega⟩⟩
theorem used_eq (k:Int):∃b,Y4W k=some b:=by
 unfold Y4W;by_cases a:k=5
 . rw[if_pos a];exact ⟨_,rfl⟩
 rw[if_neg a];rcases two (X:=if k=6 then some (decide (k=6)) else some (decide (k=7))) (by split <;> rfl) with h|h <;> rw[h,bsome]
 . rw[if_pos rfl];exact ⟨_,rfl⟩
 rw[if_neg Dc];split
 . exact⟨_,G⟩
 split <;> exact⟨_,rfl⟩
theorem test_cases (self:TT->Int->Option Int)(t:TT)(d:Int):(∃e,e≠0/\Y3s self t d=some e)∨
 (d<=8/\1<=t.1/\t.1<=9/\innT t/\Y3s self t d=((Y1w self t d FU 0).bind fun o=>match o with | .inl _=>some 0 | .inr r=>some r)):=by
 unfold Y3s;obtain⟨⟨J,E,f⟩,hu⟩:=used_eq t.1;rw[hu,bsome];dsimp only;by_cases K:(8:Int)<d
 . rw[if_pos K];exact .inl ⟨5,by decide,rfl⟩
 rw[if_neg K];by_cases u:t.1<1
 . rw[if_pos u,bsome,if_pos rfl];exact .inl ⟨4,by decide,rfl⟩
 rw[if_neg u,bsome];by_cases z:(9:Int)<t.1
 . rw[if_pos (by simpa using z)];exact .inl ⟨4,by decide,rfl⟩
 rw[if_neg (by simpa using z)];obtain⟨bi,hi,hi'⟩:=inner_eq t;have M:Y3R (t.1,t.2.1,t.2.2.1,t.2.2.2.1,t.2.2.2.2.1,t.2.2.2.2.2)=some bi:=hi;rw[M,bsome];cases bi with
 | false=>rw[if_neg Dc];exact .inl ⟨5,by decide,rfl⟩
 | true =>
   rw[if_pos rfl];generalize hX:(if J=true then(if E=true then(if f=true then some false else some (!decide (t.2.2.2.2.2=(0:Int)))) else(if t.2.2.2.1=(0:Int) then(if t.2.2.2.2.1=[] then(if f=true then some false else some (!decide (t.2.2.2.2.2=(0:Int)))) else some true) else some true)) else(if t.2.2.1=[] then(if E=true then(if f=true then some false else some (!decide (t.2.2.2.2.2=(0:Int)))) else(if t.2.2.2.1=(0:Int) then(if t.2.2.2.2.1=[] then(if f=true then some false else some (!decide (t.2.2.2.2.2=(0:Int)))) else some true) else some true)) else some true))=X;rcases two (X:=X) (by rw[←hX];repeat' split <;> try rfl) with h|h <;> rw[h,bsome]
   . rw[if_pos rfl];exact .inl ⟨5,by decide,rfl⟩
   rw[if_neg Dc];rcases two (X:=if J=true then(if t.2.2.1=[] then some true else some (decide ((60:Int)<(t.2.2.1.length:Int)))) else some false) (by repeat' split <;> try rfl) with h|h <;> rw[h,bsome]
   . rw[if_pos rfl];exact .inl ⟨10,by decide,rfl⟩
   rw[if_neg Dc];rcases two (X:=if E=true then(if t.2.2.2.1<(1:Int) then some true else some (decide ((3:Int)<t.2.2.2.1))) else some false) (by repeat' split <;> try rfl) with h|h <;> rw[h,bsome]
   . rw[if_pos rfl];exact .inl ⟨4,by decide,rfl⟩
   rw[if_neg Dc];by_cases N:(200:Int)<(t.2.2.2.2.1.length:Int)
   . rw[if_pos N];exact .inl ⟨1,by decide,rfl⟩
   rw[if_neg N];rcases two (X:=if t.2.2.2.2.2<(0:Int) then some true else some (decide ((1000000:Int)<t.2.2.2.2.2))) (by repeat' split <;> try rfl) with h|h <;> rw[h,bsome]
   . rw[if_pos rfl];exact .inl ⟨3,by decide,rfl⟩
   rw[if_neg Dc];exact .inr ⟨by omega,by omega,by omega,hi' G,G⟩
theorem test_loop (self:TT->Int->Option Int)(t:TT)(d:Int)(hd:0<=d/\d<=8)(hl:t.2.1.length<=60)(hs :∀x∈t.2.1,∃e,self x.out (d+1)=some e):
 (Y1w self t d FU 0=some (.inl ())/\∀x∈t.2.1,self x.out (d+1)=some 0)∨∃e,e≠0/\Y1w self t d FU 0=some (.inr e):=by
 rcases scanP (Y1w self t d) t.2.1 (fun _ x=>if self x.out (d+1)=some 0 then none else some (.inr ((self x.out (d+1)).getD 0))) (.inl ()) (fun m=>by rw[Y1w,if_neg Om]) (by
  intro m i h;obtain⟨e,he⟩:=hs _ (l0p h);rw[Y1w,if_pos Om,idx_nat,List.getElem?_eq_getElem h,bsome,chk_ok Om Om,bsome];have he':self ((t.2.1[i]).out.1,(t.2.1[i]).out.2.1,(t.2.1[i]).out.2.2.1,(t.2.1[i]).out.2.2.2.1,(t.2.1[i]).out.2.2.2.2.1,(t.2.1[i]).out.2.2.2.2.2) (d+1)=some e:=he;rw[he',bsome];by_cases f:e=0
  . subst f;rw[if_pos rfl,if_pos rfl,chk_succ Om,bsome]
  . rw[if_neg f,if_neg (by simpa using f)];rfl)
  t.2.1.length 0 FU Om (FU_gt Om) Om with ⟨j,hj,r,_,u,_,z⟩|⟨u,z⟩
 . obtain⟨e,he⟩:=hs _ (l0p hj);rw[he] at u;by_cases f:e=0
   . subst f;rw [if_pos rfl] at u;cases u
   rw[if_neg (by simpa using f)] at u;cases u;exact .inr ⟨e,f,z⟩
 refine .inl ⟨z,fun x hx=>?_⟩;obtain⟨i,hi,rfl⟩:=l0P hx;have:=u i hi Om;by_cases f:self (t.2.1[i]).out (d+1)=some 0
 . exact f
 rw[if_neg f] at this;cases this
def VT : Nat->TT->Prop
 | 0,_=>False
 | n+1,t=>1<=t.1/\t.1<=9/\innT t/\∀x∈t.2.1,VT n x.out
theorem test_tot :∀(k m:Nat) (t:TT) (d:Int),0<=d->9-d<=k->k<m->∃e,Y1C m t d=some e/\(e=0->VT (k+1) t)
 | 0,m,t,d,u,hk,hm=>by
   obtain⟨m,rfl⟩ :∃q,m=q+1:=⟨m-1,by omega⟩
   rw[Y1C];rcases test_cases (Y1C m) t d with ⟨e,he,h⟩|⟨E,_⟩
   . exact⟨e,h,fun z=>absurd z he⟩
   omega
 | k + 1,m,t,d,u,hk,hm=>by
   obtain⟨m,rfl⟩ :∃q,m=q+1:=⟨m-1,by omega⟩
   rw[Y1C];rcases test_cases (Y1C m) t d with ⟨e,he,h⟩|⟨E,J,K,hi,h⟩
   . exact⟨e,h,fun z=>absurd z he⟩
   rw[h];have ih :∀x:BT88,∃e,Y1C m x.out (d+1)=some e/\(e=0->VT (k+1) x.out):=fun x=>test_tot k m x.out (d+1) Om Om Om
   rcases test_loop (Y1C m) t d ⟨u,E⟩ (inn_len hi) (fun x _=>let ⟨e,he,_⟩:=ih x;⟨e,he⟩) with ⟨f,M⟩|⟨e,he,f⟩
   . rw[f,bsome];refine⟨0,G,fun _=>⟨J,K,hi,fun x hx=>?_⟩⟩;obtain⟨e,he,hv⟩:=ih x;rw[M x hx] at he;cases he;exact hv G
   rw[f,bsome];exact⟨e,G,fun z=>absurd z he⟩
end Go.Ph.Pf
end
section
namespace Go.Ph.Pf
open Go.Ph.Pl
abbrev RT : Type:=Int × Int × List BT88 × Ls × Int × Ls × Int × List BT90 × List BT90 × Int × Ls × Ls × Int
abbrev rT (r:RT):TT:=(r.2.1,r.2.2.1,r.2.2.2.1,r.2.2.2.2.1,r.2.2.2.2.2.1,r.2.2.2.2.2.2.1)
abbrev rThen (r:RT):List BT90:=r.2.2.2.2.2.2.2.1
abbrev rElse (r:RT):List BT90:=r.2.2.2.2.2.2.2.2.1
abbrev rAct (r:RT):Int:=r.2.2.2.2.2.2.2.2.2.1
abbrev rName (r:RT):Ls:=r.2.2.2.2.2.2.2.2.2.2.1
abbrev rText (r:RT):Ls:=r.2.2.2.2.2.2.2.2.2.2.2.1
abbrev rN (r:RT):Int:=r.2.2.2.2.2.2.2.2.2.2.2.2
theorem all_eq {s:Ls}(hs:s.length<=9000000000000000000){f:UInt8->Option Bool}{p:UInt8->Bool}(hf :∀c,f c=some (p c)):Y2S s f=some (s.all p):=by
 unfold Y2S;have:=scan0 (L:=Y1U s f) (l:=s) (p:=fun c => !p c) (stop := .inl ()) (r := .inr false) (m:=FU) (FU_gt Om) (fun m=>by rw[Y1U,if_neg Om]) (fun m i h=>by
  rw[Y1U,if_pos Om,idx_nat,List.getElem?_eq_getElem h,bsome,hf,bsome];cases hp:p s[i] with
  | true=>simp [chk_succ (i:=i) Om,bsome]
  | false=>simp)
 rw[this,bsome,←l1m];cases s.all p <;> rfl
theorem var1_tot (c:UInt8):∃b,Y2s c=some b:=by
 unfold Y2s;repeat' split
 all_goals exact⟨_,rfl⟩
theorem var_tot {s:Ls}:∃b,Y3g s=some b/\(b=true->s≠ []):=by
 unfold Y3g;by_cases h:s=[]
 . rw[if_pos h];exact ⟨false,rfl,fun h=>by cases h⟩
 rw[if_neg h];by_cases hl:(s.length:Int)<=60
 . rw[if_pos hl,all_eq Om (p:=fun c=>(Y2s c).getD false) (fun c=>by obtain⟨b,hb⟩:=var1_tot c;rw [hb];rfl),bsome];split
   . cases s with
     | nil=>exact absurd rfl h
     | cons a l=>exact⟨_,rfl,fun _=>h⟩
   exact⟨_,G,fun _=>h⟩
 rw[if_neg hl];exact ⟨_,rfl,fun _=>h⟩
def OkP (r:RT):Prop:=rThen r=[]/\rElse r=[]/\(r.1=2->1<=rAct r/\rAct r<=7)/\(rText r).length<=200/\0<=rN r/\rN r<=63/\(r.1=3->rName r≠ [])
theorem noTest_tot (t:TT):∃b,Y3r t=some b:=by
 unfold Y3r;repeat' split
 all_goals exact⟨_,rfl⟩
theorem texted_tot (k:Int):∃b,Y3q k=some b:=by
 unfold Y3q;repeat' split
 all_goals exact⟨_,rfl⟩
theorem plain_tot (r:RT)(hl:(rThen r).length<=1000000/\(rElse r).length<=1000000):∃e,Y3Q r=some e/\(e=0->OkP r):=by
 unfold Y3Q;obtain⟨z,J⟩:=noTest_tot (rT r);have E:Y3r (r.2.1,r.2.2.1,r.2.2.2.1,r.2.2.2.2.1,r.2.2.2.2.2.1,r.2.2.2.2.2.2.1)=some z:=J;rw[E,bsome];have hch:chk (((rThen r).length:Int)+((rElse r).length:Int))=some (((rThen r).length+(rElse r).length:Nat):Int):=by rw[chk_ok Om Om];simp
 have hch':chk ((r.2.2.2.2.2.2.2.1.length:Int)+(r.2.2.2.2.2.2.2.2.1.length:Int))=some (((rThen r).length+(rElse r).length:Nat):Int):=hch;rw[hch',bsome];by_cases hb:z=true
 . rw[if_pos hb];by_cases hz:(0:Int)<(((rThen r).length+(rElse r).length:Nat):Int)
   . rw[if_pos hz,bsome,if_pos rfl];exact ⟨5,rfl,fun h=>by cases h⟩
   rw[if_neg hz];have ht:rThen r=[]:=l05 Om;have he:rElse r=[]:=l05 Om;generalize hX:(if r.1=(2:Int) then _ else _:Option Bool)=X;rcases two (X:=X) (by rw[←hX];repeat' split <;> try rfl) with h|h <;> rw[h,bsome]
   . rw[if_pos rfl];exact ⟨5,rfl,fun h=>by cases h⟩
   rw[if_neg Dc];clear hX h;generalize hX:(if r.1=(2:Int) then(if r.2.2.2.2.2.2.2.2.2.1<(1:Int) then some true else some (decide ((7:Int)<r.2.2.2.2.2.2.2.2.2.1))) else some false)=X;rcases two (X:=X) (by rw[←hX];repeat' split <;> try rfl) with h|h <;> rw[h,bsome]
   . rw[if_pos rfl];exact ⟨4,rfl,fun h=>by cases h⟩
   rw[if_neg Dc];have hact:r.1=2->1<=rAct r/\rAct r<=7:=fun f=>by
    rw[h,if_pos f] at hX;by_cases ha:r.2.2.2.2.2.2.2.2.2.1<1
    . rw[if_pos ha] at hX;cases hX
    rw[if_neg ha] at hX;have:=of_decide_eq_false (oI hX);exact⟨by show 1<=r.2.2.2.2.2.2.2.2.2.1;omega,by show r.2.2.2.2.2.2.2.2.2.1<=7;omega⟩
   clear hX h;obtain⟨bt,hbt⟩:=texted_tot r.2.2.2.2.2.2.2.2.2.1;rw[hbt,bsome];generalize hX:(if r.1=(2:Int) then _ else _:Option Bool)=X;rcases two (X:=X) (by rw[←hX];repeat' split <;> try rfl) with h|h <;> rw[h,bsome]
   . rw[if_pos rfl];exact ⟨5,rfl,fun h=>by cases h⟩
   rw[if_neg Dc];clear hX h;obtain⟨bv,hbv,hbv'⟩:=var_tot (s:=r.2.2.2.2.2.2.2.2.2.2.1);rw[hbv,bsome];generalize hX:(if r.1=(3:Int) then some (!bv) else some false:Option Bool)=X;rcases two (X:=X) (by rw[←hX];repeat' split <;> try rfl) with h|h <;> rw[h,bsome]
   . rw[if_pos rfl];exact ⟨10,rfl,fun h=>by cases h⟩
   rw[if_neg Dc];have hname:r.1=3->rName r≠ []:=fun K=>by
    rw[h,if_pos K] at hX;have:=oI hX;exact hbv' (by simpa using this)
   clear hX h;by_cases f:(200:Int)<(r.2.2.2.2.2.2.2.2.2.2.2.1.length:Int)
   . rw[if_pos f];exact ⟨1,rfl,fun h=>by cases h⟩
   rw[if_neg f];by_cases hn:r.2.2.2.2.2.2.2.2.2.2.2.2<0
   . rw[if_pos hn,bsome,if_pos rfl];exact ⟨3,rfl,fun h=>by cases h⟩
   rw[if_neg hn,bsome];by_cases u:(63:Int)<r.2.2.2.2.2.2.2.2.2.2.2.2
   . rw[if_pos (by simpa using u)];exact ⟨3,rfl,fun h=>by cases h⟩
   rw[if_neg (by simpa using u)];exact⟨0,G,fun _=>⟨ht,he,hact,by show r.2.2.2.2.2.2.2.2.2.2.2.1.length<=200;omega,by show 0<=r.2.2.2.2.2.2.2.2.2.2.2.2;omega,by show r.2.2.2.2.2.2.2.2.2.2.2.2<=63;omega,hname⟩⟩
 rw[if_neg hb,bsome,if_pos rfl];exact ⟨5,rfl,fun h=>by cases h⟩
def OkR (r:RT):Prop:=1<=r.1/\r.1<=4/\(r.1=1->VT 9 (rT r))/\(r.1≠1->OkP r)
theorem rule_tot (r:RT)(d:Int)(hl:(rThen r).length<=1000000/\(rElse r).length<=1000000):∃e,Y4t r d=some e/\(e=0->d<=8/\OkR r):=by
 unfold Y4t;by_cases J:(8:Int)<d
 . rw[if_pos J];exact ⟨5,rfl,fun h=>by cases h⟩
 rw[if_neg J];by_cases u:r.1<1
 . rw[if_pos u,bsome,if_pos rfl];exact ⟨4,rfl,fun h=>by cases h⟩
 rw[if_neg u,bsome];by_cases E:(4:Int)<r.1
 . rw[if_pos (by simpa using E)];exact ⟨4,rfl,fun h=>by cases h⟩
 rw[if_neg (by simpa using E)];by_cases f:r.1=1
 . rw[if_pos f];generalize hX:(if r.2.2.2.2.2.2.2.2.2.1=(0:Int) then _ else _:Option Bool)=X;rcases two (X:=X) (by rw[←hX];repeat' split <;> try rfl) with h|h <;> rw[h,bsome]
   . rw[if_pos rfl];exact ⟨5,rfl,fun h=>by cases h⟩
   rw[if_neg Dc];obtain⟨e,he,hv⟩:=test_tot 8 FU (rT r) 1 Dc Dc (FU_gt Dc);have he':Y68 (r.2.1,r.2.2.1,r.2.2.2.1,r.2.2.2.2.1,r.2.2.2.2.2.1,r.2.2.2.2.2.2.1) 1=some e:=he;rw[he',bsome];exact⟨e,G,fun z=>⟨by omega,by omega,by omega,fun _=>hv z,fun h=>absurd f h⟩⟩
 rw[if_neg f];obtain⟨e,he,hv⟩:=plain_tot r hl;have he':Y3Q (r.1,r.2.1,r.2.2.1,r.2.2.2.1,r.2.2.2.2.1,r.2.2.2.2.2.1,r.2.2.2.2.2.2.1,r.2.2.2.2.2.2.2.1,r.2.2.2.2.2.2.2.2.1,r.2.2.2.2.2.2.2.2.2.1,r.2.2.2.2.2.2.2.2.2.2.1,r.2.2.2.2.2.2.2.2.2.2.2.1,r.2.2.2.2.2.2.2.2.2.2.2.2)=some e:=he;rw[he',bsome];exact⟨e,G,fun z=>⟨by omega,by omega,by omega,fun h=>absurd h f,fun _=>hv z⟩⟩
end Go.Ph.Pf
end
section
namespace Go.Ph.Pf
open Go.Ph.Pl
def VR : Nat->List BT90->Prop
 | 0,l=>l=[]
 | n+1,l =>∀x∈l,OkR x.out/\VR n (rThen x.out)/\VR n (rElse x.out)
def SZ : Nat->List BT90->Nat
 | 0,_=>0
 | n+1,l=>(l.map (fun x=>1+SZ n (rThen x.out)+SZ n (rElse x.out))).sum
def LB : Nat->List BT90->Prop
 | 0,l=>l.length<=1000000
 | n+1,l=>l.length<=1000000/\∀x∈l,LB n (rThen x.out)/\LB n (rElse x.out)
theorem LB.len :∀{n:Nat} {l:List BT90},LB n l->l.length<=1000000
 | 0,_,h=>h
 | _+1,_,h=>h.1
abbrev CkF : Type:=List BT90->Int->Int->Unit->Option Z0E
def CkOk (self:CkF)(d:Int)(A:List BT90->Prop)(S:List BT90->Nat)(l:List BT90):Prop :=
 ∀n:Nat,n<=100->(∃c i n',c≠0/\self l d (n:Int) ()=some ((c,i),n',()))∨(∃i,self l d (n:Int) ()=some ((0,i),((n+S l:Nat):Int),())/\n+S l<=100/\A l)
theorem flt_eq (a b:Int):Y03 a b=some (a,b):=by unfold Y03;rfl
theorem check_two {self:CkF}{d:Int}(hd:0<=d/\d<=100){A:List BT90->Prop}{S:List BT90->Nat}(a:BT90)(J:CkOk self (d+1) A S (rThen a.out))(K:CkOk self (d+1) A S (rElse a.out))(n:Nat)(hn:n<=100)(u v:Int):
 (∃c i n',c≠0/\Y0F self d a FU (n:Int) u v 0=some (.inr ((c,i),n',())))∨
 (Y0F self d a FU (n:Int) u v 0=some (.inl (((n+S (rThen a.out)+S (rElse a.out):Nat):Int),u,v))/\n+S (rThen a.out)+S (rElse a.out)<=100/\A (rThen a.out)/\A (rElse a.out)):=by
 obtain⟨q,hq⟩ :∃q,FU=q+3:=⟨FU-3,by rw[FU_eq]⟩
 rw[hq,Y0F,if_pos Sm,show idx ([a.out.2.2.2.2.2.2.2.1,a.out.2.2.2.2.2.2.2.2.1]:List (List BT90)) 0=some (rThen a.out) from rfl,bsome,chk_ok Om Om,bsome];rcases J n hn with ⟨c,i,n',hc,he⟩|⟨i,he,hs,ha⟩
 . rw[he,bsome];dsimp only;rw[show Y00 (c,i)=some (!decide (c=0)) from rfl,bsome,if_pos (by simp [hc])];exact .inl ⟨c,i,n',hc,G⟩
 rw[he,bsome];dsimp only;rw[show Y00 ((0:Int),i)=some (!decide ((0:Int)=0)) from rfl,bsome,if_neg Sm,chk_ok Om Om,bsome];rw[Y0F,if_pos Sm,show idx ([a.out.2.2.2.2.2.2.2.1,a.out.2.2.2.2.2.2.2.2.1]:List (List BT90)) (0+1)=some (rElse a.out) from rfl,bsome,chk_ok Om Om,bsome];rcases K (n+S (rThen a.out)) hs with ⟨c,j,n',hc,f⟩|⟨j,f,z,E⟩
 . rw[f,bsome];dsimp only;rw[show Y00 (c,j)=some (!decide (c=0)) from rfl,bsome,if_pos (by simp [hc])];exact .inl ⟨c,j,n',hc,G⟩
 rw[f,bsome];dsimp only;rw[show Y00 ((0:Int),j)=some (!decide ((0:Int)=0)) from rfl,bsome,if_neg Sm,chk_ok Om Om,bsome];rw[Y0F,if_neg Sm];exact .inr ⟨G,z,ha,E⟩
def sumR (S:List BT90->Nat)(l:List BT90):Nat:=(l.map (fun x=>1+S (rThen x.out)+S (rElse x.out))).sum
theorem check_loop {self:CkF}{d:Int}(hd:0<=d/\d<=100){A:List BT90->Prop}{S:List BT90->Nat}(l:List BT90)(hl:l.length<=1000000)
 (hs :∀x∈l,(rThen x.out).length<=1000000/\(rElse x.out).length<=1000000/\(d<=8->CkOk self (d+1) A S (rThen x.out)/\CkOk self (d+1) A S (rElse x.out))) :
 ∀(k i m n:Nat) (u v:Int),l.length-i<=k->k<m->i<=l.length->n<=100->
  (∃c j n',c≠0/\Y0h self l d m (n:Int) u v (i:Int)=some (.inr ((c,j),n',())))∨
  (Y0h self l d m (n:Int) u v (i:Int)=some (.inl (u,v,((n+sumR S (l.drop i):Nat):Int)))/\n+sumR S (l.drop i)<=100/\∀x∈l.drop i,d<=8/\OkR x.out/\A (rThen x.out)/\A (rElse x.out))
 | 0,i,m,n,u,v,K,M,N,hn=>by
   obtain⟨m,rfl⟩ :∃k,m=k+1:=⟨m-1,by omega⟩
   obtain rfl:i=l.length:=by omega
   rw[Y0h,if_neg Om,l0t];exact .inr ⟨G,hn,fun x hx=>by simp at hx⟩
 | k + 1,i,m,n,u,v,K,M,N,hn=>by
   obtain⟨m,rfl⟩ :∃k,m=k+1:=⟨m-1,by omega⟩
   by_cases hi:i<l.length
   . rw[Y0h,if_pos Om,idx_nat,List.getElem?_eq_getElem hi,bsome];by_cases f:(n:Int)=100
     . rw[if_pos f,flt_eq,bsome];exact .inl ⟨2,_,_,by decide,G⟩
     rw[if_neg f];obtain⟨O,U,V⟩:=hs _ (l0p hi);obtain⟨e,he,hz⟩:=rule_tot (l[i]).out d ⟨O,U⟩;have he':Y4t ((l[i]).out.1,(l[i]).out.2.1,(l[i]).out.2.2.1,(l[i]).out.2.2.2.1,(l[i]).out.2.2.2.2.1,(l[i]).out.2.2.2.2.2.1,(l[i]).out.2.2.2.2.2.2.1,(l[i]).out.2.2.2.2.2.2.2.1,(l[i]).out.2.2.2.2.2.2.2.2.1,(l[i]).out.2.2.2.2.2.2.2.2.2.1,(l[i]).out.2.2.2.2.2.2.2.2.2.2.1,(l[i]).out.2.2.2.2.2.2.2.2.2.2.2.1,(l[i]).out.2.2.2.2.2.2.2.2.2.2.2.2) d=some e:=he;rw[he',bsome];by_cases z:e=0
     . obtain⟨E,hok⟩:=hz z;rw[if_pos z,chk_succ Om,bsome];obtain⟨Y,Z⟩:=V E;rcases check_two hd (l[i]) Y Z (n+1) Om u v with ⟨c,j,n',hc,h⟩|⟨h,J,ha,hb⟩
       . rw[h,bsome];exact .inl ⟨c,j,n',hc,G⟩
       rw[h,bsome];dsimp only;rw[chk_succ Om,bsome];have hsum:sumR S (l.drop i)=1+S (rThen (l[i]).out)+S (rElse (l[i]).out)+sumR S (l.drop (i+1)):=by unfold sumR;rw [drop_cons hi,l0a,l1T]
       rcases check_loop hd l hl hs k (i+1) m (n+1+S (rThen (l[i]).out)+S (rElse (l[i]).out)) u v Om Om Om J with ⟨c,j,n',hc,h⟩|⟨h,a0,hx⟩
       . exact .inl ⟨c,j,n',hc,h⟩
       refine .inr ⟨?_,by omega,fun x hx'=>?_⟩
       . rw[h,hsum];congr 5;omega
       rw[drop_cons hi] at hx';rcases List.mem_cons.1 hx' with rfl|hx'
       . exact⟨E,hok,ha,hb⟩
       exact hx x hx'
     rw[if_neg z,flt_eq,bsome];exact .inl ⟨e,_,_,z,G⟩
   obtain rfl:i=l.length:=by omega
   rw[Y0h,if_neg Om,l0t];exact .inr ⟨G,hn,fun x hx=>by simp at hx⟩
theorem check_tot :∀(k m:Nat) (l:List BT90),k<=8->k<m->LB (k+1) l->CkOk (Y0d m) (9-(k:Int)) (VR k) (SZ k) l
 | 0,m,l,_,hm,hb=>by
   intro n hn;obtain⟨m,rfl⟩ :∃q,m=q+1:=⟨m-1,by omega⟩
   rw[Y0d,Y2v];rcases check_loop (self:=Y0d m) (d:=9-((0:Nat):Int)) (A:=VR 0) (S:=SZ 0) ⟨by omega,by omega⟩ l hb.len (fun x hx=>⟨(hb.2 x hx).1,(hb.2 x hx).2,fun h=>by omega⟩) l.length 0 FU n 0 0 Om (FU_gt (by have:=hb.len;omega)) Om hn with ⟨c,j,n',hc,h⟩|⟨h,hs,hx⟩
   . have h':Y0h (Y0d m) l (9-((0:Nat):Int)) FU (n:Int) 0 0 0=_:=h;rw[h',bsome];exact .inl ⟨c,j,n',hc,G⟩
   have h':Y0h (Y0d m) l (9-((0:Nat):Int)) FU (n:Int) 0 0 0=_:=h;rw[h',bsome];have hnil:l=[]:=by
    cases l with
    | nil=>rfl
    | cons a l=>have:=(hx a Sm).1;omega
   subst hnil;exact .inr ⟨0,by simp [Y0f,bsome,sumR,SZ],by simpa [SZ] using hn,G⟩
 | k + 1,m,l,hk,hm,hb=>by
   intro n hn;obtain⟨m,rfl⟩ :∃q,m=q+1:=⟨m-1,by omega⟩
   rw[Y0d,Y2v];have hdd:(9-((k+1:Nat):Int))+1=9-(k:Int):=by omega
   rcases check_loop (self:=Y0d m) (d:=9-((k+1:Nat):Int)) (A:=VR k) (S:=SZ k) ⟨by omega,by omega⟩ l hb.len (fun x hx=>⟨(hb.2 x hx).1.len,(hb.2 x hx).2.len,fun _=>by
    rw[hdd];exact⟨check_tot k m _ Om Om (hb.2 x hx).1,check_tot k m _ Om Om (hb.2 x hx).2⟩⟩) l.length 0 FU n 0 0 Om (FU_gt (by have:=hb.len;omega)) Om hn with ⟨c,j,n',hc,h⟩|⟨h,hs,hx⟩
   . have h':Y0h (Y0d m) l (9-((k+1:Nat):Int)) FU (n:Int) 0 0 0=_:=h;rw[h',bsome];exact .inl ⟨c,j,n',hc,G⟩
   have h':Y0h (Y0d m) l (9-((k+1:Nat):Int)) FU (n:Int) 0 0 0=_:=h;rw[h',bsome];rw[l0s] at hs hx;exact .inr ⟨0,by simp [Y0f,bsome,sumR,SZ],hs,fun x hx'=>⟨(hx x hx').2.1,(hx x hx').2.2.1,(hx x hx').2.2.2⟩⟩
theorem validate_tot {l:List BT90}(hb:LB 9 l):∃c i,Y1h l=some (c,i)/\(c=0->VR 8 l/\SZ 8 l<=100):=by
 unfold Y1h Y49;rcases check_tot 8 FU l (l07 _) (FU_gt Dc) hb 0 Dc with ⟨c,i,n',hc,h⟩|⟨i,h,hs,hv⟩
 . have h':Y0d FU l 1 0 ()=some ((c,i),n',()):=h;rw[h',bsome];exact⟨c,i,G,fun z=>absurd z hc⟩
 have h':Y0d FU l 1 0 ()=some ((0,i),((0+SZ 8 l:Nat):Int),()):=h;rw[h',bsome];exact⟨0,i,G,fun _=>⟨hv,by omega⟩⟩
end Go.Ph.Pf
end
section
namespace Go.Ph.Pf
open Go.Ph.Pl
theorem sumR_cons (S:List BT90->Nat)(x:BT90)(l:List BT90):sumR S (x::l)=1+S (rThen x.out)+S (rElse x.out)+sumR S l:=by unfold sumR;rw [l0a,l1T]
theorem size_loop (self:List BT90->Option Int)(S:List BT90->Nat)(l:List BT90)(hl:l.length<=1000)(hs :∀x∈l,S (rThen x.out)<=100->S (rElse x.out)<=100->self (rThen x.out)=some (S (rThen x.out):Int)/\self (rElse x.out)=some (S (rElse x.out):Int)):
 ∀(k i m acc:Nat),l.length-i<=k->k<m->i<=l.length->acc+sumR S (l.drop i)<=100->Y1x self l m (acc:Int) (i:Int)=some ((acc+sumR S (l.drop i):Nat):Int)
 | 0,i,m,acc,z,E,J,hb=>by
   obtain⟨m,rfl⟩ :∃k,m=k+1:=⟨m-1,by omega⟩
   obtain rfl:i=l.length:=by omega
   rw[Y1x,if_neg Om,l0t];rfl
 | k + 1,i,m,acc,z,E,J,hb=>by
   obtain⟨m,rfl⟩ :∃k,m=k+1:=⟨m-1,by omega⟩
   by_cases hi:i<l.length
   . rw[drop_cons hi,sumR_cons] at hb;obtain⟨K,M⟩:=hs _ (l0p hi) Om Om;rw[Y1x,if_pos Om,idx_nat,List.getElem?_eq_getElem hi,bsome];have f:self (l[i]).out.2.2.2.2.2.2.2.1=some (S (rThen (l[i]).out):Int):=K;have u:self (l[i]).out.2.2.2.2.2.2.2.2.1=some (S (rElse (l[i]).out):Int):=M;rw[f,bsome,chk_ok Om Om,bsome,u,bsome,chk_ok Om Om,bsome,chk_ok Om Om,bsome,chk_succ Om,bsome];have:=size_loop self S l hl hs k (i+1) m (acc+(1+S (rThen (l[i]).out)+S (rElse (l[i]).out))) Om Om Om Om;rw[drop_cons hi,sumR_cons];rw[show ((acc:Int)+(1+(S (rThen (l[i]).out):Int)+(S (rElse (l[i]).out):Int)))=((acc+(1+S (rThen (l[i]).out)+S (rElse (l[i]).out)):Nat):Int) by omega,this];congr 2;omega
   obtain rfl:i=l.length:=by omega
   rw[Y1x,if_neg Om,l0t];rfl
theorem sumR_len (S:List BT90->Nat):∀l:List BT90,l.length<=sumR S l
 | []=>l07 _
 | x::l=>by rw[sumR_cons,l03];have:=sumR_len S l;omega
theorem sz_len {k:Nat}{l:List BT90}(hv:VR k l):l.length<=SZ k l:=by
 cases k with
 | zero=>have:l=[]:=hv;subst this;exact l07 _
 | succ k=>exact sumR_len (SZ k) l
theorem size_R :∀(k m:Nat) (l:List BT90),k<m->VR k l->SZ k l<=100->Y2b m l=some (SZ k l:Int)
 | 0,m,l,hm,hv,_=>by
   obtain⟨m,rfl⟩ :∃q,m=q+1:=⟨m-1,by omega⟩
   have:l=[]:=hv;subst this;rw[Y2b,Y3X];obtain⟨q,hq⟩ :∃q,FU=q+1:=⟨FU-1,by rw[FU_eq]⟩
   rw[hq,Y1x,if_neg Sm,bsome];rfl
 | k+1,m,l,hm,hv,hs=>by
   obtain⟨m,rfl⟩ :∃q,m=q+1:=⟨m-1,by omega⟩
   have hlen:=sz_len hv;rw[Y2b,Y3X];have:=size_loop (Y2b m) (SZ k) l Om (fun x hx f u=>⟨size_R k m _ Om (hv x hx).2.1 f,size_R k m _ Om (hv x hx).2.2 u⟩) l.length 0 FU 0 Om (FU_gt Om) Om (by rw[l0s,l0o];exact hs);rw[l0s,l0o] at this;have h':Y1x (Y2b m) l FU 0 0=some (sumR (SZ k) l:Int):=this;rw[h',bsome];rfl
theorem size_eq {k:Nat}{l:List BT90}(hk:k<=8)(hv:VR k l)(hs:SZ k l<=100):Y0L l=some (SZ k l:Int):=size_R k FU l (FU_gt Om) hv hs
end Go.Ph.Pf
end
section
namespace Go.Ph.Pf
open Go.Ph.Pl
abbrev KyT : Type:=Int × Ls × Int × Ls × Int
def kyT (t:TT):KyT:=(t.1,t.2.2.1,t.2.2.2.1,t.2.2.2.2.1,t.2.2.2.2.2)
theorem same_ky (a b:TT):Y4u a b=some (decide (kyT a=kyT b)):=by
 unfold Y4u kyT;by_cases f:a.1=b.1
 . rw[if_pos f];by_cases u:a.2.2.1=b.2.2.1
   . rw[if_pos u];by_cases z:a.2.2.2.1=b.2.2.2.1
     . rw[if_pos z];by_cases E:a.2.2.2.2.1=b.2.2.2.2.1
       . rw[if_pos E,bsome];simp [f,u,z,E]
       rw[if_neg E,bsome];simp [E]
     rw[if_neg z,bsome];simp [z]
   rw[if_neg u,bsome];simp [u]
 rw[if_neg f,bsome];simp [f]
def plc (l:List BT88)(k:KyT):Option Nat:=l.findIdx? (fun x=>decide (kyT x.out=k))
def plcI (o:Option Nat):Int:=match o with|some j=>(j:Int)|none => -1
theorem findIdx_ext {α:Type}{p:α->Bool}:∀{l:List α} {j:Nat},(∃h:j<l.length,p l[j]=true)->(∀a (ha:a<l.length),a<j->p l[a]=false)->l.findIdx? p=some j
 | [],j,⟨h,_⟩,_=>by simp at h
 | x::l,0,⟨_,h⟩,_=>by simp only[List.getElem_cons_zero] at h;simp [List.findIdx?_cons,h]
 | x::l,j+1,⟨hj,h⟩,hn=>by
   have f:=hn 0 Sm Om;simp only[List.getElem_cons_zero] at f;have:=findIdx_ext (l:=l) (p:=p) (j:=j) ⟨by simpa using hj,by simpa using h⟩ (fun a ha hl=>by have:=hn (a+1) (by simpa using ha) Om;simpa using this);simp [List.findIdx?_cons,f,this]
theorem find_eq (l:List BT88)(hl:l.length<=1000000)(t:TT):Y3v l t=some (plcI (plc l (kyT t))):=by
 have hL :∀m i (h:i<l.length),Y06 l t (m+1) (i:Int)=if kyT (l[i]).out=kyT t then some (.inr (i:Int)) else Y06 l t m ((i+1:Nat):Int):=by
  intro m i h;rw[Y06,if_pos Om,idx_nat,List.getElem?_eq_getElem h,bsome];have hs:Y3u ((l[i]).out.1,(l[i]).out.2.1,(l[i]).out.2.2.1,(l[i]).out.2.2.2.1,(l[i]).out.2.2.2.2.1,(l[i]).out.2.2.2.2.2) (t.1,t.2.1,t.2.2.1,t.2.2.2.1,t.2.2.2.2.1,t.2.2.2.2.2)=some (decide (kyT (l[i]).out=kyT t)):=by
   show Y3u (l[i]).out t=_
   unfold Y3u;have:Y4u ((l[i]).out.1,(l[i]).out.2.1,(l[i]).out.2.2.1,(l[i]).out.2.2.2.1,(l[i]).out.2.2.2.2.1,(l[i]).out.2.2.2.2.2) (t.1,t.2.1,t.2.2.1,t.2.2.2.1,t.2.2.2.2.1,t.2.2.2.2.2)=_:=same_ky (l[i]).out t;rw[this,bsome]
  rw[hs,bsome];by_cases hk:kyT (l[i]).out=kyT t
  . rw[if_pos (by simp [hk]),if_pos hk]
  rw[if_neg (by simp [hk]),if_neg hk,chk_succ Om,bsome]
 unfold Y3v Y25;rcases scanP (Y06 l t) l (fun i x=>if kyT x.out=kyT t then some (.inr (i:Int)) else none) (.inl ()) (fun m=>by rw[Y06,if_neg Om]) (fun m i h=>by
  rw[hL m i h];by_cases hk:kyT (l[i]).out=kyT t
  . rw[if_pos hk,if_pos hk]
  rw[if_neg hk,if_neg hk]) l.length 0 FU Om (FU_gt Om) Om with ⟨j,hj,r,_,f,u,J⟩|⟨f,u⟩
 . have hk:kyT (l[j]).out=kyT t:=by
    by_cases hk:kyT (l[j]).out=kyT t
    . exact hk
    rw[if_neg hk] at f;cases f
   rw[if_pos hk] at f;cases f;have z:Y06 l (t.1,t.2.1,t.2.2.1,t.2.2.2.1,t.2.2.2.2.1,t.2.2.2.2.2) FU 0=_:=J;have hp:plc l (kyT t)=some j:=findIdx_ext ⟨hj,by simp [hk]⟩ (fun a ha hlt=>by
    have:=u a ha Om hlt;by_cases hk:kyT (l[a]).out=kyT t
    . rw[if_pos hk] at this;cases this
    simp [hk])
   rw[z,bsome,bsome,hp];rfl
 have E:Y06 l (t.1,t.2.1,t.2.2.1,t.2.2.2.1,t.2.2.2.2.1,t.2.2.2.2.2) FU 0=_:=u;have hp:plc l (kyT t)=none:=by
  unfold plc;rw[List.findIdx?_eq_none_iff];intro x hx;obtain⟨i,hi,rfl⟩:=l0P hx;have:=f i hi Om;by_cases hk:kyT (l[i]).out=kyT t
  . rw[if_pos hk] at this;cases this
  simp [hk]
 rw[E,bsome,bsome,hp];rfl
end Go.Ph.Pf
end
section
namespace Go.Ph.Pf
open Go.Ph.Pl
def tvl (g:KyT->Bool):Nat->TT->Bool
 | 0,_=>false
 | n+1,t =>
   if t.1=1 then true
   else if t.1=2 then !(t.2.1.all (fun x=>tvl g n x.out))
   else if t.1=3 then t.2.1.all (fun x=>tvl g n x.out)
   else if t.1=4 then t.2.1.any (fun x=>tvl g n x.out)
   else g (kyT t)
def InT (l:List BT88):Nat->TT->Prop
 | 0,_=>True
 | n+1,t=>(4<t.1->∃j,plc l (kyT t)=some j)/\∀x∈t.2.1,InT l n x.out
def asg (l:List BT88)(o:Nat)(k:KyT):Bool:=match plc l k with|some j=>decide (o / 2 ^ j % 2=1)|none=>false
theorem contains_loop (L:Nat->Int->Option (Unit ⊕ Int))(l:List BT88)(hl:l.length<=1000)(p:BT88->Bool)(hend :∀m,L (m+1) (l.length:Int)=some (.inl ()))
 (hstep :∀m i (h:i<l.length),L (m+1) (i:Int)=if p l[i]=true then some (.inr (i:Int)) else L m ((i+1:Nat):Int)) :
 (L FU 0=some (.inl ())/\l.any p=false)∨∃i:Nat,L FU 0=some (.inr (i:Int))/\l.any p=true:=by
 rcases scanP L l (fun i x=>if p x=true then some (.inr (i:Int)) else none) (.inl ()) hend (fun m i h=>by
  rw[hstep m i h];by_cases hp:p l[i]=true
  . rw[if_pos hp,if_pos hp]
  rw[if_neg hp,if_neg hp]) l.length 0 FU Om (FU_gt Om) Om with ⟨j,hj,r,_,f,_,u⟩|⟨f,z⟩
 . have hp:p l[j]=true:=by
    by_cases hp:p l[j]=true
    . exact hp
    rw[if_neg hp] at f;cases f
   rw[if_pos hp] at f;cases f;exact .inr ⟨j,u,List.any_eq_true.2 ⟨l[j],l0p hj,hp⟩⟩
 refine .inl ⟨z,?_⟩;rw[l1X];intro x hx;obtain⟨i,hi,rfl⟩:=l0P hx;have:=f i hi Om;intro hp;rw[if_pos hp] at this;cases this
theorem bit_eq (l:List BT88)(hl:l.length<=10)(o:Nat)(ho:o<=1000000)(k:KyT)(j:Nat)(hj:plc l k=some j):((shrI (o:Int) (plcI (plc l k))).bind fun n=>(andI n 1).bind fun q=>some (decide (q=(1:Int))))=some (asg l o k):=by
 have hjl:j<l.length:=(List.findIdx?_eq_some_iff_getElem.1 hj).1;unfold asg;rw[hj];simp only[plcI];unfold shrI;rw[if_pos ⟨by omega,by omega,by omega⟩,bsome];have hdiv:Int.fdiv (o:Int) (2 ^ ((j:Int)).toNat)=((o / 2 ^ j:Nat):Int):=by
  rw[l0b];rw[show ((2:Int) ^ j)=((2 ^ j:Nat):Int) by simp,Int.fdiv_eq_ediv_of_nonneg _ (l1o _)];simp
 rw[hdiv];have hx:o / 2 ^ j<=1000000:=l0A (Nat.div_le_self _ _) ho;generalize o / 2 ^ j=x at hx;unfold andI;rw[if_pos ⟨by omega,by omega,by omega,by omega⟩,bsome];have:((x:Int)).toNat &&& ((1:Int)).toNat=x % 2:=by rw[l0b];exact Nat.and_one_is_mod x
 rw[this];congr 1;rw[decide_eq_decide];omega
theorem holds_R (l:List BT88)(hl:l.length<=10)(o:Nat)(ho:o<=1000000):∀(n m:Nat) (t:TT),n<=m->VT n t->InT l n t->Y0G m (l,(o:Int),(),()) t=some (tvl (asg l o) n t)
 | 0,m,t,_,hv,_=>hv.elim
 | n + 1,m,t,hm,hv,hi=>by
   obtain⟨m,rfl⟩ :∃q,m=q+1:=⟨m-1,by omega⟩
   obtain⟨J,K,hin,hx⟩:=hv;have ih :∀x∈t.2.1,Y0G m (l,(o:Int),(),()) ((x.out).1,(x.out).2.1,(x.out).2.2.1,(x.out).2.2.2.1,(x.out).2.2.2.2.1,(x.out).2.2.2.2.2)=some (tvl (asg l o) n x.out):=fun x hx'=>holds_R l hl o ho n m x.out Om (hx x hx') (hi.2 x hx')
   have hlen:=inn_len hin;rw[Y0G,Y2L];unfold tvl;by_cases u:t.1=1
   . rw[if_pos u,if_pos u]
   rw[if_neg u,if_neg u];by_cases f:t.1=2
   . rw[if_pos f,if_pos f];have hone:=hin.1 f
     match hts:t.2.1,hone with
     | [x],_ =>
       have hix:idx [x] 0=some x:=rfl;rw[hix,bsome];have:=ih x (by rw[hts];simp);dsimp only at this ⊢;rw[this,bsome];simp
   rw[if_neg f,if_neg f];by_cases z:t.1=3
   . rw[if_pos z,if_pos z];unfold Y1F Y26;rcases contains_loop (Y0s (Y0G m) t.2.1 (l,(o:Int),(),())) t.2.1 Om (fun x => !tvl (asg l o) n x.out) (fun m=>by rw[Y0s,if_neg Om]) (fun m' i h=>by
      rw[Y0s,if_pos Om,idx_nat,List.getElem?_eq_getElem h,bsome];unfold Y2K;have:=ih _ (l0p h);dsimp only at this ⊢;rw[this,bsome,bsome];cases tvl (asg l o) n (t.2.1[i]).out with
      | true=>rw[if_neg Dc,if_neg Dc,chk_succ Om,bsome]
      | false=>rw[if_pos Dc,if_pos Dc]) with ⟨hq,hd⟩|⟨i,hq,hd⟩
     . dsimp only at hq ⊢;rw[hq,bsome,bsome,bsome];rw[←l1m] at hd;simp only[Bool.not_eq_false'] at hd;rw[hd];rfl
     dsimp only at hq ⊢;rw[hq,bsome,bsome,bsome];rw[←l1m] at hd;simp only[l1V] at hd;rw[hd];simp
   rw[if_neg z,if_neg z];by_cases E:t.1=4
   . rw[if_pos E,if_pos E];unfold Y1G Y27;rcases contains_loop (Y0t (Y0G m) t.2.1 (l,(o:Int),(),())) t.2.1 Om (fun x=>tvl (asg l o) n x.out) (fun m=>by rw[Y0t,if_neg Om]) (fun m' i h=>by
      rw[Y0t,if_pos Om,idx_nat,List.getElem?_eq_getElem h,bsome];have:=ih _ (l0p h);dsimp only at this ⊢;rw[this,bsome];cases tvl (asg l o) n (t.2.1[i]).out with
      | true=>rw[if_pos rfl,if_pos rfl]
      | false=>rw[if_neg Dc,if_neg Dc,chk_succ Om,bsome]) with ⟨hq,hd⟩|⟨i,hq,hd⟩
     . dsimp only at hq ⊢;rw[hq,bsome,bsome,bsome,hd];rfl
     dsimp only at hq ⊢;rw[hq,bsome,bsome,bsome,hd];simp
   rw[if_neg E,if_neg E];obtain⟨j,hj⟩:=hi.1 Om;have hf:Y3v l (t.1,t.2.1,t.2.2.1,t.2.2.2.1,t.2.2.2.2.1,t.2.2.2.2.2)=some (plcI (plc l (kyT t))):=find_eq l Om t;dsimp only;rw[hf,bsome];exact bit_eq l hl o ho (kyT t) j hj
end Go.Ph.Pf
end
section
namespace Go.Ph.Pf
open Go.Ph.Pl
def CT : Nat->TT->Nat
 | 0,_=>0
 | n+1,t=>1+(t.2.1.map (fun x=>CT n x.out)).sum
def ExL (l l':List BT88):Prop :=∀k j,plc l k=some j->plc l' k=some j
theorem ExL.refl (l:List BT88):ExL l l:=fun _ _ h=>h
theorem ExL.trans {a b c:List BT88}(h:ExL a b)(k:ExL b c):ExL a c:=fun q j hq=>k q j (h q j hq)
theorem ExL.app (l s:List BT88):ExL l (l++s):=fun k j h=>by
 unfold plc at h ⊢;rw[List.findIdx?_append,h];rfl
theorem InT.mono {l l':List BT88}(h:ExL l l'):∀{n:Nat} {t:TT},InT l n t->InT l' n t
 | 0,_,_=>trivial
 | n+1,t,⟨f,u⟩=>⟨fun hk=>let ⟨j,hj⟩:=f hk;⟨j,h _ j hj⟩,fun x hx=>InT.mono h (u x hx)⟩
theorem plc_app (l:List BT88)(t:TT)(h:plc l (kyT t)=none):plc (l++[BT88.of t]) (kyT t)=some l.length:=by
 unfold plc at h ⊢;rw[List.findIdx?_append,h];simp [List.findIdx?_cons,BT88.of,BT88.out,kyT]
def sumT (n:Nat)(l:List BT88):Nat:=(l.map (fun x=>CT n x.out)).sum
theorem sumT_cons (n:Nat)(x:BT88)(l:List BT88):sumT n (x::l)=CT n x.out+sumT n l:=by unfold sumT;rw [l0a,l1T]
theorem collect_loop (self:List BT88->TT->Option (List BT88))(n:Nat)(t:TT)(hlen:t.2.1.length<=60)
 (hs :∀x∈t.2.1,∀l:List BT88,l.length+CT n x.out<=100000->∃l',self l x.out=some l'/\l'.length<=l.length+CT n x.out/\ExL l l'/\InT l' n x.out) :
 ∀(k i m:Nat) (l:List BT88),t.2.1.length-i<=k->k<m->i<=t.2.1.length->l.length+sumT n (t.2.1.drop i)<=100000->
  ∃l',Y0Q self t m l (i:Int)=some l'/\l'.length<=l.length+sumT n (t.2.1.drop i)/\ExL l l'/\∀x∈t.2.1.drop i,InT l' n x.out
 | 0,i,m,l,E,J,K,hb=>by
   obtain⟨m,rfl⟩ :∃k,m=k+1:=⟨m-1,by omega⟩
   obtain rfl:i=t.2.1.length:=by omega
   rw[Y0Q,if_neg Om];exact⟨l,G,by omega,ExL.refl l,fun x hx=>by simp at hx⟩
 | k + 1,i,m,l,E,J,K,hb=>by
   obtain⟨m,rfl⟩ :∃k,m=k+1:=⟨m-1,by omega⟩
   by_cases hi:i<t.2.1.length
   . rw[drop_cons hi,sumT_cons] at hb ⊢;obtain⟨f,M,Y,N,O⟩:=hs _ (l0p hi) l Om;rw[Y0Q,if_pos Om,idx_nat,List.getElem?_eq_getElem hi,bsome];have u:self l ((t.2.1[i]).out.1,(t.2.1[i]).out.2.1,(t.2.1[i]).out.2.2.1,(t.2.1[i]).out.2.2.2.1,(t.2.1[i]).out.2.2.2.2.1,(t.2.1[i]).out.2.2.2.2.2)=some f:=M;rw[u,bsome,chk_succ Om,bsome];obtain⟨l2,U,Z,z,V⟩:=collect_loop self n t hlen hs k (i+1) m f Om Om Om Om;refine⟨l2,U,by omega,N.trans z,fun x hx=>?_⟩;rcases List.mem_cons.1 hx with rfl|hx
     . exact InT.mono z O
     exact V x hx
   obtain rfl:i=t.2.1.length:=by omega
   rw[Y0Q,if_neg Om];exact⟨l,G,by omega,ExL.refl l,fun x hx=>by simp at hx⟩
theorem collect_R :∀(n m:Nat) (t:TT) (l:List BT88),n<=m->VT n t->l.length+CT n t<=100000->∃l',Y14 m l t=some l'/\l'.length<=l.length+CT n t/\ExL l l'/\InT l' n t
 | 0,m,t,l,_,hv,_=>hv.elim
 | n+1,m,t,l,hm,hv,hb=>by
   obtain⟨m,rfl⟩ :∃q,m=q+1:=⟨m-1,by omega⟩
   obtain⟨Y,Z,hin,hx⟩:=hv;have hct:CT (n+1) t=1+sumT n t.2.1:=rfl;rw[hct] at hb;have key :∃f,(f.length<=l.length+1/\ExL l f/\(4<t.1->∃j,plc f (kyT t)=some j))/\Y14 (m+1) l t=((Y0Q (Y14 m) t FU f 0).bind fun z=>some z):=by
    rw[Y14,Y3B];have hsm:Y4N (t.1,t.2.1,t.2.2.1,t.2.2.2.1,t.2.2.2.2.1,t.2.2.2.2.2)=some (decide ((4:Int)<t.1)):=rfl;rw[hsm,bsome];by_cases u:(4:Int)<t.1
    . rw [if_pos (by simpa using u)];have hf:Y3v l (t.1,t.2.1,t.2.2.1,t.2.2.2.1,t.2.2.2.2.1,t.2.2.2.2.2)=some (plcI (plc l (kyT t))):=find_eq l Om t;rw[hf,bsome,bsome];cases hp:plc l (kyT t) with
      | some j =>
        have hn :¬(decide (plcI (some j)<(0:Int))=true):=by
         rw[decide_eq_true_eq];show ¬((j:Int)<0)
         omega
        rw[if_neg hn,bsome];exact⟨l,⟨by omega,ExL.refl l,fun _=>⟨j,hp⟩⟩,G⟩
      | none =>
        rw[if_pos (by simp [plcI])];have hap:app 80 l ([BT88.of (t.1,t.2.1,t.2.2.1,t.2.2.2.1,t.2.2.2.2.1,t.2.2.2.2.2)]:List BT88)=some (l++[BT88.of t]):=app_ok (by simp only[l03,l09];omega);rw[hap,bsome,bsome];exact⟨l++[BT88.of t],⟨by simp,ExL.app l _,fun _=>⟨_,plc_app l t hp⟩⟩,G⟩
    rw[if_neg (by simpa using u),bsome,if_neg Dc,bsome];exact⟨l,⟨by omega,ExL.refl l,fun h=>absurd h u⟩,G⟩
   obtain⟨f,⟨k1,M,N⟩,O⟩:=key;obtain⟨l2,U,V,E,J⟩:=collect_loop (Y14 m) n t (inn_len hin) (fun x hx' l hl=>collect_R n m x.out l Om (hx x hx') hl) t.2.1.length 0 FU f Om (FU_gt (by have:=inn_len hin;omega)) Om (by rw[l0s];omega);have K:Y0Q (Y14 m) t FU f 0=some l2:=U;rw[l0s] at V J;rw[O,K,bsome];exact⟨l2,G,by rw[hct];omega,M.trans E,fun h=>let ⟨j,hj⟩:=N h;⟨j,E _ j hj⟩,J⟩
end Go.Ph.Pf
end
section
namespace Go.Ph.Pf
open Go.Ph.Pl
def CR : Nat->List BT90->Nat
 | 0,_=>0
 | n+1,l=>(l.map (fun x=>(if x.out.1=1 then CT 9 (rT x.out) else 0)+CR n (rThen x.out)+CR n (rElse x.out))).sum
def sumC (n:Nat)(l:List BT90):Nat:=(l.map (fun x=>(if x.out.1=1 then CT 9 (rT x.out) else 0)+CR n (rThen x.out)+CR n (rElse x.out))).sum
theorem sumC_cons (n:Nat)(x:BT90)(l:List BT90):sumC n (x::l)=(if x.out.1=1 then CT 9 (rT x.out) else 0)+CR n (rThen x.out)+CR n (rElse x.out)+sumC n l:=by unfold sumC;rw [l0a,l1T]
def InR (l:List BT88):Nat->List BT90->Prop
 | 0,_=>True
 | n+1,s =>∀x∈s,(x.out.1=1->InT l 9 (rT x.out))/\InR l n (rThen x.out)/\InR l n (rElse x.out)
theorem InR.mono {l l':List BT88}(h:ExL l l'):∀{n:Nat} {s:List BT90},InR l n s->InR l' n s
 | 0,_,_=>trivial
 | n+1,s,hs=>fun x hx=>⟨fun f=>InT.mono h ((hs x hx).1 f),InR.mono h (hs x hx).2.1,InR.mono h (hs x hx).2.2⟩
theorem tests_loop (self:List BT88->List BT90->Option (List BT88))(n:Nat)(s:List BT90)(hlen:s.length<=1000)(hok :∀x∈s,OkR x.out)
 (hs :∀x∈s,∀q:List BT90,(q=rThen x.out∨q=rElse x.out)->∀l:List BT88,l.length+CR n q<=100000->∃l',self l q=some l'/\l'.length<=l.length+CR n q/\ExL l l'/\InR l' n q) :
 ∀(k i m:Nat) (l:List BT88),s.length-i<=k->k<m->i<=s.length->l.length+sumC n (s.drop i)<=100000->
  ∃l',Y1j self s m l (i:Int)=some l'/\l'.length<=l.length+sumC n (s.drop i)/\ExL l l'/\∀x∈s.drop i,(x.out.1=1->InT l' 9 (rT x.out))/\InR l' n (rThen x.out)/\InR l' n (rElse x.out)
 | 0,i,m,l,Y,Z,h3,hb=>by
   obtain⟨m,rfl⟩ :∃k,m=k+1:=⟨m-1,by omega⟩
   obtain rfl:i=s.length:=by omega
   rw[Y1j,if_neg Om];exact⟨l,G,by omega,ExL.refl l,fun x hx=>by simp at hx⟩
 | k + 1,i,m,l,Y,Z,h3,hb=>by
   obtain⟨m,rfl⟩ :∃k,m=k+1:=⟨m-1,by omega⟩
   by_cases hi:i<s.length
   . rw [drop_cons hi,sumC_cons] at hb ⊢;rw[Y1j,if_pos Om,idx_nat,List.getElem?_eq_getElem hi,bsome];have hx:=l0p hi;have key :∃f,f.length<=l.length+(if (s[i]).out.1=1 then CT 9 (rT (s[i]).out) else 0)/\ExL l f/\((s[i]).out.1=1->InT f 9 (rT (s[i]).out))/\
      (if (s[i]).out.1=(1:Int) then(Y4o l ((s[i]).out.2.1,(s[i]).out.2.2.1,(s[i]).out.2.2.2.1,(s[i]).out.2.2.2.2.1,(s[i]).out.2.2.2.2.2.1,(s[i]).out.2.2.2.2.2.2.1)).bind fun N=>some N else some l)=some f:=by
      by_cases hk:(s[i]).out.1=1
      . rw[if_pos hk] at hb;obtain⟨f,J,O,z,K⟩:=collect_R 9 FU (rT (s[i]).out) l (by rw[FU_eq];omega) ((hok _ hx).2.2.1 hk) Om;have u:Y4o l ((s[i]).out.2.1,(s[i]).out.2.2.1,(s[i]).out.2.2.2.1,(s[i]).out.2.2.2.2.1,(s[i]).out.2.2.2.2.2.1,(s[i]).out.2.2.2.2.2.2.1)=some f:=J;rw[if_pos hk,if_pos hk,u,bsome];exact⟨f,O,z,fun _=>K,G⟩
      rw[if_neg hk,if_neg hk];exact⟨l,by omega,ExL.refl l,fun h=>absurd h hk,G⟩
     obtain⟨f,k1,k2,k3,k4⟩:=key;rw[k4,bsome];obtain⟨l2,J,O,z,K⟩:=hs _ hx _ (.inl rfl) f Om;have u:self f (s[i]).out.2.2.2.2.2.2.2.1=some l2:=J;rw[u,bsome];obtain⟨U,f1,f2,M,f4⟩:=hs _ hx _ (.inr rfl) l2 Om;have V:self l2 (s[i]).out.2.2.2.2.2.2.2.2.1=some U:=f1;rw[V,bsome,chk_succ Om,bsome];obtain⟨l4,g1,g2,E,g4⟩:=tests_loop self n s hlen hok hs k (i+1) m U Om Om Om Om;refine⟨l4,g1,by omega,((k2.trans z).trans M).trans E,fun x hx=>?_⟩;rcases List.mem_cons.1 hx with rfl|hx
     . exact⟨fun h=>InT.mono ((z.trans M).trans E) (k3 h),InR.mono (M.trans E) K,InR.mono E f4⟩
     exact g4 x hx
   obtain rfl:i=s.length:=by omega
   rw[Y1j,if_neg Om];exact⟨l,G,by omega,ExL.refl l,fun x hx=>by simp at hx⟩
theorem tests_R :∀(n m:Nat) (s:List BT90) (l:List BT88),n<m->VR n s->SZ n s<=100->l.length+CR n s<=100000->∃l',Y1R m l s=some l'/\l'.length<=l.length+CR n s/\ExL l l'/\InR l' n s
 | 0,m,s,l,hm,hv,_,_=>by
   obtain⟨m,rfl⟩ :∃q,m=q+1:=⟨m-1,by omega⟩
   have:s=[]:=hv;subst this;rw[Y1R,Y3C];obtain⟨q,hq⟩ :∃q,FU=q+1:=⟨FU-1,by rw[FU_eq]⟩
   rw[hq,Y1j,if_neg Sm,bsome];exact⟨l,G,l1k _ _,ExL.refl l,trivial⟩
 | n + 1,m,s,l,hm,hv,hz,hb=>by
   obtain⟨m,rfl⟩ :∃q,m=q+1:=⟨m-1,by omega⟩
   have hlen:=sz_len hv;have hsz :∀x∈s,SZ n (rThen x.out)<=100/\SZ n (rElse x.out)<=100:=fun x hx=>by
    have E:SZ (n+1) s=sumR (SZ n) s:=rfl;have M:1+SZ n (rThen x.out)+SZ n (rElse x.out)<=sumR (SZ n) s:=by
     clear hb hv hlen hz E;induction s with
     | nil=>cases hx
     | cons a s ih =>
       rw[sumR_cons];rcases List.mem_cons.1 hx with rfl|hx
       . omega
       have:=ih hx;omega
    omega
   rw[Y1R,Y3C];obtain⟨l',J,f,K,u⟩:=tests_loop (Y1R m) n s Om (fun x hx=>(hv x hx).1) (fun x hx q hq l hl=>by
    rcases hq with rfl|rfl
    . exact tests_R n m _ l Om (hv x hx).2.1 (hsz x hx).1 hl
    exact tests_R n m _ l Om (hv x hx).2.2 (hsz x hx).2 hl) s.length 0 FU l Om (FU_gt Om) Om (by rw[l0s];exact hb)
   rw[l0s] at f u;have z:Y1j (Y1R m) s FU l 0=some l':=J;rw[z,bsome];exact⟨l',G,f,K,u⟩
end Go.Ph.Pf
end
section
namespace Go.Ph.Pf
open Go.Ph.Pl
theorem peta {α β:Type}(p:α × β):(p.1,p.2)=p:=rfl
abbrev PT : Type:=Ls × Int × Int × Int × Ls × Bool × Int × Int × Int
abbrev pKd (p:PT):Int:=p.2.2.1
abbrev pTk (p:PT):Ls:=p.2.2.2.2.1
abbrev pBad (p:PT):Bool:=p.2.2.2.2.2.1
abbrev pRu (p:PT):Int:=p.2.2.2.2.2.2.1
abbrev pDe (p:PT):Int:=p.2.2.2.2.2.2.2.1
abbrev pTe (p:PT):Int:=p.2.2.2.2.2.2.2.2
def PWF (p:PT):Prop:=p.1.length<=4000/\0<=p.2.1/\p.2.1<=(p.1.length:Int)/\(pTk p).length<=4000
def pw (p:PT):Nat:=(p.1.length-p.2.1.toNat)+(if 1<=pKd p/\pKd p<=4 then 1 else 0)
def Stp (p q:PT):Prop:=q.1=p.1/\PWF q/\pw q<=pw p/\(pBad p=true->pBad q=true)/\pRu q=pRu p/\pDe q=pDe p/\pTe q=pTe p
theorem Stp.refl {p:PT}(h:PWF p):Stp p p:=⟨rfl,h,l07 _,fun h=>h,rfl,rfl,rfl⟩
theorem Stp.trans {p q r:PT}(h:Stp p q)(k:Stp q r):Stp p r :=
 ⟨k.1.trans h.1,k.2.1,l0A k.2.2.1 h.2.2.1,fun b=>k.2.2.2.1 (h.2.2.2.1 b),k.2.2.2.2.1.trans h.2.2.2.2.1,k.2.2.2.2.2.1.trans h.2.2.2.2.2.1,k.2.2.2.2.2.2.trans h.2.2.2.2.2.2⟩
theorem pw_max {p:PT}(h:PWF p):pw p<=4001:=by
 unfold pw;have:=h.1;split <;> omega
theorem quoted_L1 (s:Ls)(hs:s.length<=4000)(a:Int)(kd ta:Int)(tk:Ls)(bad:Bool)(ru de te:Int)(E J:Int)(K:Ls)(u f:Int)(z:Ls):
 ∀(k i m:Nat) (o:Ls),s.length-i<=k->k<m->i<=s.length->o.length<=i->
  Y08 m s a kd ta tk bad ru de te E J K u f z o (i:Int)=some (.inl (E,J,K,u,f,z,s,a,kd,ta,tk,bad,ru,de,te))∨
  Y08 m s a kd ta tk bad ru de te E J K u f z o (i:Int)=some (.inr ((5,f,z),(s,a,kd,ta,tk,bad,ru,de,te)))∨
  ∃(j:Nat) (l:Ls),i<j/\j<=s.length/\l.length<=4000/\Y08 m s a kd ta tk bad ru de te E J K u f z o (i:Int)=some (.inr ((u,f,l),(s,(j:Int),kd,ta,tk,bad,ru,de,te))):=by
 intro k;induction k with
 | zero =>
   intro i m o Y Z h3 h4;obtain⟨m,rfl⟩ :∃k,m=k+1:=⟨m-1,by omega⟩
   rw[Y08,if_neg Om];exact .inl G
 | succ k ih =>
   intro i m o Y Z h3 h4;obtain⟨m,rfl⟩ :∃k,m=k+1:=⟨m-1,by omega⟩
   by_cases hi:i<s.length
   . rw [Y08,if_pos Om,idx_nat,List.getElem?_eq_getElem hi,bsome];by_cases hq:s[i]=34
     . rw[if_pos hq,chk_succ Om,bsome];exact .inr (.inr ⟨i+1,o,by omega,by omega,by omega,G⟩)
     rw[if_neg hq];by_cases hb:s[i]=92
     . rw[if_pos hb,chk_succ Om,bsome];by_cases he:i+1=s.length
       . rw[if_pos Om,bsome,if_pos rfl];exact .inr (.inl G)
       rw[if_neg Om,idx_nat,List.getElem?_eq_getElem (by omega:i+1<s.length),bsome];have go:(app 1 o ([s[i+1]]:Ls)).bind (fun O=>(chk (((i+1:Nat):Int)+1)).bind fun U=>Y08 m s a kd ta tk bad ru de te E J K u f z O U)=Y08 m s a kd ta tk bad ru de te E J K u f z (o++[s[i+1]]) ((i+1+1:Nat):Int):=by
        rw[app_ok (by simp only[l03,l09];omega),bsome,chk_succ Om,bsome]
       have nx:=ih (i+1+1) m (o++[s[i+1]]) Om Om Om (by simp only[l06,l03,l09];omega);by_cases hc:s[i+1]=34
       . rw[if_pos hc,bsome,if_neg Dc,bsome,go];rcases nx with h|h|⟨j,l,V,M,N,h⟩
         . exact .inl h
         . exact .inr (.inl h)
         exact .inr (.inr ⟨j,l,by omega,M,N,h⟩)
       rw[if_neg hc,bsome,bsome];by_cases hd:s[i+1]=92
       . rw[if_neg (by simp [hd]),bsome,go];rcases nx with h|h|⟨j,l,V,M,N,h⟩
         . exact .inl h
         . exact .inr (.inl h)
         exact .inr (.inr ⟨j,l,by omega,M,N,h⟩)
       rw[if_pos (by simp [hd])];exact .inr (.inl G)
     rw[if_neg hb,app_ok (by simp only[l03,l09];omega),bsome,chk_succ Om,bsome];rcases ih (i+1) m (o++[s[i]]) Om Om Om (by simp only[l06,l03,l09];omega) with h|h|⟨j,l,V,M,N,h⟩
     . exact .inl h
     . exact .inr (.inl h)
     exact .inr (.inr ⟨j,l,by omega,M,N,h⟩)
   rw[Y08,if_neg Om];exact .inl G
theorem quoted_tot (s:Ls)(hs:s.length<=4000)(a:Nat)(ha:a<s.length)(kd ta:Int)(tk:Ls)(bad:Bool)(ru de te:Int):
 ∃(k:Int) (l:Ls) (j:Nat),Y2h (s,(a:Int),kd,ta,tk,bad,ru,de,te)=some ((k,(a:Int),l),(s,(j:Int),kd,ta,tk,bad,ru,de,te))/\a<=j/\j<=s.length/\l.length<=4000/\(k=5∨a<j):=by
 unfold Y2h;dsimp only;rw[chk_succ Om,bsome];rcases quoted_L1 s hs a kd ta tk bad ru de te 0 0 [] 1 a [] s.length (a+1) FU [] Om (FU_gt Om) Om (l0r _) with h|h|⟨j,l,z,f,u,h⟩
 . rw[h,bsome];exact⟨5,[],a,G,l07 _,by omega,by simp, .inl G⟩
 . rw[h,bsome];exact⟨5,[],a,G,l07 _,by omega,by simp, .inl G⟩
 rw[h,bsome];exact⟨1,l,j,G,by omega,f,u, .inr Om⟩
theorem adv1_tot (c:UInt8):∃b,Y10 c=some b:=by
 unfold Y10;split
 . exact⟨_,G⟩
 exact⟨_,G⟩
theorem adv2_tot (c:UInt8):∃b,Y1g c=some b:=by
 unfold Y1g;split
 . exact⟨_,G⟩
 exact⟨_,G⟩
theorem adv_L1 (s:Ls)(hs:s.length<=4000)(kd ta:Int)(tk:Ls)(bad:Bool)(ru de te:Int):
 ∀(k i m:Nat),s.length-i<=k->k<m->i<=s.length->∃j:Nat,i<=j/\j<=s.length/\Y0u m s (i:Int) kd ta tk bad ru de te=some (s,(j:Int),kd,ta,tk,bad,ru,de,te):=by
 intro k;induction k with
 | zero =>
   intro i m u z f;obtain⟨m,rfl⟩ :∃k,m=k+1:=⟨m-1,by omega⟩
   rw[Y0u,if_neg Om,bsome,if_neg Dc];exact⟨i,l07 _,f,G⟩
 | succ k ih =>
   intro i m u z f;obtain⟨m,rfl⟩ :∃k,m=k+1:=⟨m-1,by omega⟩
   by_cases hi:i<s.length
   . rw[Y0u,if_pos Om,idx_nat,List.getElem?_eq_getElem hi,bsome];rw[show Y0K [32,9,13,10] s[i]=some (ixB [32,9,13,10] s[i]) from rfl,bsome,bsome];by_cases hc:(0:Int)<=ixB [32,9,13,10] s[i]
     . rw[if_pos (by simpa using hc),chk_succ Om,bsome];obtain⟨j,K,E,J⟩:=ih (i+1) m Om Om Om;exact⟨j,by omega,E,J⟩
     rw[if_neg (by simpa using hc)];exact⟨i,l07 _,f,G⟩
   rw[Y0u,if_neg Om,bsome,if_neg Dc];exact⟨i,l07 _,f,G⟩
theorem adv_L2 (s:Ls)(hs:s.length<=4000)(n:Int):
 ∀(k i m:Nat),s.length-i<=k->k<m->i<=s.length->∃j:Nat,i<=j/\j<=s.length/\Y0o s n m (i:Int)=some (j:Int):=by
 intro k;induction k with
 | zero =>
   intro i m u z f;obtain⟨m,rfl⟩ :∃k,m=k+1:=⟨m-1,by omega⟩
   rw[Y0o,if_neg Om,bsome,if_neg Dc];exact⟨i,l07 _,f,G⟩
 | succ k ih =>
   intro i m u z f;obtain⟨m,rfl⟩ :∃k,m=k+1:=⟨m-1,by omega⟩
   by_cases hi:i<s.length
   . rw[Y0o,if_pos Om,idx_nat,List.getElem?_eq_getElem hi,bsome];obtain⟨E,J⟩:=adv2_tot s[i];obtain⟨K,M⟩:=adv1_tot s[i];rw[J,bsome,bsome,M,bsome];have :∃b,(if E=true then some true else if n=2 then some K else some false)=some b:=by(repeat' split) <;> exact⟨_,rfl⟩
     obtain⟨b,hb⟩:=this;rw[hb,bsome];cases b with
     | true =>
       rw[if_pos rfl,chk_succ Om,bsome];obtain⟨j,U,N,O⟩:=ih (i+1) m Om Om Om;exact⟨j,by omega,N,O⟩
     | false =>
       rw[if_neg Dc];exact⟨i,l07 _,f,G⟩
   rw[Y0o,if_neg Om,bsome,if_neg Dc];exact⟨i,l07 _,f,G⟩
theorem adv_raw (s:Ls)(hs:s.length<=4000)(a:Nat)(ha:a<=s.length)(kd ta:Int)(tk:Ls)(bad:Bool)(ru de te:Int):
 ∃(j:Nat) (kd' ta':Int) (tk':Ls),Y0X (s,(a:Int),kd,ta,tk,bad,ru,de,te)=some (s,(j:Int),kd',ta',tk',bad,ru,de,te)/\a<=j/\j<=s.length/\tk'.length<=4000/\(1<=kd'/\kd'<=4->a<j):=by
 unfold Y0X;dsimp only;obtain⟨j,O,U,V⟩:=adv_L1 s hs kd ta tk bad ru de te s.length a FU Om (FU_gt Om) ha;rw[V,bsome];dsimp only;by_cases he:j=s.length
 . rw[if_pos Om];exact⟨j,0,_,[],G,O,U,by simp,fun h=>by omega⟩
 rw[if_neg Om,idx_nat,List.getElem?_eq_getElem (by omega:j<s.length),bsome];by_cases hq:s[j]=34
 . rw[if_pos hq];obtain⟨k,l,i,z,K,Y,Z,e5⟩:=quoted_tot s hs j Om kd ta tk bad ru de te;rw[z,bsome];exact⟨i,k,_,l,G,by omega,Y,Z,fun h=>by omega⟩
 rw[if_neg hq,chk_succ Om,bsome];obtain⟨E,z⟩:=adv1_tot (s[j]'Om);obtain⟨b2,K⟩:=adv2_tot (s[j]'Om);rw[z,bsome,K,bsome];have hb :∃b,(if E=true then some true else some b2)=some b:=by split <;> exact⟨_,rfl⟩
 obtain⟨b,hb⟩:=hb;rw[hb,bsome];have key :∃(i:Nat) (k:Int),j<i/\i<=s.length/\(if b=true then(some E).bind fun M=>((if M=true then some 2 else some 3:Option Int)).bind fun u=>(Y0o s u FU ((j+1:Nat):Int)).bind fun N=>some (N,u) else some (((j+1:Nat):Int),4))=some ((i:Int),k):=by
  cases b with
  | true =>
    rw[if_pos rfl,bsome];obtain⟨n,hn⟩ :∃n:Int,(if E=true then some 2 else some 3:Option Int)=some n:=by split <;> exact⟨_,rfl⟩
    rw[hn,bsome];obtain⟨i,i1,f,J⟩:=adv_L2 s hs n s.length (j+1) FU Om (FU_gt Om) Om;rw[J,bsome];exact⟨i,n,by omega,f,G⟩
  | false =>
    rw[if_neg Dc];exact⟨j+1,4,by omega,by omega,G⟩
 obtain⟨i,k,i1,f,J⟩:=key;rw[J,bsome];dsimp only;rw[cut_of rfl rfl (by omega:j<=i) f,bsome];exact⟨i,k,_,_,G,by omega,f,by simp;omega,fun _=>by omega⟩
theorem adv_tot {p:PT}(h:PWF p):∃q,Y0X p=some q/\Stp p q/\pBad q=pBad p/\pw q<=p.1.length-p.2.1.toNat:=by
 obtain⟨s,a,kd,ta,tk,bad,ru,de,te⟩:=p;obtain⟨f,u,z,E⟩:=h;dsimp only at f u z E;obtain⟨a,rfl⟩:=l0m u;obtain⟨j,kd',ta',tk',e,M,N,J,K⟩:=adv_raw s f a Om kd ta tk bad ru de te;have hw:pw (s,(j:Int),kd',ta',tk',bad,ru,de,te)<=s.length-a:=by
  unfold pw;dsimp only;rw[l0b];split
  . rename_i hk;have:=K hk;omega
  omega
 refine⟨_,e,⟨G,⟨f,by dsimp only;omega,by dsimp only;omega,J⟩,?_,fun h=>h,G,G,G⟩,G,by dsimp only;rw [l0b];exact hw⟩;refine l0A hw ?_;unfold pw;dsimp only;rw[l0b];exact l1k _ _
theorem is_tot {p:PT}(h:PWF p)(k:Int)(hk:1<=k/\k<=4)(t:Ls):∃b q,Y09 p k t=some (b,q)/\Stp p q/\(b=true->pBad p=false/\pBad q=false/\pw q<pw p)/\(b=false->q=p):=by
 unfold Y09;dsimp only[peta];by_cases hb:p.2.2.2.2.2.1=true
 . rw[if_pos hb,bsome,if_pos rfl];exact⟨false,p,G,Stp.refl h,fun h=>(by cases h),fun _=>G⟩
 rw[if_neg hb];by_cases hk':p.2.2.1=k
 . rw[if_pos hk',bsome];by_cases ht:p.2.2.2.2.1=t
   . rw[if_neg (by simp [ht])];obtain⟨q,e,st,hbad,hw⟩:=adv_tot h;rw[e,bsome];have hb':pBad p=false:=by simpa using hb
     refine⟨true,q,G,st,fun _=>⟨hb',by rw[hbad];exact hb',?_⟩,fun h=>by cases h⟩;have:pw p=(p.1.length-p.2.1.toNat)+1:=by unfold pw;rw [if_pos (by rw[show pKd p=k from hk'];exact hk)]
     omega
   rw[if_pos (by simp [ht])];exact⟨false,p,G,Stp.refl h,fun h=>(by cases h),fun _=>G⟩
 rw[if_neg hk',bsome,if_pos rfl];exact⟨false,p,G,Stp.refl h,fun h=>(by cases h),fun _=>G⟩
abbrev mkBad (p:PT):PT:=(p.1,p.2.1,p.2.2.1,p.2.2.2.1,p.2.2.2.2.1,true,p.2.2.2.2.2.2.1,p.2.2.2.2.2.2.2.1,p.2.2.2.2.2.2.2.2)
theorem Stp.bad {p:PT}(h:PWF p):Stp p (mkBad p):=⟨rfl,h,l07 _,fun _=>rfl,rfl,rfl,rfl⟩
theorem need_tot {p:PT}(h:PWF p)(t:Ls):∃q,Y0D p t=some q/\Stp p q/\(pBad q=false->pBad p=false/\pw q<pw p):=by
 unfold Y0D;dsimp only[peta];obtain⟨b,q,e,st,f,u⟩:=is_tot h 4 ⟨by decide,by decide⟩ t;rw[e,bsome];dsimp only;cases b with
 | true=>rw[if_pos rfl];exact ⟨q,rfl,st,fun _=>⟨(f rfl).1,(f rfl).2.2⟩⟩
 | false =>
   rw[if_neg Dc];obtain rfl:=u rfl;exact⟨mkBad q,G,Stp.bad h,fun h=>by cases h⟩
theorem take_tot {p:PT}(h:PWF p)(k:Int)(hk:1<=k/\k<=4):∃s q,Y0E p k=some (s,q)/\Stp p q/\(pBad q=false->pBad p=false/\pw q<pw p):=by
 unfold Y0E;dsimp only[peta];by_cases hb:p.2.2.2.2.2.1=true
 . rw[if_pos hb,bsome,if_pos rfl];exact⟨[],mkBad p,G,Stp.bad h,fun h=>by cases h⟩
 rw[if_neg hb,bsome];by_cases hk':p.2.2.1=k
 . rw[if_neg (by simp [hk'])];obtain⟨q,e,st,hbad,hw⟩:=adv_tot h;rw[e,bsome];have hb':pBad p=false:=by simpa using hb
   refine⟨_,q,G,st,fun _=>⟨hb',?_⟩⟩;have:pw p=(p.1.length-p.2.1.toNat)+1:=by unfold pw;rw [if_pos (by rw[show pKd p=k from hk'];exact hk)]
   omega
 rw[if_pos (by simp [hk'])];exact⟨[],mkBad p,G,Stp.bad h,fun h=>by cases h⟩
theorem atoiAll_rng {s:Ls}{v:Int}(h:Lib.atoiAll s = .ok v): -9223372036854775808<=v/\v<=9223372036854775807:=by
 unfold Lib.atoiAll at h;split at h
 . cases h
 dsimp only at h;split at h
 . cases h
 . cases h
 split at h
 . cases h
 split at h
 . cases h
 rename_i f u;cases h;split <;> omega
theorem atoi_rng {s:Ls}(h:(atoiP s).2=true): -9223372036854775808<=(atoiP s).1/\(atoiP s).1<=9223372036854775807:=by
 unfold atoiP at h ⊢;split at h
 . rename_i v hv;exact atoiAll_rng hv
 . cases h
 cases h
theorem bnum_tot (s:Ls)(hs:s.length<=4000)(n:Int):∃a b,Y3p s n=some (a,b):=by
 unfold Y3p;rw[show strconv_Atoi s=some (atoiP s) by unfold strconv_Atoi;rw [if_pos Om],bsome];have hr:=atoi_rng (s:=s);generalize atoiP s=r at hr ⊢;obtain⟨a,b⟩:=r;dsimp only at hr ⊢;cases b with
 | false=>rw[if_neg Dc,bsome,if_pos rfl];exact ⟨_,_,rfl⟩
 | true =>
   obtain⟨f,u⟩:=hr rfl;rw[if_pos rfl,show strconv_Itoa a=some (itoaP a) by unfold strconv_Itoa;rw [if_pos ⟨f,u⟩],bsome];have :∃c,(if itoaP a=s then(if a<0 then some true else some (decide (n<a))) else some true)=some c:=by(repeat' split) <;> exact⟨_,rfl⟩
   obtain⟨c,hc⟩:=this;rw[hc,bsome];split
   . exact⟨_,_,G⟩
   exact⟨_,_,G⟩
theorem number_tot {p:PT}(h:PWF p):∃n q,Y1p p=some (n,q)/\Stp p q/\(pBad q=false->pBad p=false/\pw q<pw p):=by
 unfold Y1p;dsimp only[peta];obtain⟨a,b,e⟩:=bnum_tot (pTk p) h.2.2.2 9999999;rw[show Y3p p.2.2.2.2.1 9999999=some (a,b) from e,bsome];dsimp only;have :∃c,(if p.2.2.1=3 then some (!b) else some true)=some c:=by split <;> exact⟨_,rfl⟩
 obtain⟨c,hc⟩:=this;rw[hc,bsome];cases c with
 | true=>rw[if_pos rfl];exact ⟨0,mkBad p,rfl,Stp.bad h,fun h=>by cases h⟩
 | false =>
   rw[if_neg Dc];obtain⟨s,q,e,st,hq⟩:=take_tot h 3 ⟨by decide,by decide⟩;rw[e,bsome];exact⟨a,q,G,st,hq⟩
end Go.Ph.Pf
end
section
namespace Go.Ph.Pf
open Go.Ph.Pl
theorem is_bind {β:Type}{p:PT}(h:PWF p)(k:Int)(hk:1<=k/\k<=4)(t:Ls){F:Bool × PT->Option β}{P:Option β->Prop}
 (yes :∀q,Stp p q->pBad p=false->pBad q=false->pw q<pw p->P (F (true,q))) (no:P (F (false,p))):P ((Y09 p k t).bind F):=by
 obtain⟨b,q,e,st,f,u⟩:=is_tot h k hk t;rw[e,bsome];cases b with
 | true=>exact yes q st (f rfl).1 (f rfl).2.1 (f rfl).2.2
 | false=>rw[u rfl];exact no
def MtOk (p:PT)(f:Int)(u:Ls)(E:Int)(J:Ls)(z:Int)(o:Option (Z0f ⊕ (PT × Z0g))):Prop :=
 o=some (.inl (p.1,p.2.1,p.2.2.1,p.2.2.2.1,p.2.2.2.2.1,p.2.2.2.2.2.1,p.2.2.2.2.2.2.1,p.2.2.2.2.2.2.2.1,p.2.2.2.2.2.2.2.2,f,u,E,J,z))∨
 ∃(q:PT) (a:Int) (b:Ls),o=some (.inr (q,(f,(),u,a,b,z)))/\Stp p q/\(pBad q=false->pBad p=false/\pw q<pw p)
theorem match_L1 (ws:List Ls)(hws:ws.length=3)(f:Int)(u:Ls)(z:Int)(E:Ls)(J:Int):
 ∀(k i m:Nat) (p:PT),3-i<=k->k<m->PWF p->
  MtOk p f u z E J (Y0w ws m p.1 p.2.1 p.2.2.1 p.2.2.2.1 p.2.2.2.2.1 p.2.2.2.2.2.1 p.2.2.2.2.2.2.1 p.2.2.2.2.2.2.2.1 p.2.2.2.2.2.2.2.2 f u z E J (i:Int)):=by
 intro k;induction k with
 | zero =>
   intro i m p K M hp;obtain⟨m,rfl⟩ :∃k,m=k+1:=⟨m-1,by omega⟩
   rw[Y0w,if_neg Om];exact .inl G
 | succ k ih =>
   intro i m p K M hp;obtain⟨m,rfl⟩ :∃k,m=k+1:=⟨m-1,by omega⟩
   by_cases hi:i<3
   . rw[Y0w,if_pos Om];have hidx:idxA 3 ws (i:Int)=some (ws[i]'Om):=by unfold idxA;rw [if_pos hws,idx_nat,List.getElem?_eq_getElem Om]
     rw[hidx,bsome];refine is_bind (P:=MtOk p f u z E J) hp 2 ⟨by decide,by decide⟩ _ (fun q st hb hbq hl=>?_) ?_
     . dsimp only[peta];rw[if_pos rfl,chk_succ Om,bsome];obtain⟨s,q',e,st',hq'⟩:=take_tot st.2.1 1 ⟨by decide,by decide⟩;rw[e,bsome];exact .inr ⟨q',_,_,G,st.trans st',fun h=>⟨hb,Nat.lt_trans (hq' h).2 hl⟩⟩
     dsimp only;rw[if_neg Dc,chk_succ Om,bsome];exact ih (i+1) m p Om Om hp
   rw[Y0w,if_neg Om];exact .inl G
theorem match_tot {p:PT}(h:PWF p)(k:Int)(s:Ls):∃q a b,Y1v p (k,[],s,0,[],0)=some (q,(k,(),s,a,b,0))/\Stp p q/\(pBad q=false->pBad p=false/\pw q<pw p):=by
 unfold Y1v;rw[show Y4m=some [[105,115],[99,111,110,116,97,105,110,115],[108,105,107,101]] from rfl,bsome];dsimp only;have hm:MtOk p k s 0 [] 0 (Y0w [[105,115],[99,111,110,116,97,105,110,115],[108,105,107,101]] FU p.1 p.2.1 p.2.2.1 p.2.2.2.1 p.2.2.2.2.1 p.2.2.2.2.2.1 p.2.2.2.2.2.2.1 p.2.2.2.2.2.2.2.1 p.2.2.2.2.2.2.2.2 k s 0 [] 0 0):=match_L1 _ rfl k s 0 [] 0 3 0 FU p Dc (FU_gt Dc) h;rcases hm with e|⟨q,a,b,e,st,hq⟩
 . rw[e,bsome];exact⟨mkBad p,0,[],G,Stp.bad h,fun h=>by cases h⟩
 rw[e,bsome];exact⟨q,a,b,G,st,hq⟩
def TOk (p:PT)(o:Option (TT × PT)):Prop :=∃t q,o=some (t,q)/\Stp p q/\(pBad q=false->pBad p=false/\∀n,CT n t+pw q<=pw p)
def TIn (p:PT)(o:Option (TT × PT)):Prop :=∃t q,o=some (t,q)/\q.1=p.1/\PWF q/\pw q<=pw p/\(pBad p=true->pBad q=true)/\pRu q=pRu p/\pDe q=pDe p/\pTe q=pTe p-1/\(pBad q=false->pBad p=false/\∀n,CT n t+pw q<=pw p)
theorem te_fin {p q:PT}(st:Stp p q)(hte:1<=pTe p/\pTe p<=9)(t:TT)(hc:pBad q=false->pBad p=false/\∀n,CT n t+pw q<=pw p):
 TIn p ((chk (q.2.2.2.2.2.2.2.2-1)).bind fun n=>some (t,(q.1,q.2.1,q.2.2.1,q.2.2.2.1,q.2.2.2.2.1,q.2.2.2.2.2.1,q.2.2.2.2.2.2.1,q.2.2.2.2.2.2.2.1,n))):=by
 have e:q.2.2.2.2.2.2.2.2=pTe p:=st.2.2.2.2.2.2;rw[e,chk_ok Om Om,bsome];exact⟨t,_,G,st.1,st.2.1,st.2.2.1,st.2.2.2.1,st.2.2.2.2.1,st.2.2.2.2.2.1,G,hc⟩
theorem ct_leaf {t:TT}(h:t.2.1=[])(n:Nat):CT n t<=1:=by
 cases n with
 | zero=>exact l0r _
 | succ n=>unfold CT;rw [h];exact l07 _
theorem sumT_snoc (n:Nat)(l:List BT88)(x:BT88):sumT n (l++[x])=sumT n l+CT n x.out:=by
 unfold sumT;rw [l0B,List.sum_append];simp
abbrev TsF : Type:=PT->Option (TT × PT)
def LlOk (p:PT)(l:List BT88)(o:Option Z0p):Prop :=
 ∃(l':List BT88) (q:PT),o=some (q.1,q.2.1,q.2.2.1,q.2.2.2.1,q.2.2.2.2.1,q.2.2.2.2.2.1,q.2.2.2.2.2.2.1,q.2.2.2.2.2.2.2.1,q.2.2.2.2.2.2.2.2,l')/\Stp p q/\(pBad q=false->pBad p=false/\∀n,sumT n l'+pw q<=sumT n l+pw p)
theorem list_L1_tot (self:TsF)(M:Nat)(hs :∀p,PWF p->0<=pTe p/\pTe p<=8->pw p<M->TOk p (self p)):
 ∀(k m:Nat) (p:PT) (l:List BT88),PWF p->0<=pTe p/\pTe p<=8->pw p<M->pw p<=k->k<m->l.length+pw p<=5000->
  LlOk p l (Y0Y self m p.1 p.2.1 p.2.2.1 p.2.2.2.1 p.2.2.2.2.1 p.2.2.2.2.2.1 p.2.2.2.2.2.2.1 p.2.2.2.2.2.2.2.1 p.2.2.2.2.2.2.2.2 l):=by
 intro k;induction k with
 | zero =>
   intro m p l hp hte hM hk hm hl;obtain⟨m,rfl⟩ :∃k,m=k+1:=⟨m-1,by omega⟩
   rw[Y0Y];refine is_bind (P:=LlOk p l) hp 4 ⟨by decide,by decide⟩ _ (fun q st hb hbq hlt=>by omega) ?_;dsimp only;rw[if_neg Dc];exact⟨l,p,G,Stp.refl hp,fun h=>⟨h,fun n=>l07 _⟩⟩
 | succ k ih =>
   intro m p l hp hte hM hk hm hl;obtain⟨m,rfl⟩ :∃k,m=k+1:=⟨m-1,by omega⟩
   rw[Y0Y];refine is_bind (P:=LlOk p l) hp 4 ⟨by decide,by decide⟩ _ (fun q st hb hbq hlt=>?_) ?_
   . dsimp only[peta];rw[if_pos rfl];obtain⟨t,V,e,f,hc⟩:=hs q st.2.1 (by rw[st.2.2.2.2.2.2];exact hte) Om;rw[e,bsome];obtain⟨u,z,E,J,K,N⟩:=t;dsimp only;have a3:=f.2.2.1;rw[app_ok (by simp only[l03,l09];omega),bsome];obtain⟨l',Y,Z,O,U⟩:=ih m V (l++[BT88.of (u,z,E,J,K,N)]) f.2.1 (by rw[f.2.2.2.2.2.2,st.2.2.2.2.2.2];exact hte) Om Om Om (by simp only[l06,l03,l09];omega);refine⟨l',Y,Z,(st.trans f).trans O,fun h=>⟨hb,fun n=>?_⟩⟩;obtain⟨h3,h4⟩:=U h;have h5:=h4 n;have h6:=(hc h3).2 n;rw[sumT_snoc,show (BT88.of (u,z,E,J,K,N)).out=(u,z,E,J,K,N) from rfl] at h5;omega
   dsimp only;rw[if_neg Dc];exact⟨l,p,G,Stp.refl hp,fun h=>⟨h,fun n=>l07 _⟩⟩
theorem list_tot (self:TsF)(M:Nat)(hs :∀p,PWF p->0<=pTe p/\pTe p<=8->pw p<M->TOk p (self p))(p:PT)(hp:PWF p)(hte:0<=pTe p/\pTe p<=8)(hM:pw p<M):
 ∃l q,Y2e self p=some (l,q)/\Stp p q/\(pBad q=false->pBad p=false/\∀n,sumT n l+pw q<=pw p):=by
 unfold Y2e;dsimp only[peta];obtain⟨Y,Z,f,h1⟩:=need_tot hp [40];rw[Z,bsome];obtain⟨t,q2,e2,u,h2⟩:=hs Y f.2.1 (by rw[f.2.2.2.2.2.2];exact hte) (l1N f.2.2.1 hM);rw[e2,bsome];obtain⟨E,J,K,N,O,U⟩:=t;dsimp only;have a4:=f.2.2.1;have a5:=u.2.2.1;have hmx:=pw_max hp;obtain⟨l,q3,e3,z,h3⟩:=list_L1_tot self M hs 5000 FU q2 [BT88.of (E,J,K,N,O,U)] u.2.1 (by rw[u.2.2.2.2.2.2,f.2.2.2.2.2.2];exact hte) Om Om (FU_gt Dc) (by simp only[l03,l09];omega);rw[e3,bsome];dsimp only[peta];obtain⟨q4,e4,V,h4⟩:=need_tot z.2.1 [41];rw[e4,bsome];refine⟨l,q4,G,((f.trans u).trans z).trans V,fun h=>?_⟩;obtain⟨g4,g5⟩:=h4 h;obtain⟨g3,g6⟩:=h3 g4;obtain⟨g2,g7⟩:=h2 g3;obtain⟨g1,g8⟩:=h1 g2;refine⟨g1,fun n=>?_⟩;have a:=g6 n;have b:=g7 n;have c:sumT n [BT88.of (E,J,K,N,O,U)]=CT n (E,J,K,N,O,U):=by rw[sumT_cons];rfl
 omega
theorem test_B_tot (self:TsF)(M:Nat)(hs :∀p,PWF p->0<=pTe p/\pTe p<=8->pw p<M->TOk p (self p))(p:PT)(hp:PWF p)(hte:0<=pTe p/\pTe p<=8)(hM:pw p<=M):TOk p (Y2i self p):=by
 obtain⟨s,a,kd,ta,tk,bad,ru,de,te⟩:=p;unfold Y2i;replace hte:0<=te/\te<=8:=hte;dsimp only;rw[chk_ok Om Om,bsome];have key :∃b',(if (8:Int)<te+1 then some (s,a,kd,ta,tk,true,ru,de,te+1) else some (s,a,kd,ta,tk,bad,ru,de,te+1):Option PT)=some (s,a,kd,ta,tk,b',ru,de,te+1)/\(b'=false->bad=false/\te+1<=8)/\(bad=true->b'=true):=by
  by_cases Y:(8:Int)<te+1
  . rw[if_pos Y];exact ⟨true,rfl,fun h=>(by cases h),fun _=>rfl⟩
  rw[if_neg Y];exact ⟨bad,rfl,fun h=>⟨h,by omega⟩,fun h=>h⟩
 obtain⟨b',e,a8,a9⟩:=key;rw[e,bsome];dsimp only
 suffices hin:TIn (s,a,kd,ta,tk,b',ru,de,te+1) _ by
  obtain⟨t,q,e,h1,E,U,h4,h5,h6,h7,Y⟩:=hin;exact⟨t,q,e,⟨h1,E,U,fun h=>h4 (a9 h),h5,h6,h7.trans (by show te+1-1=te;omega)⟩,fun h=>⟨(a8 (Y h).1).1,(Y h).2⟩⟩
 have hq:PWF (s,a,kd,ta,tk,b',ru,de,te+1):=hp;have hqM:pw (s,a,kd,ta,tk,b',ru,de,te+1)<=M:=hM;have u:1<=pTe (s,a,kd,ta,tk,b',ru,de,te+1)/\pTe (s,a,kd,ta,tk,b',ru,de,te+1)<=9:=⟨by show 1<=te+1;omega,by show te+1<=9;omega⟩
 have V:pBad (s,a,kd,ta,tk,b',ru,de,te+1)=false->pTe (s,a,kd,ta,tk,b',ru,de,te+1)<=8:=fun h=>(a8 h).2
 generalize (s,a,kd,ta,tk,b',ru,de,te+1)=J at hq hqM u V ⊢
 -- true
 refine is_bind (P:=TIn J) hq 2 ⟨by decide,by decide⟩ _ (fun q st hb hbq hlt=>?_) ?_
 . dsimp only;rw[if_pos rfl];exact te_fin st u (1,[],[],0,[],0) (fun _=>⟨hb,fun n=>by have:=ct_leaf (t:=(1,[],[],0,[],0)) G n;omega⟩)
 dsimp only[peta];rw[if_neg Dc]
 -- not
 refine is_bind (P:=TIn J) hq 2 ⟨by decide,by decide⟩ _ (fun q st hb hbq hlt=>?_) ?_
 . dsimp only[peta];rw[if_pos rfl];have Z:=V hb;obtain⟨t,q2,z,f,E⟩:=hs q st.2.1 (by rw[st.2.2.2.2.2.2];omega) Om;rw[z,bsome];obtain⟨t1,t2,t3,t4,t5,t6⟩:=t;refine te_fin (st.trans f) u (2,[BT88.of (t1,t2,t3,t4,t5,t6)],[],0,[],0) (fun h=>⟨hb,fun n=>?_⟩);cases n with
   | zero=>have:=f.2.2.1;unfold CT;omega
   | succ n =>
     have:=(E h).2 n;have e:CT (n+1) (2,[BT88.of (t1,t2,t3,t4,t5,t6)],[],0,[],0)=1+CT n (t1,t2,t3,t4,t5,t6):=by
      show 1+([BT88.of (t1,t2,t3,t4,t5,t6)].map (fun x=>CT n x.out)).sum=_
      simp
     omega
 dsimp only[peta];rw[if_neg Dc]
 -- all
 refine is_bind (P:=TIn J) hq 2 ⟨by decide,by decide⟩ _ (fun q st hb hbq hlt=>?_) ?_
 . dsimp only[peta];rw[if_pos rfl];have Z:=V hb;obtain⟨l,q2,z,f,E⟩:=list_tot self M hs q st.2.1 (by rw[st.2.2.2.2.2.2];omega) Om;rw[z,bsome];refine te_fin (st.trans f) u (3,l,[],0,[],0) (fun h=>⟨hb,fun n=>?_⟩);cases n with
   | zero=>have:=f.2.2.1;unfold CT;omega
   | succ n =>
     have:=(E h).2 n;have e:CT (n+1) (3,l,[],0,[],0)=1+sumT n l:=rfl;omega
 dsimp only[peta];rw[if_neg Dc]
 -- any
 refine is_bind (P:=TIn J) hq 2 ⟨by decide,by decide⟩ _ (fun q st hb hbq hlt=>?_) ?_
 . dsimp only[peta];rw[if_pos rfl];have Z:=V hb;obtain⟨l,q2,z,f,E⟩:=list_tot self M hs q st.2.1 (by rw[st.2.2.2.2.2.2];omega) Om;rw[z,bsome];refine te_fin (st.trans f) u (4,l,[],0,[],0) (fun h=>⟨hb,fun n=>?_⟩);cases n with
   | zero=>have:=f.2.2.1;unfold CT;omega
   | succ n =>
     have:=(E h).2 n;have e:CT (n+1) (4,l,[],0,[],0)=1+sumT n l:=rfl;omega
 dsimp only[peta];rw[if_neg Dc]
 -- header
 refine is_bind (P:=TIn J) hq 2 ⟨by decide,by decide⟩ _ (fun q st hb hbq hlt=>?_) ?_
 . dsimp only[peta];rw[if_pos rfl];obtain⟨x,q2,z,f,E⟩:=take_tot st.2.1 1 ⟨by decide,by decide⟩;rw[z,bsome];dsimp only;obtain⟨q3,K,N,e3,O,U⟩:=match_tot f.2.1 5 x;rw[e3,bsome];refine te_fin ((st.trans f).trans O) u (5,[],x,K,N,0) (fun h=>⟨hb,fun n=>?_⟩);have:=ct_leaf (t:=(5,[],x,K,N,0)) rfl n;have a:=(U h).2;have b:=f.2.2.1;omega
 dsimp only[peta];rw[if_neg Dc]
 -- from
 refine is_bind (P:=TIn J) hq 2 ⟨by decide,by decide⟩ _ (fun q st hb hbq hlt=>?_) ?_
 . dsimp only[peta];rw[if_pos rfl];obtain⟨q3,K,N,e3,O,U⟩:=match_tot st.2.1 6 [];rw[e3,bsome];refine te_fin (st.trans O) u (6,[],[],K,N,0) (fun h=>⟨hb,fun n=>?_⟩);have:=ct_leaf (t:=(6,[],[],K,N,0)) rfl n;have a:=(U h).2;omega
 dsimp only[peta];rw[if_neg Dc]
 -- to
 refine is_bind (P:=TIn J) hq 2 ⟨by decide,by decide⟩ _ (fun q st hb hbq hlt=>?_) ?_
 . dsimp only[peta];rw[if_pos rfl];obtain⟨q3,K,N,e3,O,U⟩:=match_tot st.2.1 7 [];rw[e3,bsome];refine te_fin (st.trans O) u (7,[],[],K,N,0) (fun h=>⟨hb,fun n=>?_⟩);have:=ct_leaf (t:=(7,[],[],K,N,0)) rfl n;have a:=(U h).2;omega
 dsimp only[peta];rw[if_neg Dc]
 -- size
 refine is_bind (P:=TIn J) hq 2 ⟨by decide,by decide⟩ _ (fun q st hb hbq hlt=>?_) ?_
 . dsimp only[peta];rw[if_pos rfl];obtain⟨x,q2,z,f,E⟩:=number_tot st.2.1;rw[z,bsome];refine te_fin (st.trans f) u (8,[],[],0,[],x) (fun h=>⟨hb,fun n=>?_⟩);have:=ct_leaf (t:=(8,[],[],0,[],x)) rfl n;have b:=f.2.2.1;omega
 dsimp only[peta];rw[if_neg Dc]
 -- exists
 refine is_bind (P:=TIn J) hq 2 ⟨by decide,by decide⟩ _ (fun q st hb hbq hlt=>?_) ?_
 . dsimp only[peta];rw[if_pos rfl];obtain⟨x,q2,z,f,E⟩:=take_tot st.2.1 1 ⟨by decide,by decide⟩;rw[z,bsome];refine te_fin (st.trans f) u (9,[],x,0,[],0) (fun h=>⟨hb,fun n=>?_⟩);have:=ct_leaf (t:=(9,[],x,0,[],0)) rfl n;have b:=f.2.2.1;omega
 dsimp only[peta];rw[if_neg Dc];exact te_fin (q:=mkBad J) (Stp.bad hq) u (0,[],[],0,[],0) (fun h=>by cases h)
theorem ptest_R :∀(m:Nat) (p:PT),PWF p->0<=pTe p/\pTe p<=8->pw p<m->TOk p (Y13 m p)
 | 0,p,_,_,h=>by omega
 | m+1,p,hp,hte,hm=>by
   rw[Y13];exact test_B_tot (Y13 m) m (fun q hq hqt hqm=>ptest_R m q hq hqt hqm) p hp hte Om
theorem ptest_tot (p:PT)(hp:PWF p)(hte:0<=pTe p/\pTe p<=8):TOk p (Y3P p):=ptest_R FU p hp hte (FU_gt (by have:=pw_max hp;omega))
end Go.Ph.Pf
end
section
namespace Go.Ph.Pf
open Go.Ph.Pl
abbrev AcT : Type:=Z0c ⊕ (RT × PT)
def AcOk (p:PT)(o:Option AcT):Prop :=
 o=some (.inl (p.1,p.2.1,p.2.2.1,p.2.2.2.1,p.2.2.2.2.1,p.2.2.2.2.2.1,p.2.2.2.2.2.2.1,p.2.2.2.2.2.2.2.1,p.2.2.2.2.2.2.2.2,0,0,[],[],0,[],0,[],[],0,[],[],0,2,0,[],[],0,[],0,[],[],0,[],[],0))∨
 ∃(q:PT) (a:Int) (b:Ls) (c:Int),o=some (.inr ((2,0,[],[],0,[],0,[],[],a,[],b,c),q))/\Stp p q/\(pBad q=false->pBad p=false/\pw q<pw p)
theorem action_L1 (ws:List Ls)(hws:ws.length=7):
 ∀(k i m:Nat) (p:PT),7-i<=k->k<m->PWF p->
  AcOk p (Y0p ws m p.1 p.2.1 p.2.2.1 p.2.2.2.1 p.2.2.2.2.1 p.2.2.2.2.2.1 p.2.2.2.2.2.2.1 p.2.2.2.2.2.2.2.1 p.2.2.2.2.2.2.2.2 0 0 [] [] 0 [] 0 [] [] 0 [] [] 0 2 0 [] [] 0 [] 0 [] [] 0 [] [] 0 (i:Int)):=by
 intro k;induction k with
 | zero =>
   intro i m p K f hp;obtain⟨m,rfl⟩ :∃k,m=k+1:=⟨m-1,by omega⟩
   rw[Y0p,if_neg Om];exact .inl G
 | succ k ih =>
   intro i m p K f hp;obtain⟨m,rfl⟩ :∃k,m=k+1:=⟨m-1,by omega⟩
   by_cases hi:i<7
   . rw [Y0p,if_pos Om];have hidx:idxA 7 ws (i:Int)=some (ws[i]'Om):=by unfold idxA;rw [if_pos hws,idx_nat,List.getElem?_eq_getElem Om]
     rw[hidx,bsome];refine is_bind (P:=AcOk p) hp 2 ⟨by decide,by decide⟩ _ (fun q st hb hbq hl=>?_) ?_
     . dsimp only;rw[if_pos rfl,chk_succ Om,bsome];generalize ((i+1:Nat):Int)=n;generalize hX:(if n=(6:Int) then _ else _)=X;have key :∃(q':PT) (tx:Ls) (nm:Int),X=some (q'.1,q'.2.1,q'.2.2.1,q'.2.2.2.1,q'.2.2.2.2.1,q'.2.2.2.2.2.1,q'.2.2.2.2.2.2.1,q'.2.2.2.2.2.2.2.1,q'.2.2.2.2.2.2.2.2,2,0,[],[],0,[],0,[],[],n,[],tx,nm)/\Stp q q':=by
        rw[←hX];by_cases u:n=6
        . rw[if_pos u];obtain⟨v,q',e,st',_⟩:=number_tot st.2.1;have e':Y1p (q.1,q.2.1,q.2.2.1,q.2.2.2.1,q.2.2.2.2.1,q.2.2.2.2.2.1,q.2.2.2.2.2.2.1,q.2.2.2.2.2.2.2.1,q.2.2.2.2.2.2.2.2)=some (v,q'):=e;rw[e',bsome];exact⟨q',[],v,G,st'⟩
        rw[if_neg u];obtain⟨b,hb⟩:=texted_tot n;rw[hb,bsome];cases b with
        | true =>
          rw[if_pos rfl];obtain⟨v,q',e,st',_⟩:=take_tot st.2.1 1 ⟨by decide,by decide⟩;have e':Y0E (q.1,q.2.1,q.2.2.1,q.2.2.2.1,q.2.2.2.2.1,q.2.2.2.2.2.1,q.2.2.2.2.2.2.1,q.2.2.2.2.2.2.2.1,q.2.2.2.2.2.2.2.2) 1=some (v,q'):=e;rw[e',bsome];exact⟨q',v,0,G,st'⟩
        | false =>
          rw[if_neg Dc];exact⟨q,[],0,G,Stp.refl st.2.1⟩
       obtain⟨q',tx,nm,hX',st'⟩:=key;rw[hX',bsome];dsimp only;obtain⟨z,M,E,f⟩:=need_tot st'.2.1 [59];have J:Y0D (q'.1,q'.2.1,q'.2.2.1,q'.2.2.2.1,q'.2.2.2.2.1,q'.2.2.2.2.2.1,q'.2.2.2.2.2.2.1,q'.2.2.2.2.2.2.2.1,q'.2.2.2.2.2.2.2.2) [59]=some z:=M;rw[J,bsome];refine .inr ⟨z,n,tx,nm,G,(st.trans st').trans E,fun h=>⟨hb,?_⟩⟩;have:=st'.2.2.1;have:=(f h).2;omega
     dsimp only;rw[if_neg Dc,chk_succ Om,bsome];exact ih (i+1) m p Om Om hp
   rw[Y0p,if_neg Om];exact .inl G
theorem action_tot {p:PT}(h:PWF p):∃a b c q,Y2j p=some ((2,0,[],[],0,[],0,[],[],a,[],b,c),q)/\Stp p q/\(pBad q=false->pBad p=false/\pw q<pw p):=by
 unfold Y2j;rw[show Y4n=some [[107,101,101,112],[102,105,108,101],[100,105,115,99,97,114,100],[114,101,100,105,114,101,99,116],[114,101,106,101,99,116],[102,108,97,103],[114,101,112,108,121]] from rfl,bsome];have hm:AcOk p (Y0p [[107,101,101,112],[102,105,108,101],[100,105,115,99,97,114,100],[114,101,100,105,114,101,99,116],[114,101,106,101,99,116],[102,108,97,103],[114,101,112,108,121]] FU p.1 p.2.1 p.2.2.1 p.2.2.2.1 p.2.2.2.2.1 p.2.2.2.2.2.1 p.2.2.2.2.2.2.1 p.2.2.2.2.2.2.2.1 p.2.2.2.2.2.2.2.2 0 0 [] [] 0 [] 0 [] [] 0 [] [] 0 2 0 [] [] 0 [] 0 [] [] 0 [] [] 0 0):=action_L1 _ rfl 7 0 FU p Dc (FU_gt Dc) h;rcases hm with e|⟨q,a,b,c,e,st,hq⟩
 . rw[e,bsome];exact⟨0,[],0,mkBad p,G,Stp.bad h,fun h=>by cases h⟩
 rw[e,bsome];exact⟨a,b,c,q,G,st,hq⟩
def PRu (p:PT):Prop:=0<=pRu p/\pRu p<=101/\(pBad p=false->pRu p<=100)
def Sr (p q:PT):Prop:=q.1=p.1/\PWF q/\pw q<=pw p/\(pBad p=true->pBad q=true)/\pDe q=pDe p/\pTe q=pTe p/\PRu q
theorem bad_back {a b:Bool}(h:a=true->b=true)(k:b=false):a=false:=by
 cases a with
 | false=>rfl
 | true=>rw[h rfl] at k;cases k
theorem Stp.sr {p q:PT}(h:Stp p q)(k:PRu p):Sr p q:=by
 obtain⟨u,z,E,f,J,K,M⟩:=h;refine⟨u,z,E,f,K,M,?_⟩;unfold PRu;rw[J];exact⟨k.1,k.2.1,fun hb=>k.2.2 (bad_back f hb)⟩
theorem Sr.trans {p q r:PT}(h:Sr p q)(k:Sr q r):Sr p r :=
 ⟨k.1.trans h.1,k.2.1,l0A k.2.2.1 h.2.2.1,fun b=>k.2.2.2.1 (h.2.2.2.1 b),k.2.2.2.2.1.trans h.2.2.2.2.1,k.2.2.2.2.2.1.trans h.2.2.2.2.2.1,k.2.2.2.2.2.2⟩
def BOk (p:PT)(o:Option (List BT90 × PT)):Prop :=∃l q,o=some (l,q)/\Sr p q/\(∀n,LB n l)/\(pBad q=false->pBad p=false/\∀n,CR n l+pw q<=pw p)
def cT (r:RT):Nat:=if r.1=1 then CT 9 (rT r) else 0
def ROk (p:PT)(o:Option (RT × PT)):Prop :=∃r q,o=some (r,q)/\Sr p q/\(∀n,LB n (rThen r)/\LB n (rElse r))/\(pBad q=false->pBad p=false/\pw q<pw p/\∀n,cT r+CR n (rThen r)+CR n (rElse r)+pw q<=pw p)
abbrev BkF : Type:=PT->Option (List BT90 × PT)
theorem LB.nil :∀n:Nat,LB n []
 | 0=>l0r _
 | n+1=>⟨l0r _,fun x hx=>by cases hx⟩
theorem CR.nil :∀n:Nat,CR n []=0
 | 0=>rfl
 | n+1=>rfl
def Pre (M d:Nat)(p:PT):Prop:=PWF p/\PRu p/\0<=pDe p/\pDe p<=(d:Int)/\pTe p=0/\pw p<M
theorem ru_in {p p':PT}(hb:pBad p=false)(h:PRu p)(f:p'.1=p.1)(u:PWF p')(z:pw p'=pw p)(N:pBad p'=false)(E:pRu p'=pRu p+1)(J:pDe p'=pDe p)(K:pTe p'=pTe p)(M:pRu p+1<=100):Sr p p' :=
 ⟨f,u,Nat.le_of_eq z,(fun hx=>by rw[hb] at hx;cases hx),J,K,by unfold PRu;rw [E];have:=h.1;exact ⟨by omega,by omega,fun _=>M⟩⟩
theorem rule_ptot (self:BkF)(M:Nat)(hs :∀p,Pre M 8 p->BOk p (self p))(p:PT)(hp:PWF p)(hr:PRu p)(hb:pBad p=false)(hd:0<=pDe p/\pDe p<=9)(ht:pTe p=0)(hM:pw p<=M):ROk p (Y2C self p):=by
 obtain⟨s,a,kd,ta,tk,bad,ru,de,te⟩:=p;unfold Y2C;have hru:0<=ru/\ru<=100:=⟨hr.1,hr.2.2 hb⟩
 replace hb:bad=false:=hb;subst hb;dsimp only;rw[chk_ok Om Om,bsome];have key :∃b,(if (100:Int)<ru+1 then some true else some (decide ((8:Int)<de)):Option Bool)=some b/\(b=false->ru+1<=100/\de<=8):=by
  by_cases h1:(100:Int)<ru+1
  . rw[if_pos h1];exact ⟨true,rfl,fun h=>by cases h⟩
  rw[if_neg h1];exact ⟨_,rfl,fun h=>⟨by omega,by have:=of_decide_eq_false h;omega⟩⟩
 obtain⟨b,e,hbf⟩:=key;rw[e,bsome];cases b with
 | true =>
   rw[if_pos rfl];refine⟨_,_,G,⟨G,hp,l07 _,fun _=>G,G,G,⟨?_,?_,fun h=>by cases h⟩⟩,fun n=>⟨LB.nil n,LB.nil n⟩,fun h=>by cases h⟩
   . show 0<=ru+1;omega
   show ru+1<=101;omega
 | false =>
   rw[if_neg Dc];obtain⟨aa,ab⟩:=hbf rfl;have hsr:Sr (s,a,kd,ta,tk,false,ru,de,te) (s,a,kd,ta,tk,false,ru+1,de,te):=ru_in rfl hr rfl hp rfl rfl rfl rfl rfl aa;have hbad:pBad (s,a,kd,ta,tk,false,ru,de,te)=false:=rfl;have hde:pDe (s,a,kd,ta,tk,false,ru,de,te)<=8:=ab
   suffices hin:ROk (s,a,kd,ta,tk,false,ru+1,de,te) _ by
    obtain⟨r,q,e,h1,U,J⟩:=hin;refine⟨r,q,e,hsr.trans h1,U,fun h=>⟨G,?_⟩⟩;exact(J h).2
   have hq:PWF (s,a,kd,ta,tk,false,ru+1,de,te):=hp;have hqr:PRu (s,a,kd,ta,tk,false,ru+1,de,te):=hsr.2.2.2.2.2.2;have hqd:0<=pDe (s,a,kd,ta,tk,false,ru+1,de,te)/\pDe (s,a,kd,ta,tk,false,ru+1,de,te)<=8:=⟨hd.1,hde⟩
   have hqt:pTe (s,a,kd,ta,tk,false,ru+1,de,te)=0:=ht;have hqM:pw (s,a,kd,ta,tk,false,ru+1,de,te)<=M:=hM;have hqb:pBad (s,a,kd,ta,tk,false,ru+1,de,te)=false:=rfl;clear hsr hbad hde;generalize (s,a,kd,ta,tk,false,ru+1,de,te)=E at hq hqr hqd hqt hqM hqb ⊢
   -- if
   refine is_bind (P:=ROk E) hq 2 ⟨by decide,by decide⟩ _ (fun q st hb hbq hlt=>?_) ?_
   . dsimp only[peta];rw[if_pos rfl];have hte:pTe q=0:=st.2.2.2.2.2.2.trans hqt;obtain⟨t,q2,e2,u,U⟩:=ptest_tot q st.2.1 (by rw[hte];decide);rw[e2,bsome];obtain⟨t1,t2,t3,t4,t5,t6⟩:=t;dsimp only;have N:=(st.trans u).sr hqr;obtain⟨l3,q3,e3,V,a1,J⟩:=hs q2 ⟨N.2.1,N.2.2.2.2.2.2,by rw[N.2.2.2.2.1];exact hqd.1,by rw[N.2.2.2.2.1];exact hqd.2,by rw[N.2.2.2.2.2.1];exact hqt,by have:=u.2.2.1;omega⟩;rw[e3,bsome];dsimp only[peta];have a4:=N.trans V;refine is_bind (P:=ROk E) V.2.1 2 ⟨by decide,by decide⟩ _ (fun z f a6 aq ar=>?_) ?_
     . dsimp only[peta];rw[if_pos rfl];have O:=a4.trans (f.sr V.2.2.2.2.2.2);have w2:=u.2.2.1;have w3:=V.2.2.1;obtain⟨l5,q5,e5,s5,ao,h5⟩:=hs z ⟨O.2.1,O.2.2.2.2.2.2,by rw[O.2.2.2.2.1];exact hqd.1,by rw[O.2.2.2.2.1];exact hqd.2,by rw[O.2.2.2.2.2.1];exact hqt,by omega⟩;rw[e5,bsome];refine⟨_,q5,G,O.trans s5,fun n=>⟨a1 n,ao n⟩,fun h=>⟨hb,?_,fun n=>?_⟩⟩
       . have:=s5.2.2.1;omega
       obtain⟨g5,ap⟩:=h5 h;have a5:=ap n;have a3:=(J a6).2 n;have a2:=(U (J a6).1).2 9;show(if (1:Int)=1 then CT 9 (t1,t2,t3,t4,t5,t6) else 0)+CR n l3+CR n l5+pw q5<=pw E
       rw[if_pos rfl];omega
     dsimp only;rw[if_neg Dc];refine⟨_,q3,G,a4,fun n=>⟨a1 n,LB.nil n⟩,fun h=>⟨hb,?_,fun n=>?_⟩⟩
     . have:=V.2.2.1;have:=u.2.2.1;omega
     have a3:=(J h).2 n;have a2:=(U (J h).1).2 9;show(if (1:Int)=1 then CT 9 (t1,t2,t3,t4,t5,t6) else 0)+CR n l3+CR n []+pw q3<=pw E
     rw[if_pos rfl,CR.nil];omega
   dsimp only[peta];rw[if_neg Dc]
   -- set
   refine is_bind (P:=ROk E) hq 2 ⟨by decide,by decide⟩ _ (fun q st hb hbq hlt=>?_) ?_
   . dsimp only[peta];rw[if_pos rfl];obtain⟨x2,q2,e2,u,U⟩:=take_tot st.2.1 2 ⟨by decide,by decide⟩;rw[e2,bsome];dsimp only[peta];obtain⟨x3,q3,e3,K,J⟩:=take_tot u.2.1 1 ⟨by decide,by decide⟩;rw[e3,bsome];dsimp only[peta];obtain⟨z,Y,f,Z⟩:=need_tot K.2.1 [59];rw[Y,bsome];refine⟨_,z,G,(((st.trans u).trans K).trans f).sr hqr,fun n=>⟨LB.nil n,LB.nil n⟩,fun h=>⟨hb,?_,fun n=>?_⟩⟩
     . have:=u.2.2.1;have:=K.2.2.1;have:=f.2.2.1;omega
     have:=u.2.2.1;have:=K.2.2.1;have:=f.2.2.1;show(if (3:Int)=1 then _ else 0)+CR n []+CR n []+pw z<=pw E
     rw[if_neg Dc,CR.nil];omega
   dsimp only[peta];rw[if_neg Dc]
   -- stop
   refine is_bind (P:=ROk E) hq 2 ⟨by decide,by decide⟩ _ (fun q st hb hbq hlt=>?_) ?_
   . dsimp only[peta];rw[if_pos rfl];obtain⟨z,Y,f,Z⟩:=need_tot st.2.1 [59];rw[Y,bsome];refine⟨_,z,G,(st.trans f).sr hqr,fun n=>⟨LB.nil n,LB.nil n⟩,fun h=>⟨hb,?_,fun n=>?_⟩⟩
     . have:=f.2.2.1;omega
     have:=f.2.2.1;show(if (4:Int)=1 then _ else 0)+CR n []+CR n []+pw z<=pw E
     rw[if_neg Dc,CR.nil];omega
   dsimp only[peta];rw[if_neg Dc];obtain⟨x1,x2,x3,z,Y,f,Z⟩:=action_tot hq;rw[Y,bsome];refine⟨_,z,G,f.sr hqr,fun n=>⟨LB.nil n,LB.nil n⟩,fun h=>⟨(Z h).1,(Z h).2,fun n=>?_⟩⟩;have:=(Z h).2;show(if (2:Int)=1 then _ else 0)+CR n []+CR n []+pw z<=pw E
   rw[if_neg Dc,CR.nil];omega
def ScOk (p:PT)(l:List BT90)(o:Option Z0q):Prop :=
 ∃(l':List BT90) (q:PT),o=some (l',q.1,q.2.1,q.2.2.1,q.2.2.2.1,q.2.2.2.2.1,q.2.2.2.2.2.1,q.2.2.2.2.2.2.1,q.2.2.2.2.2.2.2.1,q.2.2.2.2.2.2.2.2)/\Sr p q/\l'.length<=5001/\(∀x∈l',∀n,LB n (rThen x.out)/\LB n (rElse x.out))/\
  (pBad q=false->pBad p=false/\∀n,sumC n l'+pw q<=sumC n l+pw p)
theorem sumC_snoc (n:Nat)(l:List BT90)(x:BT90):sumC n (l++[x])=sumC n l+(cT x.out+CR n (rThen x.out)+CR n (rElse x.out)):=by
 unfold sumC cT;rw [l0B,List.sum_append];simp
theorem Sr.refl {p:PT}(h:PWF p)(k:PRu p):Sr p p:=⟨rfl,h,l07 _,fun h=>h,rfl,rfl,k⟩
theorem script_L1 (self:BkF)(M:Nat)(hs :∀p,Pre M 8 p->BOk p (self p)):
 ∀(k m:Nat) (p:PT) (l:List BT90),Pre (M+1) 9 p->pw p<=k->k+1<m->(pBad p=false->l.length+pw p<=5000)->l.length<=5001->(∀x∈l,∀n,LB n (rThen x.out)/\LB n (rElse x.out))->
  ScOk p l (Y0k self m p.1 p.2.1 p.2.2.1 p.2.2.2.1 p.2.2.2.2.1 p.2.2.2.2.2.1 p.2.2.2.2.2.2.1 p.2.2.2.2.2.2.2.1 p.2.2.2.2.2.2.2.2 l):=by
 have stop :∀(m:Nat) (p:PT) (l:List BT90),PWF p->PRu p->pBad p=true->l.length<=5001->(∀x∈l,∀n,LB n (rThen x.out)/\LB n (rElse x.out))->
  ScOk p l (Y0k self (m+1) p.1 p.2.1 p.2.2.1 p.2.2.2.1 p.2.2.2.2.1 p.2.2.2.2.2.1 p.2.2.2.2.2.2.1 p.2.2.2.2.2.2.2.1 p.2.2.2.2.2.2.2.2 l):=by
  intro m p l hp hr hb hl hx;rw[Y0k,if_pos hb,bsome,if_neg Dc];exact⟨l,p,G,Sr.refl hp hr,hl,hx,fun h=>by rw[hb] at h;cases h⟩
 have step :∀(m:Nat) (p:PT) (l:List BT90),Pre (M+1) 9 p->(pBad p=false->l.length+pw p<=5000)->l.length<=5001->(∀x∈l,∀n,LB n (rThen x.out)/\LB n (rElse x.out))->
  (∀(q:PT) (l':List BT90),Pre (M+1) 9 q->pw q<pw p->(pBad q=false->l'.length+pw q<=5000)->l'.length<=5001->(∀x∈l',∀n,LB n (rThen x.out)/\LB n (rElse x.out))->
   ScOk q l' (Y0k self (m+1) q.1 q.2.1 q.2.2.1 q.2.2.2.1 q.2.2.2.2.1 q.2.2.2.2.2.1 q.2.2.2.2.2.2.1 q.2.2.2.2.2.2.2.1 q.2.2.2.2.2.2.2.2 l'))->
  ScOk p l (Y0k self (m+1+1) p.1 p.2.1 p.2.2.1 p.2.2.2.1 p.2.2.2.2.1 p.2.2.2.2.2.1 p.2.2.2.2.2.2.1 p.2.2.2.2.2.2.2.1 p.2.2.2.2.2.2.2.2 l):=by
  intro m p l hpre hlb hl hx ih;obtain⟨hp,hr,a2,a3,ht,hM⟩:=hpre;by_cases hb:pBad p=true
  . exact stop (m+1) p l hp hr hb hl hx
  replace hb:pBad p=false:=by simpa using hb
  rw[Y0k,if_neg (by rw[show p.2.2.2.2.2.1=false from hb];decide)];have key :∃b,(if p.2.2.1=(0:Int) then some false else(if p.2.2.1=(4:Int) then some (!decide (p.2.2.2.2.1=[125])) else some true))=some b:=by(repeat' split) <;> exact⟨_,rfl⟩
  obtain⟨b,e⟩:=key;rw[e,bsome];cases b with
  | false =>
    rw[if_neg Dc];exact⟨l,p,G,Sr.refl hp hr,hl,hx,fun h=>⟨h,fun n=>l07 _⟩⟩
  | true =>
    rw[if_pos rfl];dsimp only[peta];obtain⟨r,q,e,f,aa,h1⟩:=rule_ptot self M hs p hp hr hb ⟨a2,a3⟩ ht Om;rw[e,bsome];obtain⟨K,N,O,U,V,Y,Z,r8,r9,u,z,E,J⟩:=r;dsimp only;have al:=hlb hb;rw[app_ok (by simp only[l03,l09];omega),bsome];have hlen:(l++[BT90.of (K,N,O,U,V,Y,Z,r8,r9,u,z,E,J)]).length=l.length+1:=by simp
    have hx' :∀x∈l++[BT90.of (K,N,O,U,V,Y,Z,r8,r9,u,z,E,J)],∀n,LB n (rThen x.out)/\LB n (rElse x.out):=fun x ab n=>by
     rcases List.mem_append.1 ab with h|h
     . exact hx x h n
     obtain rfl:=List.mem_singleton.1 h;exact aa n
    by_cases hbq:pBad q=true
    . obtain⟨l2,q2,e2,s2,g1,g2,g3⟩:=stop m q _ f.2.1 f.2.2.2.2.2.2 hbq (by rw[hlen];omega) hx';refine⟨l2,q2,e2,f.trans s2,g1,g2,fun h=>?_⟩;have:=(g3 h).1;rw[hbq] at this;cases this
    replace hbq:pBad q=false:=by simpa using hbq
    obtain⟨c1,c2,c3⟩:=h1 hbq;obtain⟨l2,q2,e2,s2,g1,g2,g3⟩:=ih q _ ⟨f.2.1,f.2.2.2.2.2.2,by rw[f.2.2.2.2.1];exact a2,by rw[f.2.2.2.2.1];exact a3,f.2.2.2.2.2.1.trans ht,by omega⟩ c2 (fun _=>by rw[hlen];omega) (by rw[hlen];omega) hx';refine⟨l2,q2,e2,f.trans s2,g1,g2,fun h=>⟨hb,fun n=>?_⟩⟩;have a:=(g3 h).2 n;have b:=c3 n;rw[sumC_snoc] at a;have c:cT (BT90.of (K,N,O,U,V,Y,Z,r8,r9,u,z,E,J)).out+CR n (rThen (BT90.of (K,N,O,U,V,Y,Z,r8,r9,u,z,E,J)).out)+CR n (rElse (BT90.of (K,N,O,U,V,Y,Z,r8,r9,u,z,E,J)).out)+pw q<=pw p:=b;omega
 intro k;induction k with
 | zero =>
   intro m p l hpre hk hm hlb hl hx;obtain⟨m,rfl⟩ :∃k,m=k+1+1:=⟨m-2,by omega⟩
   exact step m p l hpre hlb hl hx (fun q l' _ hq=>by omega)
 | succ k ih =>
   intro m p l hpre hk hm hlb hl hx;obtain⟨m,rfl⟩ :∃k,m=k+1+1:=⟨m-2,by omega⟩
   exact step m p l hpre hlb hl hx (fun q l' ac am h3 h4 h5=>ih (m+1) q l' ac Om Om h3 h4 h5)
theorem LB.mk {l:List BT90}(hl:l.length<=5001)(hx :∀x∈l,∀n,LB n (rThen x.out)/\LB n (rElse x.out)):∀n,LB n l
 | 0=>by show l.length<=1000000;omega
 | n+1=>⟨by omega,fun x h=>hx x h n⟩
theorem script_tot (self:BkF)(M:Nat)(hs :∀p,Pre M 8 p->BOk p (self p))(p:PT)(hp:Pre (M+1) 9 p):BOk p (Y1q self p):=by
 unfold Y1q;have hmx:=pw_max hp.1;obtain⟨l,q,e,s,u,z,f⟩:=script_L1 self M hs 4001 FU p [] hp hmx (FU_gt Dc) (fun _=>by simp only[l09];omega) Sm (fun x hx=>by cases hx);rw[e,bsome];refine⟨l,q,G,s,LB.mk u z,fun h=>⟨(f h).1,fun n=>?_⟩⟩;cases n with
 | zero=>have:=s.2.2.1;show 0+_<=_;omega
 | succ n =>
   have:=(f h).2 n;have E:sumC n []=0:=rfl;have J:CR (n+1) l=sumC n l:=rfl;omega
theorem block_B_tot (self:BkF)(M:Nat)(hs :∀p,Pre M 8 p->BOk p (self p))(p:PT)(hp:Pre (M+1) 8 p):BOk p (Y21 self p):=by
 obtain⟨hw,hr,a6,a7,ht,hM⟩:=hp;unfold Y21;dsimp only[peta];obtain⟨f,U,N,V⟩:=need_tot hw [123];rw[U,bsome];have z:=N.sr hr;have hde:f.2.2.2.2.2.2.2.1=pDe p:=z.2.2.2.2.1;rw[chk_ok (by rw[hde];omega) (by rw[hde];omega),bsome];obtain⟨l,q2,Y,K,lb,Z⟩:=script_tot self M hs (f.1,f.2.1,f.2.2.1,f.2.2.2.1,f.2.2.2.2.1,f.2.2.2.2.2.1,f.2.2.2.2.2.2.1,f.2.2.2.2.2.2.2.1+1,f.2.2.2.2.2.2.2.2) ⟨z.2.1,z.2.2.2.2.2.2,by show 0<=f.2.2.2.2.2.2.2.1+1;rw [hde];omega,by show f.2.2.2.2.2.2.2.1+1<=((9:Nat):Int);rw [hde];omega,z.2.2.2.2.2.1.trans ht,l1N z.2.2.1 hM⟩;rw[Y,bsome];dsimp only;obtain⟨u,e3,O,h3⟩:=need_tot K.2.1 [125];rw[e3,bsome];have E:=K.trans (O.sr K.2.2.2.2.2.2);have J:u.2.2.2.2.2.2.2.1=pDe p+1:=E.2.2.2.2.1.trans (by show f.2.2.2.2.2.2.2.1+1=_;rw [hde]);rw[chk_ok (by rw[J];omega) (by rw[J];omega),bsome];refine⟨l,_,G,⟨E.1.trans z.1,E.2.1,l0A E.2.2.1 z.2.2.1,fun h=>E.2.2.2.1 (z.2.2.2.1 h),?_,E.2.2.2.2.2.1.trans z.2.2.2.2.2.1,E.2.2.2.2.2.2⟩,lb,fun h=>?_⟩
 . show u.2.2.2.2.2.2.2.1-1=pDe p
   rw[J];omega
 obtain⟨g3,w3⟩:=h3 h;obtain⟨g2,w2⟩:=Z g3;obtain⟨g1,w1⟩:=V g2;refine⟨g1,fun n=>?_⟩;have a:=w2 n;have b:pw (f.1,f.2.1,f.2.2.1,f.2.2.2.1,f.2.2.2.2.1,f.2.2.2.2.2.1,f.2.2.2.2.2.2.1,f.2.2.2.2.2.2.2.1+1,f.2.2.2.2.2.2.2.2)=pw f:=rfl;have c:pw (u.1,u.2.1,u.2.2.1,u.2.2.2.1,u.2.2.2.2.1,u.2.2.2.2.2.1,u.2.2.2.2.2.2.1,u.2.2.2.2.2.2.2.1-1,u.2.2.2.2.2.2.2.2)=pw u:=rfl;rw[c];omega
theorem block_R :∀(m:Nat) (p:PT),Pre m 8 p->BOk p (Y0Z m p)
 | 0,p,h=>absurd h.2.2.2.2.2 (Nat.not_lt_zero _)
 | m+1,p,hp=>by
   rw[Y0Z];exact block_B_tot (Y0Z m) m (fun q hq=>block_R m q hq) p hp
theorem parse_tot (s:Ls):∃l c i,Y3S s=some (l,(c,i))/\(c=0->VR 8 l/\SZ 8 l<=100/\CR 8 l<=100000/\∃j,Y1h l=some (0,j)):=by
 unfold Y3S;by_cases u:(4000:Int)<(s.length:Int)
 . rw[if_pos u,flt_eq,bsome];exact⟨[],1,-1,G,fun h=>by cases h⟩
 rw[if_neg u];have z:PWF (s,0,0,0,[],false,0,1,0):=⟨by show s.length<=4000;omega,Int.le_refl _,by show(0:Int)<=(s.length:Int);omega,l0r _⟩
 obtain⟨q,e,st,_⟩:=adv_tot z;rw[e,bsome];have hmx:=pw_max st.2.1;obtain⟨l,f,J,M,lb,K⟩:=script_tot Y2Z 5000 (fun p hp=>block_R FU p ⟨hp.1,hp.2.1,hp.2.2.1,hp.2.2.2.1,hp.2.2.2.2.1,FU_gt (by have:=hp.2.2.2.2.2;omega)⟩) q ⟨st.2.1,(st.sr ⟨Int.le_refl _,(by show(0:Int)<=101;decide),fun _=>(by show(0:Int)<=100;decide)⟩).2.2.2.2.2.2,by rw[st.2.2.2.2.2.1];show (0:Int)<=1;decide,by rw[st.2.2.2.2.2.1];show (1:Int)<=9;decide,st.2.2.2.2.2.2,by omega⟩;have E:Y1q Y2Z (q.1,q.2.1,q.2.2.1,q.2.2.2.1,q.2.2.2.2.1,q.2.2.2.2.2.1,q.2.2.2.2.2.2.1,q.2.2.2.2.2.2.2.1,q.2.2.2.2.2.2.2.2)=some (l,f):=J;rw[E,bsome];dsimp only;have key :∃b,(if f.2.2.2.2.2.1=true then some true else some (!decide (f.2.2.1=(0:Int))))=some b/\(b=false->pBad f=false):=by
  by_cases hb:f.2.2.2.2.2.1=true
  . rw[if_pos hb];exact ⟨_,rfl,fun h=>by cases h⟩
  rw[if_neg hb];exact ⟨_,rfl,fun _=>by simpa using hb⟩
 obtain⟨b,eb,hb⟩:=key;rw[eb,bsome];cases b with
 | true =>
   rw[if_pos rfl,flt_eq,bsome];exact⟨[],11,_,G,fun h=>by cases h⟩
 | false =>
   rw[if_neg Dc];obtain⟨c,i,ev,hv⟩:=validate_tot (lb 9);rw[ev,bsome];dsimp only;rw[show Y00 (c,i)=some (!decide (c=0)) from rfl,bsome];by_cases hc:c=0
   . subst hc;rw[if_neg Sm,show Y0f=some (0,0) from rfl,bsome];have:=(K (hb rfl)).2 8;exact⟨l,0,0,G,fun _=>⟨(hv G).1,(hv G).2,by omega,i,ev⟩⟩
   rw[if_pos (by simp [hc]),flt_eq,bsome];exact⟨[],c,-2,G,fun h=>absurd h hc⟩
end Go.Ph.Pf
end
section
namespace Go.Ph.Qp
open Go
def digs : Ls:=[48,49,50,51,52,53,54,55,56,57,65,66,67,68,69,70]
def dig (n:Nat):UInt8:=digs.getD (n % 16) 0
def hexV (c:UInt8):Option Nat :=
 if 48<=c.toNat/\c.toNat<=57 then some (c.toNat-48) else if 65<=c.toNat/\c.toNat<=70 then some (c.toNat-55) else if 97<=c.toNat/\c.toNat<=102 then some (c.toNat-87) else none
abbrev bl (c:UInt8):Prop:=c.toNat=32∨c.toNat=9
abbrev lineAt (l:Ls):Prop:=l.take 2=[13,10]
abbrev lit (c:UInt8)(r:Ls):Prop:=(33<=c.toNat/\c.toNat<=126/\c.toNat≠61)∨(bl c/\¬(r=[]∨lineAt r))
def hex (c:UInt8):Ls:=[61,dig (c.toNat / 16),dig c.toNat]
def sg (c:UInt8)(r:Ls):Ls:=if lit c r then [c] else hex c
def most (r:Ls):Nat:=if r≠ []/\¬lineAt r then 75 else 76
def encF : Nat->Nat->Ls->Ls
 | 0,_,_=>[]
 | _+1,_,[]=>[]
 | f+1,col,c::r =>
   if lineAt (c::r) then 13::10::encF f 0 (r.drop 1)
   else if most r<col+(sg c r).length then [61,13,10]++(sg c r++encF f (sg c r).length r) else sg c r++encF f (col+(sg c r).length) r
def enc (col:Nat)(l:Ls):Ls:=encF l.length col l
def esc (l:Ls):Option UInt8 :=
 if l[0]? = some 61 then match (l[1]?).bind hexV,(l[2]?).bind hexV with
  | some x,some y=>some (UInt8.ofNat (16*x+y))
  | _,_=>none
 else none
def plainF : Nat->Ls->Ls
 | 0,_=>[]
 | _+1,[]=>[]
 | f+1,c::r=>match esc (c::r) with
   | some x=>x::plainF f (r.drop 2)
   | none=>c::plainF f r
def plain (l:Ls):Ls:=plainF l.length l
def trimR (l:Ls):Ls:=(l.reverse.dropWhile (fun c=>decide (bl c))).reverse
def chop (x:UInt8)(l:Ls):Ls:=if l.getLast? = some x then l.dropLast else l
def body (s:Ls):Ls:=if s.getLast? = some 10 then chop 13 s.dropLast else s
def one (s:Ls):Ls:=if (trimR (body s)).getLast? = some 61 then plain (trimR (body s)).dropLast else plain (trimR (body s))++s.drop (body s).length
theorem trimR_snoc {P:Ls}{c:UInt8}(h :¬bl c):trimR (P++[c])=P++[c]:=by
 unfold trimR;rw[List.reverse_append,List.reverse_singleton,l1t,List.dropWhile_cons_of_neg (by simpa using h),List.reverse_cons,List.reverse_reverse]
theorem trimR_nil : trimR []=[]:=rfl
theorem trimR_blank {X Y:Ls}(h :∀c∈Y,bl c):trimR (X++Y)=trimR X:=by
 unfold trimR;rw[List.reverse_append,List.dropWhile_append_of_pos (fun c hc=>by simpa using h c (List.mem_reverse.1 hc))]
end Go.Ph.Qp
end
section
namespace Go.Ph.Fd
open Go Go.Ph.Qp
def bk (s:Ls)(i:Nat):Bool:=match s[i-1]?,s[i]? with
 | some a,some b=>decide (0<i/\bl b/\¬bl a)
 | _,_=>false
theorem bk_at {s:Ls}{i:Nat}{a b:UInt8}(f:0<i)(ha:s[i-1]? = some a)(hb:s[i]? = some b):bk s i=decide (bl b/\¬bl a):=by
 unfold bk;rw[ha,hb];simp [f]
def sc (s:Ls):Nat->Nat->Nat->Nat
 | 0,_,best=>best
 | f+1,i,best=>if bk s i then(if best=0∨i<=78 then sc s f (i+1) i else sc s f (i+1) best) else sc s f (i+1) best
theorem sc_stay (s:Ls):∀(f i best:Nat),0<best->78<i->sc s f i best=best:=by
 intro f;induction f with
 | zero=>intro i best _ _;rfl
 | succ f ih =>
   intro i best u z;rw[sc];split
   . rw[if_neg Om,ih _ _ u Om]
   exact ih _ _ u Om
def pt (s:Ls)(k:Nat):Nat:=sc s (s.length-k) k 0
theorem sc_le (s:Ls):∀(f i best:Nat),sc s f i best=best∨(i<=sc s f i best/\sc s f i best<i+f/\bk s (sc s f i best)=true):=by
 intro f;induction f with
 | zero=>intro i best;exact .inl rfl
 | succ f ih =>
   intro i best;rw[sc];split
   . rename_i hb;split
     . rcases ih (i+1) i with h|⟨z,E,u⟩
       . exact .inr ⟨by omega,by omega,by rw[h];exact hb⟩
       exact .inr ⟨by omega,by omega,u⟩
     rcases ih (i+1) best with h|⟨z,E,u⟩
     . exact .inl h
     exact .inr ⟨by omega,by omega,u⟩
   rcases ih (i+1) best with h|⟨z,E,u⟩
   . exact .inl h
   exact .inr ⟨by omega,by omega,u⟩
theorem pt_lt {s:Ls}{k:Nat}(hk:0<k)(h:pt s k≠0):k<=pt s k/\pt s k<s.length/\bk s (pt s k)=true:=by
 unfold pt at h ⊢;rcases sc_le s (s.length-k) k 0 with f|⟨f,z,u⟩
 . exact absurd f h
 exact⟨f,by omega,u⟩
def flF : Nat->Ls->Nat->List Ls
 | 0,s,_=>[s]
 | f+1,s,k=>if 78<s.length/\pt s k≠0 then s.take (pt s k)::flF f (s.drop (pt s k)) 1 else [s]
theorem flF_more :∀(f g:Nat) (s:Ls) (k:Nat),0<k->s.length<=f->s.length<=g->flF f s k=flF g s k:=by
 intro f;induction f with
 | zero =>
   intro g s k hk hf hg;cases g with
   | zero=>rfl
   | succ g=>rw[flF,flF,if_neg Om]
 | succ f ih =>
   intro g s k hk hf hg;cases g with
   | zero=>rw[flF,flF,if_neg Om]
   | succ g =>
     rw[flF,flF];split
     . rename_i h;have u:=pt_lt hk h.2;rw[ih g _ 1 Om (by rw[l0c];omega) (by rw[l0c];omega)]
     rfl
def fl (s:Ls)(k:Nat):List Ls:=flF s.length s k
theorem fl_more {s:Ls}{k:Nat}(hk:0<k)(h:78<s.length/\pt s k≠0):fl s k=s.take (pt s k)::fl (s.drop (pt s k)) 1:=by
 have f:=pt_lt hk h.2;unfold fl;rw[flF_more s.length (s.length-1+1) s k hk (l07 _) Om,flF,if_pos h,flF_more _ (s.drop (pt s k)).length _ 1 Om (by rw[l0c];omega) (l07 _)]
theorem fl_end {s:Ls}{k:Nat}(h :¬(78<s.length/\pt s k≠0)):fl s k=[s]:=by
 unfold fl;cases hl:s.length with
 | zero=>rfl
 | succ n=>rw[flF,if_neg h]
theorem fl_flat :∀(n:Nat) (s:Ls) (k:Nat),0<k->s.length<=n->(fl s k).flatten=s:=by
 intro n;induction n with
 | zero =>
   intro s k _ h;obtain rfl:=l05 (Nat.le_zero.1 h);rfl
 | succ n ih =>
   intro s k hk h;by_cases hc:78<s.length/\pt s k≠0
   . have f:=pt_lt hk hc.2;rw[fl_more hk hc,l0D,ih _ 1 Om (by rw[l0c];omega),l0y]
   rw[fl_end hc];simp
def step (at_:Nat)(best:Int)(p:Nat):Int:=if at_<p/\((p:Int)-(at_:Int)<=78∨best<0) then(p:Int) else best
end Go.Ph.Fd
end
section
section
namespace Go.Ph.Wd
open Go.Ph.Pl Go.Ph.Pf
open Go.Ph.Gr (chars Ch)
open Go.Ph.Chs (utf8)
theorem foldI {α σ γ:Type}{L:Nat->σ->Int->Option γ}(l:List α)(F:σ->α->σ)(fin:σ->γ)(I:Nat->σ->Prop)
 (hend :∀m s,I l.length s->L (m+1) s (l.length:Int)=some (fin s))
 (hstep :∀m s i a,l[i]? = some a->I i s->I (i+1) (F s a)/\L (m+1) s (i:Int)=L m (F s a) ((i+1:Nat):Int)) :
 ∀(d i:Nat) (s:σ) (m:Nat),l.length-i=d->i<=l.length->d<m->I i s->L m s (i:Int)=some (fin ((l.drop i).foldl F s)):=by
 intro d;induction d with
 | zero =>
   intro i s m f u z hI;obtain⟨m,rfl⟩ :∃k,m=k+1:=⟨m-1,by omega⟩
   obtain rfl:i=l.length:=by omega
   rw[hend m s hI,l0t];rfl
 | succ d ih =>
   intro i s m f u z hI;obtain⟨m,rfl⟩ :∃k,m=k+1:=⟨m-1,by omega⟩
   have hi:i<l.length:=by omega
   obtain⟨hI',hL⟩:=hstep m s i l[i] (List.getElem?_eq_getElem hi) hI;rw[hL,ih (i+1) _ m Om Om Om hI',l0Q hi];rfl
theorem foldI0 {α σ γ:Type}{L:Nat->σ->Int->Option γ}(l:List α)(F:σ->α->σ)(fin:σ->γ)(I:Nat->σ->Prop)(hl:l.length<=9223372036854775807)
 (hend :∀m s,I l.length s->L (m+1) s (l.length:Int)=some (fin s))
 (hstep :∀m s i a,l[i]? = some a->I i s->I (i+1) (F s a)/\L (m+1) s (i:Int)=L m (F s a) ((i+1:Nat):Int)) (s:σ) (f:I 0 s):L FU s 0=some (fin (l.foldl F s)):=by
 have:=foldI l F fin I hend hstep l.length 0 s FU Om Om (FU_gt hl) f;simpa using this
theorem foldl_app {α β:Type}(f:α->List β):∀(l:List α) (o:List β),l.foldl (fun o a=>o++f a) o=o++l.flatMap f
 | [],o=>by simp
 | a::l,o=>by rw[l1w,foldl_app f l];simp
def hexd : Ls:=[48,49,50,51,52,53,54,55,56,57,65,66,67,68,69,70]
def hx (n:Nat):UInt8:=hexd.getD n 0
theorem flatMap_len {α β:Type}(f:α->List β)(n:Nat):∀(l:List α),(∀a∈l,(f a).length<=n)->(l.flatMap f).length<=n*l.length
 | [],_=>by simp
 | a::l,h=>by
   have u:=h a Sm;have z:=flatMap_len f n l (fun x hx=>h x (by simp [hx]));simp only[l0w,l06,l03,Nat.mul_succ];omega
end Go.Ph.Wd
end
section
namespace Go.Ph.Pf
open Go.Ph.Pl Go.Ph.Qp Go.Ph.Fd
abbrev Big (l:Ls):Prop:=l.length<=140737488355328
theorem Y3W (c:UInt8):Y2N c=some (decide (bl c)):=by
 unfold Y2N bl;have f:(c=32)↔c.toNat=32:=u8_lit c 32;have u:(c=9)↔c.toNat=9:=u8_lit c 9;by_cases h:c=32
 . simp [h]
 rw[if_neg h];have h' :¬c.toNat=32:=fun x=>h (f.2 x)
 simp [h',u]
theorem Y6k (l:Ls)(hl:Big l)(g:UInt8->Option Bool)(p:UInt8->Bool)(hg :∀c,g c=some (p c)):Y2S l g=some (l.all p):=by
 unfold Y2S;rw[scan0 (L:=Y1U l g) (l:=l) (p:=fun c => !p c) (stop := .inl ()) (r := .inr false) (FU_gt Om) (fun m=>by rw[Y1U,if_neg Om]) (fun m i h=>by
  rw[Y1U,if_pos Om,idx_nat,List.getElem?_eq_getElem h,chk_succ (by have:=hl;omega)];simp only[bsome,hg];cases p l[i] <;> simp)]
 simp only[bsome];rw[List.all_eq_not_any_not];cases l.any (fun c => !p c) <;> simp
def nmB (c:UInt8):Bool:=decide (33<=c.toNat/\c.toNat<=126/\c.toNat≠58)
theorem Y6V (c:UInt8):Y4z c=some (nmB c):=by
 unfold Y4z nmB;have e:(c=58)↔c.toNat=58:=u8_lit c 58;by_cases f:33<=c.toNat <;> by_cases u:c.toNat<=126 <;> by_cases z:c.toNat=58 <;> simp [f,u,z,e]
def nmL (l:Ls):Bool:=l.all nmB&&decide (1<=l.length/\l.length<=60)
theorem Y7d (l:Ls)(hl:Big l):Y4A l=some (nmL l):=by
 unfold Y4A nmL;by_cases h:l=[]
 . subst h;rfl
 have hpos:1<=l.length:=by cases l <;> simp_all
 rw[if_neg h];by_cases f:l.length<=60
 . rw[if_pos Om,Y6k l hl _ nmB Y6V];simp [hpos,f]
 rw[if_neg Om];simp [f]
def endB (c:UInt8):Bool:=decide (c.toNat=13∨c.toNat=10∨c.toNat=0)
def trimL (l:Ls):Ls:=l.dropWhile (fun c=>decide (bl c))
theorem trimL_nil : trimL []=[]:=rfl
theorem trimL_pos {c:UInt8}{r:Ls}(h:bl c):trimL (c::r)=trimL r:=by unfold trimL;rw [List.dropWhile_cons_of_pos (by simpa using h)]
theorem trimL_neg {c:UInt8}{r:Ls}(h :¬bl c):trimL (c::r)=c::r:=by unfold trimL;rw [List.dropWhile_cons_of_neg (by simpa using h)]
theorem trimL_len (l:Ls):(trimL l).length<=l.length:=(List.dropWhile_sublist _).length_le
theorem trimR_len (l:Ls):(trimR l).length<=l.length:=by
 unfold trimR;rw [List.length_reverse];have:=(List.dropWhile_sublist (l:=l.reverse) (fun c=>decide (bl c))).length_le;simpa using this
theorem snoc_cases (l:Ls):l=[]∨∃a c,l=a++[c]:=by
 rcases List.eq_nil_or_concat l with h|⟨a,c,h⟩
 . exact .inl h
 exact .inr ⟨a,c,by rw[h,List.concat_eq_append]⟩
theorem trimR_bl {a:Ls}{c:UInt8}(h:bl c):trimR (a++[c])=trimR a:=trimR_blank (fun x hx=>by simp at hx;rw [hx];exact h)
theorem trimR_nb {a:Ls}{c:UInt8}(h :¬bl c):trimR (a++[c])=a++[c]:=trimR_snoc h
def trimB (l:Ls):Ls:=trimR (trimL l)
theorem set_end : Y1B [13,10,0]=some ((List.range 256).map (fun n=>decide (n=13∨n=10∨n=0)),true):=by decide +kernel
theorem contains_at (f:Nat->Bool)(c:UInt8):Y1l ((List.range 256).map f) c=some (f c.toNat):=by
 have hc:=c.toNat_lt;unfold Y1l idxA;rw[if_pos Sm,idx_nat,List.getElem?_map,List.getElem?_range Om];rfl
theorem rep_len : chkA 256 (List.replicate 256 false:List Bool)=some (List.replicate 256 false):=chkA_ok l0Y
theorem rng_len (f:Nat->Bool):chkA 256 ((List.range 256).map f)=some ((List.range 256).map f):=chkA_ok (by rw[l0g,List.length_range])
theorem dr_facts (l:Ls):1<=(Utf.dr l).2/\(Utf.dr l).2<=4/\(Utf.nat l 0<128->(Utf.dr l).1=Utf.nat l 0/\(Utf.dr l).2=1)/\(128<=Utf.nat l 0->128<=(Utf.dr l).1)/\
 (2<=(Utf.dr l).2->128<=Utf.nat l 1/\1<l.length)/\(3<=(Utf.dr l).2->128<=Utf.nat l 2/\2<l.length)/\(4<=(Utf.dr l).2->128<=Utf.nat l 3/\3<l.length)/\(Utf.dr l).1<=1114111:=by
 have f:=Utf.nat_lt l 0;have u:=Utf.nat_lt l 1;have z:=Utf.nat_lt l 2;have E:=Utf.nat_lt l 3;unfold Utf.dr Lib.decodeN;split
 . refine⟨by omega,by omega,fun _=>⟨G,G⟩,fun h=>by omega,fun h=>by omega,fun h=>by omega,fun h=>by omega,by omega⟩
 split
 . split <;> simp only[] <;> omega
 split
 . split <;> simp only[] <;> omega
 split
 . split <;> simp only[] <;> omega
 simp only[];omega
theorem endB_lt {c:UInt8}(h:endB c=true):c.toNat<128:=by unfold endB at h;rw [decide_eq_true_eq] at h;omega
theorem any_rune {l:Ls}{ps:Nat}(h:ps<l.length):(l.drop ps).any endB=(decide ((Utf.dr (l.drop ps)).1=13∨(Utf.dr (l.drop ps)).1=10∨(Utf.dr (l.drop ps)).1=0) ||(l.drop (ps+(Utf.dr (l.drop ps)).2)).any endB):=by
 obtain⟨O,U,M,N,f,u,J,V⟩:=dr_facts (l.drop ps);have hl:(l.drop ps).length=l.length-ps:=l0c;have hn :∀j,ps+j<l.length->Utf.nat (l.drop ps) j=(l[ps+j]?.getD 0).toNat:=fun j hj=>by rw[Utf.nat_drop];unfold Utf.nat;rw [l0d]
 have hnb :∀j (hj:ps+j<l.length),128<=Utf.nat (l.drop ps) j->endB l[ps+j]=false:=fun j hj z=>by
  rw[hn j hj,List.getElem?_eq_getElem hj] at z;cases hb:endB l[ps+j] with
  | false=>rfl
  | true=>have:=endB_lt hb;simp at z;omega
 have hd :∀j,ps+j<l.length->(l.drop (ps+j)).any endB=((l[ps+j]?.elim false endB) ||(l.drop (ps+j+1)).any endB):=fun j hj=>by
  rw[drop_cons hj,l1i,List.getElem?_eq_getElem hj];rfl
 have hfirst:(l[ps]?.elim false endB)=decide ((Utf.dr (l.drop ps)).1=13∨(Utf.dr (l.drop ps)).1=10∨(Utf.dr (l.drop ps)).1=0):=by
  rw[List.getElem?_eq_getElem h];have E:=hn 0 Om;rw[l1a,List.getElem?_eq_getElem h] at E;simp only[l1u] at E;show endB l[ps]=_
  rcases l0I (Utf.nat (l.drop ps) 0) 128 with hc|hc
  . rw[(M hc).1,E];rfl
  have:=hnb 0 Om hc;simp only[l1a] at this;rw[this];have:=N hc;exact(decide_eq_false Om).symm
 have K:=hd 0 Om;simp only[l1a] at K;rw[K,hfirst];congr 1;have skip :∀j,ps+j<l.length->128<=Utf.nat (l.drop ps) j->(l.drop (ps+j)).any endB=(l.drop (ps+j+1)).any endB:=fun j hj z=>by
  rw[hd j hj,List.getElem?_eq_getElem hj];show(endB l[ps+j] || _)=_
  rw[hnb j hj z,l0N]
 rcases(show(Utf.dr (l.drop ps)).2=1∨(Utf.dr (l.drop ps)).2=2∨(Utf.dr (l.drop ps)).2=3∨(Utf.dr (l.drop ps)).2=4 by omega) with e|e|e|e
 . rw[e]
 . rw[e,skip 1 Om (f Om).1]
 . rw[e,skip 1 (by have:=(f Om).2;omega) (f Om).1,skip 2 (by have:=(u Om).2;omega) (u Om).1]
 rw[e,skip 1 (by have:=(f Om).2;omega) (f Om).1,skip 2 (by have:=(u Om).2;omega) (u Om).1,skip 3 (by have:=(J Om).2;omega) (J Om).1]
theorem ub_high {a:Int}(f:128<=a)(u:a<256):128<=(Ph.ub a).toNat:=by
 unfold Ph.ub;rw[UInt8.toNat_ofNat'];omega
theorem Y7j {r:Int}(h:128<=r):2<=(Chs.utf8 r).length/\(Chs.utf8 r).length<=4/\∀c∈Chs.utf8 r,128<=c.toNat:=by
 have hf:128<=Chs.fixN r:=by unfold Chs.fixN;split <;> omega
 have hk:=Chs.fixN_ok r;unfold Chs.utf8 Chs.utf8M;rw[if_neg Om];split
 . refine⟨by simp,by simp,fun c hc=>?_⟩;simp only[l0H,l0C,or_false] at hc;rcases hc with rfl|rfl <;> exact ub_high Om Om
 split
 . refine⟨by simp,by simp,fun c hc=>?_⟩;simp only[l0H,l0C,or_false] at hc;rcases hc with rfl|rfl|rfl <;> exact ub_high Om Om
 refine⟨by simp,by simp,fun c hc=>?_⟩;simp only[l0H,l0C,or_false] at hc;rcases hc with rfl|rfl|rfl|rfl <;> exact ub_high Om Om
theorem ix_low :∀n:Nat,n<128->decide ((0:Int)<=ixB [13,10,0] (ub8 (n:Int)))=decide (n=13∨n=10∨n=0):=by decide +kernel
theorem ix_high :∀k,k<4->∀n,n<256->128<=n->ixB (([13,10,0]:Ls).drop k) (UInt8.ofNat n) = -1:=by decide +kernel
theorem IndexRune_end (r:Nat):∃n,Y2g [13,10,0] (r:Int)=some n/\decide ((0:Int)<=n)=decide (r=13∨r=10∨r=0):=by
 unfold Y2g;rw[if_pos Om];simp only[bsome];by_cases z:r<128
 . rw[decide_eq_true Om,if_pos rfl];exact⟨_,G,ix_low r z⟩
 rw[decide_eq_false Om,if_neg Sm,decide_eq_false (show ¬(r=13∨r=10∨r=0) by omega)];have neg :∀{x:Option Int},x=some (-1)->∃n,x=some n/\decide ((0:Int)<=n)=false:=fun h=>⟨-1,h,by decide⟩
 refine neg ?_;by_cases u:(r:Int)=65533
 . rw[if_pos u];decide +kernel
 rw[if_neg u];have hv :∃b,Y2y (r:Int)=some b:=by
  unfold Y2y;rw[if_pos Om];simp only[bsome];split
  . exact⟨_,G⟩
  split
  . simp only[bsome];split <;> exact⟨_,rfl⟩
  simp only[bsome];exact ⟨_,rfl⟩
 obtain⟨b,hb⟩:=hv;rw[hb];simp only[bsome];cases b with
 | false=>rfl
 | true =>
   rw[if_pos rfl];obtain⟨J,K,E⟩:=Y7j (r:=(r:Int)) Om;rw[show ((Chs.utf8 (r:Int)).length:Int)-1=(((Chs.utf8 (r:Int)).length-1:Nat):Int) by omega,chk_ok Om Om];simp only[bsome];generalize hk:(Chs.utf8 (r:Int)).length-1=k;rw[show FU=18446744073709551615+1 from rfl,Y24];have hkl:k<(Chs.utf8 (r:Int)).length:=by omega
   have hc:=E _ (l0p hkl);by_cases f:k<3
   . rw[if_pos (by simp;omega),idx_nat,idx_nat,List.getElem?_eq_getElem hkl,List.getElem?_eq_getElem (show k<([13,10,0]:Ls).length from f)];simp only[bsome];have hne :¬(([13,10,0]:Ls)[k]'f=(Chs.utf8 (r:Int))[k]):=by
      intro he;rw[←he] at hc;have :∀k (h:k<3),(([13,10,0]:Ls)[k]'h).toNat<128:=by decide
      have:=this k f;omega
     rw[if_neg hne,chk_succ Om];simp only[bsome];rw[cut_from rfl (by simp;omega)];simp only[bsome];unfold Y0K;have hx:=ix_high (k+1) Om ((Chs.utf8 (r:Int))[k]).toNat (UInt8.toNat_lt _) hc;rw[UInt8.ofNat_toNat] at hx;rw[hx];simp only[bsome];rw[if_pos Om];simp only[bsome]
   rw[if_neg (by simp;omega)];simp only[bsome]
theorem IndexAny_L2_end (l:Ls):∀(k ps m:Nat),l.length-ps<=k->k<m->∃o,Y18 l [13,10,0] m ps=some o/\((l.drop ps).any endB=true->∃n,o = .inr n/\0<=n)/\((l.drop ps).any endB=false->o = .inl ())
 | k,ps,m,z,E=>by
   obtain⟨m,rfl⟩ :∃k,m=k+1:=⟨m-1,by omega⟩
   by_cases h:ps<l.length
   . rw[Y18,if_pos h];obtain⟨n,u,f⟩:=IndexRune_end (Utf.dr (l.drop ps)).1;rw[u];simp only[bsome];rw[any_rune h];by_cases hc:0<=n
     . rw[if_pos hc];rw[decide_eq_true hc] at f;rw[←f];exact⟨_,G,fun _=>⟨_,G,by omega⟩,fun h=>by simp at h⟩
     rw[if_neg hc];rw[decide_eq_false hc] at f;rw[←f,l0N];have hs:=(dr_facts (l.drop ps)).1;cases k with
     | zero=>omega
     | succ k=>exact IndexAny_L2_end l k (ps+(Utf.dr (l.drop ps)).2) m Om Om
   rw[Y18,if_neg h,l1q Om];exact⟨_,G,fun h=>by simp at h,fun _=>G⟩
theorem Y7e (l:Ls)(hl:Big l):Y5m l=some (l.any endB):=by
 unfold Y5m Y1P Y2u Y0U;rw[if_neg Dc,if_neg Dc];simp only[bsome];by_cases K:8<l.length
 . rw[decide_eq_true Om,if_pos rfl,set_end];simp only[bsome,rep_len,rng_len,if_true];rcases scanP (Y17 l ((List.range 256).map (fun n=>decide (n=13∨n=10∨n=0)))) l (fun i c=>if endB c=true then some (Sum.inr (i:Int)) else none) (.inl ()) (fun m=>by rw[Y17,if_neg Om]) (fun m i h=>by
    rw[Y17,if_pos Om,idx_nat,List.getElem?_eq_getElem h,chk_succ (by have:=hl;omega)];simp only[bsome,contains_at];show(if endB l[i]=true then _ else _)=_
    by_cases he:endB l[i]=true
    . rw[if_pos he,if_pos he]
    rw[if_neg he,if_neg he]) l.length 0 FU Om (FU_gt Om) Om with ⟨j,hj,r,u,f,M,z⟩|⟨u,f⟩
   . rw[show ((0:Nat):Int)=0 from rfl] at z;rw[z];split at f
     . rename_i he;cases f;have:l.any endB=true:=List.any_eq_true.2 ⟨_,l0p hj,he⟩;rw[this];simp only[bsome];rw[decide_eq_true Om]
     cases f
   rw[show ((0:Nat):Int)=0 from rfl] at f;rw[f];have:l.any endB=false:=by
    rw[l1X];intro c hc;obtain⟨i,hi,rfl⟩:=l0P hc;have:=u i hi Om;intro he;rw[if_pos he] at this;cases this
   rw[this];simp only[bsome];rfl
 rw[decide_eq_false Om,if_neg Sm];simp only[bsome];obtain⟨o,ho,E,J⟩:=IndexAny_L2_end l l.length 0 FU Om (FU_gt Om);rw[l0s] at E J;rw[ho];simp only[bsome];cases hb:l.any endB with
 | true =>
   obtain⟨n,rfl,hn⟩:=E hb;simp only[bsome];rw[decide_eq_true hn]
 | false =>
   rw[J hb];simp only[bsome];rfl
theorem trimB_self (l:Ls):trimB l=l↔(l=[]∨((∀c,l.head? = some c->¬bl c)/\(∀c,l.getLast? = some c->¬bl c))):=by
 unfold trimB;cases l with
 | nil=>simp [trimL_nil,trimR_nil]
 | cons c r =>
   constructor
   . intro h;have hc :¬bl c:=by
      intro hb;rw[trimL_pos hb] at h;have f:=trimR_len (trimL r);have u:=trimL_len r;rw[h] at f;simp at f;omega
     rw[trimL_neg hc] at h;refine .inr ⟨fun d hd=>by simp at hd;rw [←hd];exact hc,fun d hd hb=>?_⟩;rcases snoc_cases (c::r) with z|⟨a,x,hax⟩
     . cases z
     rw[hax] at hd h;simp at hd;subst hd;rw[trimR_bl hb] at h;have:=trimR_len a;rw[h] at this;simp at this;omega
   rintro(h|⟨f,u⟩)
   . cases h
   rw[trimL_neg (f c rfl)];rcases snoc_cases (c::r) with z|⟨a,x,hax⟩
   . cases z
   rw[hax] at u ⊢;exact trimR_nb (u x Sm)
def valB (l:Ls):Bool := !l.any endB&&decide (trimB l=l)
theorem Y77 (l:Ls)(hl:Big l):Y4X l=some (valB l):=by
 unfold Y4X valB;rw[Y7e l hl];simp only[bsome];cases hb:l.any endB with
 | true=>rfl
 | false =>
   simp only[l0e,if_false];rw[show decide (trimB l=l)=decide (l=[]∨((∀c,l.head? = some c->¬bl c)/\(∀c,l.getLast? = some c->¬bl c))) from decide_eq_decide.2 (trimB_self l)];by_cases h:l=[]
   . rw[if_pos h,decide_eq_true (.inl h)];rfl
   rw[if_neg h];have hpos:0<l.length:=by cases l <;> simp_all
   have hh:l.head? = some l[0]:=by rw[List.head?_eq_getElem?,List.getElem?_eq_getElem hpos]
   have hg:l.getLast? = some (l[l.length-1]'Om):=by rw[List.getLast?_eq_getElem?,List.getElem?_eq_getElem]
   rw[show (0:Int)=((0:Nat):Int) from rfl,idx_nat,List.getElem?_eq_getElem hpos,chk_pred Om Om];simp only[bsome,Y3W];rw[idx_nat,List.getElem?_eq_getElem Om];simp only[bsome,Y3W,hh,hg,Option.some.injEq];by_cases f:bl l[0]
   . rw[decide_eq_true f,if_pos rfl];simp only[bsome];rw[decide_eq_false (fun x=>x.elim h (fun y=>y.1 _ hh f))];rfl
   rw[decide_eq_false f,if_neg Sm];simp only[bsome];by_cases u:bl (l[l.length-1]'Om)
   . rw[decide_eq_true u,decide_eq_false (fun x=>x.elim h (fun y=>y.2 _ hg u))];rfl
   rw[decide_eq_false u,decide_eq_true (.inr ⟨fun c hc=>by rw[hh] at hc;cases hc;exact f,fun c hc=>by rw[hg] at hc;cases hc;exact u⟩)];rfl
def codeF (n v:Ls):Int:=if nmL n=true then(if 4000<v.length then 1 else if valB v=true then 0 else 11) else 10
theorem bk_at' {s:Ls}{i:Nat}(f:0<i)(h:i<s.length):bk s i=decide (bl s[i]/\¬bl (s[i-1]'Om)):=bk_at f (List.getElem?_eq_getElem _) (List.getElem?_eq_getElem _)
theorem point_loop (s:Ls)(hs:s.length<=1000000):∀(k i m best:Nat),s.length-i<=k->k<m->0<i->Y29 s m (best:Int) (i:Int)=some ((sc s (s.length-i) i best:Nat):Int)
 | k, i, m,best,J,K,f=>by
   obtain⟨m,rfl⟩ :∃k,m=k+1:=⟨m-1,by omega⟩
   by_cases hi:i<s.length
   . cases k with
     | zero=>omega
     | succ k =>
     rw[Y29,if_pos Om,idx_nat,List.getElem?_eq_getElem hi,chk_pred Om Om,chk_succ Om];simp only[bsome,Y3W,idx_nat];rw[List.getElem?_eq_getElem (show i-1<s.length by omega)];simp only[bsome,Y3W];have hc:(if decide (bl s[i])=true then some (decide (bl (s[i-1]'Om))) else some true)=some (!bk s i):=by
      rw[bk_at' f hi];by_cases u:bl s[i] <;> by_cases z:bl (s[i-1]'Om) <;> simp [u,z]
     rw[hc];simp only[bsome];rw[show s.length-i=(s.length-(i+1))+1 by omega,sc];cases hb:bk s i with
     | false =>
       simp only[Bool.not_false,if_true,l0e,if_false];exact point_loop s hs k (i+1) m best Om Om Om
     | true =>
       simp only[l0M,if_true,l0e,if_false];by_cases hbest:0<best
       . rw[if_pos Om];simp only[bsome];by_cases E:78<i
         . rw[decide_eq_true Om,if_pos rfl,if_neg Om,sc_stay _ _ _ _ hbest Om]
         rw[decide_eq_false Om,if_neg Sm,if_pos Om];exact point_loop s hs k (i+1) m i Om Om Om
       rw[if_neg Om];simp only[bsome,l0e,if_false];rw[if_pos Om];exact point_loop s hs k (i+1) m i Om Om Om
   rw[Y29,if_neg Om,show s.length-i=0 by omega];rfl
theorem Y78 (s:Ls)(hs:s.length<=1000000)(k:Nat):Y4Y s (k:Int)=some ((pt s (max k 1):Nat):Int):=by
 unfold Y4Y pt;rw[show max (k:Int) 1=((max k 1:Nat):Int) by omega];have:=point_loop s hs s.length (max k 1) FU 0 Om (FU_gt Om) Om;rw[show ((0:Nat):Int)=0 from rfl] at this;rw[this];rfl
theorem Y6W :∀(f m k:Nat) (s:Ls) (o:List Ls),s.length<=f->f<m->s.length<=1000000->o.length+s.length<=1000000->
 ∃a b,Y2H m s (k:Int) o=some (a,b)/\b++[a]=o++fl s (max k 1)/\a.length<=s.length/\b.length<=o.length+s.length
 | f,m,k,s,o,O,U,J,V=>by
   obtain⟨m,rfl⟩ :∃k,m=k+1:=⟨m-1,by omega⟩
   by_cases u:78<s.length
   . rw[Y2H,if_pos Om,Y78 s J];simp only[bsome];by_cases z:pt s (max k 1)=0
     . rw[if_pos Om,fl_end (fun h=>h.2 z)];exact⟨_,_,G,G,l07 _,by omega⟩
     obtain⟨Y,Z,p3⟩:=pt_lt Om z;rw[if_neg Om,cut_to rfl Om,cut_from rfl Om];simp only[bsome];rw[app_ok (by simp only[l03,l09];omega)];simp only[bsome];cases f with
     | zero=>omega
     | succ f =>
       obtain⟨a,b,K,M,N,E⟩:=Y6W f m 0 (s.drop (pt s (max k 1))) (o++[s.take (pt s (max k 1))]) (by rw[l0c];omega) Om (by rw[l0c];omega) (by rw[l06,l0c];simp;omega);rw[l0c] at N E;simp only[l06,l03,l09] at E;refine⟨a,b,K,?_,by omega,by omega⟩;rw[M,fl_more Om ⟨u,z⟩];simp
   rw[Y2H,if_neg Om,fl_end (fun h=>u h.1)];exact⟨_,_,G,G,l07 _,by omega⟩
def bigL (a:Ls):Bool:=decide (998<a.length)
theorem first_big {β:Type}(L:Nat->Int->Option β)(l:List Ls)(hl:l.length<=1000000)(r:Nat->β)(stop:β)(hend :∀m,L (m+1) (l.length:Int)=some stop)
 (hstep :∀m i (h:i<l.length),L (m+1) (i:Int)=if bigL l[i]=true then some (r i) else L m ((i+1:Nat):Int)):L FU 0=some (match l.findIdx? bigL with|some j=>r j|none=>stop):=by
 rcases scanP L l (fun i a=>if bigL a=true then some (r i) else none) stop hend (fun m i h=>by
  rw[hstep m i h];split <;> rfl) l.length 0 FU Om (FU_gt Om) Om with ⟨j,hj,x,u,f,E,z⟩|⟨u,f⟩
 . rw[show ((0:Nat):Int)=0 from rfl] at z;rw[z];have hb:bigL l[j]=true:=by
    by_cases hb:bigL l[j]=true
    . exact hb
    simp only[hb,if_false,l0e] at f;cases f
   simp only[hb,if_true] at f;cases f;have:l.findIdx? bigL=some j:=by
    rw[List.findIdx?_eq_some_iff_getElem];refine⟨hj,hb,fun a ha=>?_⟩;have:=E a Om Om ha;intro hc;simp only[hc,if_true] at this;cases this
   rw[this]
 rw[show ((0:Nat):Int)=0 from rfl] at f;rw[f];have:l.findIdx? bigL=none:=by
  rw[List.findIdx?_eq_none_iff];intro x hx;obtain⟨i,hi,rfl⟩:=l0P hx;have:=u i hi Om;cases hc:bigL l[i] with
  | false=>rfl
  | true=>simp only[hc,if_true] at this;cases this
 rw[this]
theorem fl_len :∀(n:Nat) (s:Ls) (k:Nat),0<k->s.length<=n->(fl s k).length<=s.length+1
 | 0,s,k,hk,h=>by
   rw[fl_end (fun h'=>by omega)];simp
 | n + 1,s,k,hk,h=>by
   by_cases hc:78<s.length/\pt s k≠0
   . have f:=pt_lt hk hc.2;have:=fl_len n (s.drop (pt s k)) 1 Om (by rw[l0c];omega);rw[fl_more hk hc,l03];rw[l0c] at this;omega
   rw[fl_end hc];simp
def fieldS (n v:Ls):Ls:=n++[58,32]++v
def foldR (n v:Ls):List Ls × Z0a :=
 if codeF n v=0 then(match (fl (fieldS n v) (n.length+2)).findIdx? bigL with|some j=>([],(1,(j:Int)))|none=>(fl (fieldS n v) (n.length+2),(0,0))) else([],(codeF n v,-1))
theorem nmL_len {n:Ls}(h:nmL n=true):1<=n.length/\n.length<=60:=by
 unfold nmL at h;rw[l0h,decide_eq_true_eq] at h;exact h.2
theorem Y5x (n v:Ls)(hn:Big n)(hv:Big v):Y42 n v=some (foldR n v):=by
 unfold Y42 foldR codeF;rw[Y7d n hn];simp only[bsome];cases h:nmL n with
 | false=>rfl
 | true =>
   have K:=nmL_len h;simp only[if_true];by_cases f:4000<v.length
   . rw[if_pos Om,if_pos f];rfl
   rw[if_neg Om,if_neg f,Y77 v hv];simp only[bsome];cases hb:valB v with
   | false=>rfl
   | true =>
     simp only[if_true];have u:(n++[58,32]++v)=fieldS n v:=rfl;have hsl:(fieldS n v).length=n.length+2+v.length:=by unfold fieldS;simp;omega
     rw[cat_ok (by simp only[l03,l09];omega)];simp only[bsome];rw[cat_ok (by rw[l06];simp only[l03,l09];omega),show ((n.length:Int)+2)=((n.length+2:Nat):Int) by omega,chk_ok Om Om];simp only[bsome,u];obtain⟨a,b,z,E,M,J⟩:=Y6W (fieldS n v).length FU (n.length+2) (fieldS n v) [] (l07 _) (FU_gt Om) Om (by simp;omega);rw[z];simp only[bsome];rw[app_ok (by simp only[l03,l09] at J ⊢;omega)];simp only[bsome];rw[E,l02,show max (n.length+2) 1=n.length+2 by omega];have hfl:=fl_len (fieldS n v).length (fieldS n v) (n.length+2) Om (l07 _);rw[first_big (fun m i=>Y2I (fl (fieldS n v) (n.length+2)) m 0 0 i) (fl (fieldS n v) (n.length+2)) Om (fun i => .inr ([],(1,(i:Int)))) (.inl (0,0)) (fun m=>by rw[Y2I,if_neg Om]) (fun m i h=>by
      rw[Y2I,if_pos Om,idx_nat,List.getElem?_eq_getElem h,chk_succ Om];simp only[bsome];unfold bigL Y03;by_cases hbig:998<((fl (fieldS n v) (n.length+2))[i]).length
      . rw[if_pos Om,if_pos (decide_eq_true hbig)];rfl
      rw[if_neg Om,if_neg (by rw[decide_eq_true_eq];exact hbig)])]
     simp only[bsome];cases(fl (fieldS n v) (n.length+2)).findIdx? bigL with
     | none=>rfl
     | some j=>rfl
def faultR (n v:Ls):Int × Int :=
 if codeF n v=0 then(match (fl (fieldS n v) (n.length+2)).findIdx? bigL with|some j=>(1,(j:Int))|none=>(0,0)) else(codeF n v,-1)
theorem codeF_zero {n v:Ls}(h:codeF n v=0):nmL n=true/\v.length<=4000/\valB v=true:=by
 unfold codeF at h;split at h
 . split at h
   . cases h
   split at h
   . exact⟨by assumption,by omega,by assumption⟩
   cases h
 cases h
def hd (a:Ls):Bool:=match a with|[]=>true|c::_ => !decide (bl c)
end Go.Ph.Pf
end
section
namespace Go.Ph.Hd
open Go.Ph.Pl Go.Ph.Pf Go.Ph.Wd
open Go.Ph.Fd (fl fl_flat)
abbrev Fld : Type:=Ls × Ls
abbrev BigF (l:List Fld):Prop :=∀x∈l,Big x.1/\Big x.2
theorem foldR_snd (n v:Ls):(foldR n v).2=faultR n v:=by
 unfold foldR faultR;by_cases h:codeF n v=0
 . rw[if_pos h,if_pos h];cases(fl (fieldS n v) (n.length+2)).findIdx? bigL <;> rfl
 rw[if_neg h,if_neg h]
theorem failed_eq (a b:Int):Y00 (a,b)=some (!decide (a=0)):=rfl
theorem fault_eq (a b:Int):Y03 a b=some (a,b):=by unfold Y03;rfl
def ffz (i:Nat):List Fld->Int × Int
 | []=>(0,0)
 | x::r=>if (faultR x.1 x.2).1=0 then ffz (i+1) r else((faultR x.1 x.2).1,(i:Int))
theorem ffz_zero :∀{l:List Fld} {i:Nat},(ffz i l).1=0->ffz i l=(0,0)/\∀x∈l,(faultR x.1 x.2).1=0
 | [],i,h=>⟨rfl,fun x hx=>by cases hx⟩
 | x :: r,i,h=>by
   rw[ffz] at h ⊢;by_cases hx:(faultR x.1 x.2).1=0
   . rw[if_pos hx] at h ⊢;obtain⟨f,u⟩:=ffz_zero h;refine⟨f,fun y hy=>?_⟩;rcases List.mem_cons.1 hy with rfl|hy
     . exact hx
     exact u y hy
   rw[if_neg hx] at h;exact absurd h hx
theorem valid_L1 (l:List Fld)(hl:l.length<=1000)(hb:BigF l)(u f:Int):∀(d i m:Nat),l.length-i<=d->d<m->i<=l.length->
 Y12 l m u f (i:Int)=some (if (ffz i (l.drop i)).1=0 then .inl (u,f) else .inr (ffz i (l.drop i))):=by
 intro d;induction d with
 | zero =>
   intro i m z E J;obtain⟨m,rfl⟩ :∃k,m=k+1:=⟨m-1,by omega⟩
   rw[Y12,if_neg Om,l0q Om];rfl
 | succ d ih =>
   intro i m z E J;obtain⟨m,rfl⟩ :∃k,m=k+1:=⟨m-1,by omega⟩
   by_cases hi:i<l.length
   . have hx:=hb l[i] (l0p hi);rw[Y12,if_pos Om,idx_nat,List.getElem?_eq_getElem hi,bsome,Y5x _ _ hx.1 hx.2,l0Q hi,ffz];have hs:=foldR_snd l[i].1 l[i].2;obtain⟨⟨L,a,b⟩,hr⟩ :∃p,foldR l[i].1 l[i].2=p:=⟨_,rfl⟩
     rw[hr] at hs ⊢;rw[bsome];dsimp only at hs ⊢;rw[failed_eq,bsome,←hs];by_cases ha:a=0
     . rw[decide_eq_true ha,if_neg Dc,if_pos ha,chk_succ Om,bsome];exact ih (i+1) m Om Om Om
     rw[decide_eq_false ha,if_pos Dc,if_neg ha,fault_eq,bsome,if_neg ha]
   rw[Y12,if_neg Om,l0q Om];rfl
def valR (l:List Fld):Int × Int:=if 60<l.length then(2,-1) else ffz 0 l
theorem validate_eq (l:List Fld)(hb:BigF l):Y2l l=some (valR l):=by
 unfold Y2l valR;by_cases h:60<l.length
 . rw[if_pos Om,fault_eq,bsome,if_pos h]
 have:=valid_L1 l Om hb 0 0 l.length 0 FU Om (by unfold FU;omega) Om;rw[Int.natCast_zero,l0s] at this;rw[if_neg Om,this,bsome,if_neg h];by_cases hz:(ffz 0 l).1=0
 . rw[if_pos hz];rw[(ffz_zero hz).1];unfold Y0f;rfl
 rw[if_neg hz]
def linesOf (x:Fld):List Ls:=fl (fieldS x.1 x.2) (x.1.length+2)
theorem fault_zero {x:Fld}(h:(faultR x.1 x.2).1=0):foldR x.1 x.2=(linesOf x,(0,0))/\nmL x.1=true/\x.2.length<=4000/\valB x.2=true/\(∀a∈linesOf x,a.length<=998):=by
 unfold faultR at h;by_cases hc:codeF x.1 x.2=0
 . rw[if_pos hc] at h;obtain⟨f,u,z⟩:=codeF_zero hc;cases hf:(fl (fieldS x.1 x.2) (x.1.length+2)).findIdx? bigL with
   | some j=>rw[hf] at h;exact absurd (show(1:Int)=0 from h) Dc
   | none =>
     refine⟨?_,f,u,z,fun a ha=>?_⟩
     . unfold foldR linesOf;rw [if_pos hc,hf]
     have:=List.findIdx?_eq_none_iff.1 hf a ha;unfold bigL at this;simpa using this
 rw[if_neg hc] at h;exact absurd h hc
def crlf (a:Ls):Ls:=a++[13,10]
def fieldB (x:Fld):Ls:=(linesOf x).flatMap crlf
theorem crlf_sum :∀L:List Ls,(L.flatMap crlf).length=L.flatten.length+2*L.length
 | []=>rfl
 | a::L=>by rw[l0w,l06,crlf_sum L,l0D,l06,l03];unfold crlf;rw [l06];simp only[l03,l09];omega
theorem field_sizes {x:Fld}(h:(faultR x.1 x.2).1=0):(linesOf x).length<=4070/\(linesOf x).flatten=fieldS x.1 x.2/\(fieldS x.1 x.2).length<=4062/\(fieldB x).length<=13000:=by
 obtain⟨_,z,J,_,_⟩:=fault_zero h;have E:=nmL_len z;have hsl:(fieldS x.1 x.2).length=x.1.length+2+x.2.length:=by unfold fieldS;simp;omega
 have K:=fl_len (fieldS x.1 x.2).length (fieldS x.1 x.2) (x.1.length+2) Om (l07 _);have f:=fl_flat (fieldS x.1 x.2).length (fieldS x.1 x.2) (x.1.length+2) Om (l07 _);have u:=crlf_sum (linesOf x);unfold fieldB;unfold linesOf at u ⊢;rw[f] at u;exact⟨by omega,f,by omega,by omega⟩
theorem headB_len {l:List Fld}(hl:l.length<=60)(h :∀x∈l,(faultR x.1 x.2).1=0):(l.flatMap fieldB).length<=780000:=by
 have:=flatMap_len fieldB 13000 l (fun x hx=>(field_sizes (h x hx)).2.2.2);omega
theorem valR_zero {l:List Fld}(h:(valR l).1=0):valR l=(0,0)/\l.length<=60/\∀x∈l,(faultR x.1 x.2).1=0:=by
 unfold valR at h ⊢;by_cases f:60<l.length
 . rw[if_pos f] at h;exact absurd h Dc
 rw[if_neg f] at h ⊢;obtain⟨u,z⟩:=ffz_zero h;exact⟨u,by omega,z⟩
end Go.Ph.Hd
end
end
section
section
namespace Go.Ph.Sg
open Go.Ph.Pl Go.Ph.Pf Go.Ph.Wd Go.Ph.Hd
open Go.Ph.Chs (lowB lower)
abbrev Bt : Type:=Ls
abbrev Msg : Type:=List Fld × Bt
theorem allB {p:UInt8->Prop}(h :∀n,n<256->p (UInt8.ofNat n))(c:UInt8):p c:=by
 have:=h c.toNat c.toNat_lt;rwa [UInt8.ofNat_toNat] at this
theorem fail_eq (a b:Int):Y00 (a,b)=some (!decide (a=0)):=rfl
theorem flt_eq (a b:Int):Y03 a b=some (a,b):=by unfold Y03;rfl
theorem none_eq : Y0f=some (0,0):=rfl
theorem low_step (c:UInt8):(c+97)-65=c+32:=by
 refine allB (p:=fun c=>(c+97)-65=c+32) ?_ c;decide +kernel
theorem set_mid {α:Type}(f:α->α)(l:List α)(i:Nat)(h:i<l.length):((l.take i).map f++l.drop i).set i (f l[i])=(l.take (i+1)).map f++l.drop (i+1):=by
 have u:((l.take i).map f).length=i:=by rw[l0g,l0k];omega
 rw[List.set_append_right _ _ Om,u,Nat.sub_self,drop_cons h,List.set_cons_zero,l0O h,l0B,l0E];rfl
theorem low_L1 (l:Bt)(hl:Big l):∀(k i m:Nat),l.length-i<=k->k<m->i<=l.length->Y1u l m ((l.take i).map lowB++l.drop i) (i:Int)=some (lower l):=by
 intro k;induction k with
 | zero =>
   intro i m f z E;obtain⟨m,rfl⟩ :∃k,m=k+1:=⟨m-1,by omega⟩
   obtain rfl:i=l.length:=by omega
   rw[Y1u,if_neg Om,l1f,l0t,l0n];rfl
 | succ k ih =>
   intro i m f z E;obtain⟨m,rfl⟩ :∃k,m=k+1:=⟨m-1,by omega⟩
   by_cases hi:i<l.length
   . have hlen:((l.take i).map lowB++l.drop i).length=l.length:=by rw[l06,l0g,l0k,l0c];omega
     have hat:((l.take i).map lowB++l.drop i)[i]? = some l[i]:=by
      have f:((l.take i).map lowB).length=i:=by rw[l0g,l0k];omega
      rw[List.getElem?_append_right Om,f,Nat.sub_self,List.getElem?_drop,l1a];exact List.getElem?_eq_getElem hi
     unfold Big at hl;rw[Y1u,if_pos Om,idx_nat,hat,bsome];have hset:=set_mid lowB l i hi;by_cases hc:65<=l[i].toNat/\l[i].toNat<=90
     . rw[if_pos hc.1,decide_eq_true hc.2,bsome,if_pos rfl,bsome,put_ok Om Om,bsome,chk_succ Om,bsome,low_step,l0b];have hlow:lowB l[i]=l[i]+32:=by unfold lowB;rw [if_pos hc]
       rw[←hlow,hset];exact ih (i+1) m Om Om Om
     have hlow:lowB l[i]=l[i]:=by unfold lowB;rw [if_neg hc]
     rw[hlow] at hset;have hself:((l.take i).map lowB++l.drop i).set i l[i]=(l.take i).map lowB++l.drop i:=by
      refine l0V fun j=>?_
      by_cases hj:i=j
      . subst hj;rw [List.getElem?_set_self Om,hat]
      rw[List.getElem?_set_ne hj]
     rw[hself] at hset;have hb:(if 65<=l[i].toNat then some (decide (l[i].toNat<=90)) else some false)=some false:=by
      by_cases u:65<=l[i].toNat
      . rw[if_pos u,decide_eq_false (fun J=>hc ⟨u,J⟩)]
      rw[if_neg u]
     rw[hb,bsome,if_neg l00,chk_succ Om,bsome,hset];exact ih (i+1) m Om Om Om
   obtain rfl:i=l.length:=by omega
   rw[Y1u,if_neg Om,l1f,l0t,l0n];rfl
theorem low_eq {l:Bt}(hl:Big l):Y1Z l=some (lower l):=by
 unfold Y1Z;have hb:=hl;unfold Big at hb;rw[toB_ok Om,bsome];have:=low_L1 l hl l.length 0 FU Om (FU_gt Om) Om;rw[List.take_zero,l0v,l02,l0s] at this;rw[show ((0:Nat):Int)=0 from rfl] at this;rw[this,bsome]
theorem low_len (l:Bt):(lower l).length=l.length:=l0g ..
theorem same_eq {a b:Bt}(ha:Big a)(hb:Big b):Y2V a b=some (decide (lower a=lower b)):=by
 unfold Y2V;by_cases h:a.length=b.length
 . rw[if_pos Om,low_eq ha,bsome,low_eq hb,bsome,bsome]
 rw[if_neg Om,bsome,decide_eq_false];intro f;have:=congrArg List.length f;rw[low_len,low_len] at this;exact h this
def letB (c:UInt8):Bool:=decide (97<=c.toNat/\c.toNat<=122) ||(decide (65<=c.toNat/\c.toNat<=90) || decide (48<=c.toNat/\c.toNat<=57))
theorem letter_eq (c:UInt8):Y3w c=some (letB c):=by
 refine allB (p:=fun c=>Y3w c=some (letB c)) ?_ c;decide +kernel
def nmC (c:UInt8):Bool:=letB c ||(decide (c=45) ||(decide (c=95) || decide (c=46)))
theorem name1_eq (c:UInt8):Y41 c=some (nmC c):=by
 unfold Y41 nmC;rw[letter_eq,bsome];cases letB c
 . rw[if_neg l00,l0N];by_cases f:c=45
   . rw[if_pos f,decide_eq_true f];rfl
   rw[if_neg f,decide_eq_false f];by_cases u:c=95
   . rw[if_pos u,decide_eq_true u];rfl
   rw[if_neg u,decide_eq_false u];rfl
 rfl
def nameL (l:Bt):Bool:=decide (l≠ [])&&(decide (l.length<=60)&&l.all nmC)
theorem name_eq {l:Bt}(hl:Big l):Y4v l=some (nameL l):=by
 unfold Y4v nameL;by_cases h:l=[]
 . rw[if_pos h,bsome,decide_eq_false (fun f=>f h)];rfl
 rw[if_neg h,decide_eq_true h];by_cases f:l.length<=60
 . rw[if_pos Om,Y6k l hl _ nmC name1_eq,bsome,bsome,decide_eq_true f];rfl
 rw[if_neg Om,bsome,decide_eq_false f];rfl
end Go.Ph.Sg
end
section
namespace Go.Ph.Sg
open Go.Ph.Pl Go.Ph.Pf Go.Ph.Wd Go.Ph.Hd
open Go.Ph.Chs (lowB lower)
theorem index_bound :∀(s sub:Bt) {j:Nat},Lib.index s sub=(j:Int)->j+sub.length<=s.length
 | [],sub,j,h=>by
   rw[Lib.index] at h;split at h
   . rename_i he;have:sub=[]:=List.isEmpty_iff.1 he;subst this;simp at h ⊢;omega
   omega
 | b :: s,sub,j,h=>by
   rw[Lib.index] at h;split at h
   . rename_i he;have:=(List.isPrefixOf_iff_prefix.1 he).length_le;omega
   split at h
   . omega
   rename_i hne;have hge:=Lib.index_ge s sub;have f:Lib.index s sub≠-1:=by simpa using hne
   obtain⟨k,hk⟩ :∃k:Nat,Lib.index s sub=(k:Int):=⟨(Lib.index s sub).toNat,by omega⟩
   have:=index_bound s sub hk;rw[l03];omega
theorem mw_L2 (L:List Bt)(o:Bt)(hL :∀a∈L,a.length<=998)(hl:L.length<=5000)(ho:o.length<=1000000):Y1n L FU o 0=some (o++L.flatMap crlf):=by
 rw[foldI0 (L:=fun m s i=>Y1n L m s i) L (fun o a=>o++crlf a) id (fun i s=>s.length<=o.length+1000*i) Om ?_ ?_ o Sm,foldl_app]
 . rfl
 . intro m s hs;rw[Y1n,if_neg Om];rfl
 intro m s i a ha hs;have hi:=(List.getElem?_eq_some_iff.1 ha).1;have f:=hL a (l0T ha);refine⟨by unfold crlf;simp only[l06,l03,l09];omega,?_⟩;rw[Y1n,if_pos Om,idx_nat,ha,bsome,app_ok Om,bsome,app_ok (by simp only[l06,l03,l09];omega),bsome,chk_succ Om,bsome];unfold crlf;rw[l0E]
theorem mw_L1 (p:Msg)(hl:p.1.length<=60)(h :∀x∈p.1,(faultR x.1 x.2).1=0):Y1o p FU [] 0=some (p.1.flatMap fieldB):=by
 rw[foldI0 (L:=fun m s i=>Y1o p m s i) p.1 (fun o x=>o++fieldB x) id (fun i s=>s.length<=13000*i) Om ?_ ?_ [] Sm,foldl_app]
 . rfl
 . intro m s hs;rw[Y1o,if_neg Om];rfl
 intro m s i x hx hs;have hi:=(List.getElem?_eq_some_iff.1 hx).1;have hm:=h x (l0T hx);obtain⟨J,K,M,N⟩:=field_sizes hm;obtain⟨f,u,O,U,z⟩:=fault_zero hm;have E:=Pf.nmL_len u;refine⟨by rw[l06];omega,?_⟩;rw[Y1o,if_pos Om,idx_nat,hx,bsome,Y5x _ _ (by unfold Big;omega) (by unfold Big;omega),f,bsome];dsimp only;rw[mw_L2 _ _ z Om Om,bsome,chk_succ Om,bsome];rfl
theorem mw_eq (p:Msg)(h:(valR p.1).1=0)(hb:p.2.length<=140737488355328):Y39 p=some (p.1.flatMap fieldB++[13,10]++p.2):=by
 obtain⟨z,f,u⟩:=valR_zero h;have hl:=headB_len f u;unfold Y39;rw[mw_L1 p f u,bsome,app_ok (by simp only[l03,l09];omega),bsome,app_ok1 (by simp only[l06,l03,l09];omega),bsome]
theorem body_L1 (l:Bt)(hl:l.length<=140737488355328):∀(k i m c:Nat),l.length-i<=k->k<m->i<=l.length->c<=i->∃o,Y2a l m (c:Int) (i:Int)=some o:=by
 intro k;induction k using Nat.strongRecOn with
 | _ k ih =>
   intro i m c U V Y Z;obtain⟨m,rfl⟩ :∃k,m=k+1:=⟨m-1,by omega⟩
   rw[Y2a];by_cases hi:i<l.length
   . rw [if_pos Om,idx_nat,List.getElem?_eq_getElem hi,bsome];have hb :∃b,(if l[i]=13 then(chk ((i:Int)+1)).bind fun E=>(if E<(l.length:Int) then(chk ((i:Int)+1)).bind fun J=>(idx l J).bind fun K=>some (decide (K=10)) else some false) else some false)=some b/\(b=true->i+1<l.length):=by
      by_cases u:l[i]=13
      . rw[if_pos u,chk_succ Om,bsome];by_cases f:i+1<l.length
        . rw[if_pos Om,bsome,idx_nat,List.getElem?_eq_getElem f,bsome];exact ⟨_,rfl,fun _=>f⟩
        rw[if_neg Om];exact ⟨_,rfl,fun h=>by cases h⟩
      rw[if_neg u];exact ⟨_,rfl,fun h=>by cases h⟩
     obtain⟨b,M,N⟩:=hb;rw[M,bsome];cases b with
     | true =>
       have f:=N rfl;rw[if_pos rfl,chk_succ Om,bsome,chk_succ Om,bsome];exact ih (l.length-(i+1+1)) Om (i+1+1) m 0 (l07 _) Om Om Om
     | false =>
       rw[if_neg l00];obtain⟨z,O⟩ :∃z,(if l[i]=13 then some true else some (decide (l[i]=10)))=some z:=by split <;> exact⟨_,rfl⟩
       rw[O,bsome];cases z with
       | true=>rw[if_pos rfl];exact ⟨_,rfl⟩
       | false =>
         rw[if_neg l00,chk_succ Om,bsome];split
         . exact⟨_,G⟩
         rw[chk_succ Om,bsome];exact ih (l.length-(i+1)) Om (i+1) m (c+1) (l07 _) Om Om Om
   rw[if_neg Om];exact ⟨_,rfl⟩
theorem body_tot (l:Bt)(hl:l.length<=140737488355328):∃a b,Y43 l=some (a,b):=by
 unfold Y43 Y5y;obtain⟨o,ho⟩:=body_L1 l hl l.length 0 FU 0 Om (FU_gt Om) Om Om;have ho':Y2a l FU 0 0=some o:=ho;rw[ho',bsome];have fin :∀f:Int,∃a b,(if f=11 then(Y03 11 (-5)).bind fun x=>some (x.1,x.2) else if f=1 then(Y03 1 (-6)).bind fun x=>some (x.1,x.2) else Y0f.bind fun x=>some (x.1,x.2))=some (a,b):=fun f=>by
  rw[flt_eq,flt_eq,none_eq,bsome,bsome,bsome];split
  . exact⟨_,_,G⟩
  split <;> exact⟨_,_,rfl⟩
 cases o with
 | inl u=>exact fin 0
 | inr n=>exact fin n
theorem mvalid (m:Msg)(hb:BigF m.1)(hm:m.2.length<=140737488355328):∃a b,Y1D m=some (a,b)/\(a=0->(valR m.1).1=0/\m.2.length<=12000):=by
 unfold Y1D;rw[validate_eq m.1 hb,bsome];obtain⟨⟨a,b⟩,hv⟩ :∃p,valR m.1=p:=⟨_,rfl⟩
 rw[hv];dsimp only;rw[fail_eq,bsome];by_cases ha:a=0
 . have u:(valR m.1).1=0:=by rw[hv];exact ha
   rw[decide_eq_true ha,if_neg Dc,mw_eq (m.1,m.2) u hm,bsome];obtain⟨x,y,hxy⟩:=body_tot m.2 hm;by_cases f:(12000:Int)<((m.1.flatMap fieldB++[13,10]++m.2).length:Int)
   . rw[if_pos f,flt_eq,bsome];exact⟨_,_,G,fun h=>by cases h⟩
   rw[if_neg f,hxy,bsome];refine⟨_,_,G,fun _=>⟨by simpa using ha,?_⟩⟩;rw[l06] at f;omega
 rw[decide_eq_false ha,if_pos Dc];exact⟨_,_,G,fun h=>absurd h ha⟩
end Go.Ph.Sg
end
end
section
namespace Go.Ph.Pf
open Go.Ph.Pl Go.Ph.Wd Go.Ph.Hd Go.Ph.Sg
theorem ixB_lt (l:Ls)(c:UInt8): -1<=ixB l c/\ixB l c<=l.length/\(0<=ixB l c->ixB l c+1<=l.length):=by
 unfold ixB;split <;> omega
theorem index_1 (s:Ls):∃n:Int,Y2k s [64]=some n/\-1<=n/\n<=s.length/\(0<=n->n+1<=s.length):=by
 unfold Y2k;rw[if_neg Sm,bsome];by_cases h:([64]:Ls)=s
 . subst h;rw[if_pos Sm];exact⟨0,G,by decide,by decide,by decide⟩
 rw[if_neg (by simpa using h),if_pos Sm];refine⟨ixB s 64,G,?_⟩;exact ixB_lt s 64
theorem cut_1 (s:Ls)(hs:Big s):∃a b c,Y3E s [64]=some (a,b,c)/\a.length<=s.length/\b.length<=s.length:=by
 unfold Y3E Y38;have hs:s.length<=140737488355328:=hs;obtain⟨n,e,z,E,u⟩:=index_1 s;rw[e,bsome];by_cases f:(0:Int)<=n
 . obtain⟨n,rfl⟩:=l0m f;have J:=u f;rw[if_pos f,cut_to rfl Om,bsome,show (([64]:Ls).length:Int)=1 from rfl,chk_succ Om,bsome,cut_from rfl Om,bsome,bsome];exact⟨_,_,_,G,by simp;omega,by simp⟩
 rw[if_neg f,bsome];exact⟨_,_,_,G,l07 _,by simp⟩
theorem dom1_tot (c:UInt8):∃b,Y2D c=some b:=by
 unfold Y2D;repeat' split
 all_goals exact⟨_,rfl⟩
theorem split1_tot (c:UInt8):∃b,Y2T c=some b:=by
 unfold Y2T;rw[letter_eq,bsome,show Y0K [45,95,46,43,61] c=some (ixB [45,95,46,43,61] c) from rfl,bsome];split
 . exact⟨_,G⟩
 exact⟨_,G⟩
theorem all_tot {s:Ls}(hs:s.length<=9000000000000000000){f:UInt8->Option Bool}(hf :∀c,∃b,f c=some b):∃b,Y2S s f=some b :=
 ⟨_,all_eq hs (p:=fun c=>(f c).getD false) (fun c=>by obtain⟨b,hb⟩:=hf c;rw [hb];rfl)⟩
theorem domain_tot (s:Ls):∃b,Y32 s=some b:=by
 unfold Y32;by_cases h:s=[]
 . rw[if_pos h];exact ⟨_,rfl⟩
 rw[if_neg h];by_cases hl:(s.length:Int)<=60
 . rw [if_pos hl];obtain⟨b,hb⟩:=all_tot (s:=s) Om dom1_tot;rw[hb,bsome];cases b with
   | false=>rw[if_neg Dc];exact ⟨_,rfl⟩
   | true =>
     rw[if_pos rfl];have z:(1:Int)<=(s.length:Int):=by cases s with|nil=>exact absurd rfl h|cons a l=>simp only[l03];omega
     have hp :∃b,Y1N s [46]=some b:=by
      unfold Y1N Y1s;rw[show (([46]:Ls).length:Int)=((1:Nat):Int) from rfl,if_pos Om,cut_to rfl Om,bsome,bsome,bsome];exact⟨_,G⟩
     have hq :∃b,Y1O s [46]=some b:=by
      unfold Y1O Y16;rw[show (([46]:Ls).length:Int)=((1:Nat):Int) from rfl,if_pos Om,show ((s.length:Int)-((1:Nat):Int))=((s.length-1:Nat):Int) by omega,chk_ok Om Om,bsome,cut_from rfl Om,bsome,bsome,bsome];exact⟨_,G⟩
     obtain⟨E,f⟩:=hp;obtain⟨J,u⟩:=hq;rw[f,bsome,u,bsome,show Y0P s [46,46]=some (Lib.contains s [46,46]) by unfold Y0P;rw [if_pos Om],bsome]
     (repeat' split) <;> exact⟨_,rfl⟩
 rw[if_neg hl];exact ⟨_,rfl⟩
theorem addr_tot (s:Ls)(hs:Big s):∃b,Y2t s=some b:=by
 unfold Y2t Y3V;obtain⟨a,b,c,e,E,J⟩:=cut_1 s hs;have hs:s.length<=140737488355328:=hs;rw[e,bsome];dsimp only;cases c with
 | false=>rw[if_neg Dc,bsome];exact ⟨_,rfl⟩
 | true =>
   rw[if_pos rfl];by_cases ha:a=[]
   . rw[if_pos ha,bsome];exact ⟨_,rfl⟩
   rw[if_neg ha];by_cases hl:(a.length:Int)<=60
   . rw[if_pos hl];obtain⟨f,u⟩:=all_tot (s:=a) Om split1_tot;rw[u,bsome];cases f with
     | false=>rw[if_neg Dc,bsome];exact ⟨_,rfl⟩
     | true =>
       obtain⟨K,z⟩:=domain_tot b;rw[if_pos rfl,z,bsome,bsome];exact⟨_,G⟩
   rw[if_neg hl,bsome];exact ⟨_,rfl⟩
abbrev Rcp : Type:=Ls × Int
theorem rcont_tot (l:List Rcp)(hl:l.length<=1000)(a:Rcp):∃b,Y0R l (fun z=>Y0O z (a.1,a.2))=some b:=by
 unfold Y0R Y1H;rcases scanP (Y07 l (fun z=>Y0O z (a.1,a.2))) l (fun i x=>if x.1=a.1 then some (.inr (i:Int)) else none) (.inl ()) (fun m=>by rw[Y07,if_neg Om]) (fun m i h=>by
  rw[Y07,if_pos Om,idx_nat,List.getElem?_eq_getElem h,bsome];unfold Y0O;rw[bsome];by_cases hk:(l[i]).1=a.1
  . rw[if_pos (by simp [hk]),if_pos hk]
  rw[if_neg (by simp [hk]),if_neg hk,chk_succ Om,bsome]) l.length 0 FU Om (FU_gt Om) Om with ⟨j,hj,r,_,J,_,K⟩|⟨J,M⟩
 . have f:Y07 l (fun z=>Y0O z (a.1,a.2)) FU 0=_:=K;rw[f,bsome];cases r with
   | inl u=>exact⟨_,rfl⟩
   | inr n=>exact⟨_,rfl⟩
 have E:Y07 l (fun z=>Y0O z (a.1,a.2)) FU 0=_:=M;rw[E,bsome];exact⟨_,G⟩
theorem recs_L1 (l:List Rcp)(hl:l.length<=60)(hb :∀x∈l,Big x.1)(u v:Int):∀(k i m:Nat),l.length-i<=k->k<m->∃o,Y0r l m u v (i:Int)=some o:=by
 intro k;induction k with
 | zero =>
   intro i m f z;obtain⟨m,rfl⟩ :∃k,m=k+1:=⟨m-1,by omega⟩
   rw[Y0r,if_neg Om];exact⟨_,G⟩
 | succ k ih =>
   intro i m f z;obtain⟨m,rfl⟩ :∃k,m=k+1:=⟨m-1,by omega⟩
   by_cases hi:i<l.length
   . rw[Y0r,if_pos Om,idx_nat,List.getElem?_eq_getElem hi,bsome];obtain⟨b,e⟩:=addr_tot (l[i]).1 (hb _ (l0p hi));rw[e,bsome];cases b with
     | false=>rw[if_neg Dc,flt_eq,bsome];exact ⟨_,rfl⟩
     | true =>
       rw[if_pos rfl];have hn :∃b,Y33 (l[i]).2=some b:=by unfold Y33;split <;> exact⟨_,rfl⟩
       obtain⟨b,e⟩:=hn;rw[e,bsome];cases b with
       | false=>rw[if_neg Dc,flt_eq,bsome];exact ⟨_,rfl⟩
       | true =>
         rw[if_pos rfl,cut_to rfl Om,bsome];obtain⟨b,e⟩:=rcont_tot (l.take i) (by rw[l0k];omega) l[i];rw[e,bsome];cases b with
         | true=>rw[if_pos rfl,flt_eq,bsome];exact ⟨_,rfl⟩
         | false =>
           rw[if_neg Dc,chk_succ Om,bsome];exact ih (i+1) m Om Om
   rw[Y0r,if_neg Om];exact⟨_,G⟩
abbrev Env3 : Type:=Ls × List Rcp × Ls
theorem env_tot (e:Env3)(z:Big e.1)(E :∀x∈e.2.1,Big x.1)(J:Big e.2.2):∃c i,Y2f e=some (c,i)/\(c=0->e.2.1.length<=60):=by
 unfold Y2f;obtain⟨b,hb⟩:=addr_tot e.1 z;rw[hb];have key :∃b',(if e.1=[] then some false else(some b).bind fun K=>some (!K))=some b':=by split <;> exact⟨_,rfl⟩
 obtain⟨b',e'⟩:=key;rw[e',bsome];cases b' with
 | true=>rw[if_pos rfl,flt_eq,bsome];exact ⟨_,_,rfl,fun h=>by cases h⟩
 | false =>
   rw[if_neg Dc];have key :∃b',(if (e.2.1.length:Int)<(1:Int) then some true else some (decide ((60:Int)<(e.2.1.length:Int))))=some b'/\(b'=false->e.2.1.length<=60):=by
    split
    . exact⟨_,G,fun h=>by cases h⟩
    exact⟨_,G,fun h=>by have:=of_decide_eq_false h;omega⟩
   obtain⟨b',e',hl⟩:=key;rw[e',bsome];cases b' with
   | true=>rw[if_pos rfl,flt_eq,bsome];exact ⟨_,_,rfl,fun h=>by cases h⟩
   | false =>
     rw[if_neg Dc,name_eq J];have key :∃b',(if e.2.2=[] then some false else(some (nameL e.2.2)).bind fun u=>some (!u))=some b':=by split <;> exact⟨_,rfl⟩
     obtain⟨b',e'⟩:=key;rw[e',bsome];cases b' with
     | true=>rw[if_pos rfl,flt_eq,bsome];exact ⟨_,_,rfl,fun h=>by cases h⟩
     | false =>
       rw[if_neg Dc];have f:=hl rfl;unfold Y2M;obtain⟨o,ho⟩:=recs_L1 e.2.1 f E 0 0 e.2.1.length 0 FU Om (FU_gt Om);have ho':Y0r e.2.1 FU 0 0 0=some o:=ho;rw[ho',bsome];cases o with
       | inl p=>exact⟨_,_,rfl,fun _=>f⟩
       | inr p=>exact⟨_,_,rfl,fun _=>f⟩
theorem hname_tot (n:Ls):∃b,Y4B n=some b/\(b=true->n.length<=60):=by
 unfold Y4B;by_cases h:n.length<=60
 . rw[Y5x n [] (by unfold Big;omega) (by unfold Big;simp),bsome];obtain⟨l,a,b⟩:=foldR n [];exact⟨_,G,fun _=>h⟩
 have hn:Y4A n=some false:=by
  unfold Y4A;rw[if_neg (fun f=>by rw[f] at h;simp at h),if_neg Om,bsome]
 unfold Y42;rw[hn,bsome,if_neg Dc,flt_eq,bsome,bsome];exact⟨_,G,fun h=>by cases h⟩
theorem same_tot (a b:Ls)(h:b.length<=1000):∃c,Y2V a b=some c:=by
 by_cases hl:(a.length:Int)=(b.length:Int)
 . exact⟨_,same_eq (by unfold Big;omega) (by unfold Big;omega)⟩
 unfold Y2V;rw[if_neg hl,bsome];exact ⟨_,rfl⟩
theorem get_L1 (F:List Fld)(hF:F.length<=60)(hb:BigF F)(n:Ls)(hn:n.length<=60):∀(k i m:Nat) (o:List Ls),F.length-i<=k->k<m->o.length<=i->i<=F.length->(∀x∈o,Big x)->∃o',Y1z F n m o (i:Int)=some o'/\o'.length<=60/\∀x∈o',Big x:=by
 intro k;induction k with
 | zero =>
   intro i m o u z E J f;obtain⟨m,rfl⟩ :∃k,m=k+1:=⟨m-1,by omega⟩
   rw[Y1z,if_neg Om];exact⟨o,G,by omega,f⟩
 | succ k ih =>
   intro i m o u z E J f;obtain⟨m,rfl⟩ :∃k,m=k+1:=⟨m-1,by omega⟩
   by_cases hi:i<F.length
   . rw [Y1z,if_pos Om,idx_nat,List.getElem?_eq_getElem hi,bsome];obtain⟨c,e⟩:=same_tot (F[i]).1 n Om;rw[e,bsome];cases c with
     | true =>
       rw[if_pos rfl,app_ok (by simp only[l03,l09];omega),bsome,chk_succ Om,bsome];exact ih (i+1) m _ Om Om (by simp only[l06,l03,l09];omega) Om (fun x hx=>by
        rcases List.mem_append.1 hx with hx|hx
        . exact f x hx
        obtain rfl:=List.mem_singleton.1 hx;exact(hb _ (l0p hi)).2)
     | false =>
       rw[if_neg Dc,chk_succ Om,bsome];exact ih (i+1) m _ Om Om Om Om f
   rw[Y1z,if_neg Om];exact⟨o,G,by omega,f⟩
theorem get_tot (F:List Fld)(hb:BigF F)(n:Ls):∃l c i,Y4w F n=some (l,(c,i))/\l.length<=60/\∀x∈l,Big x:=by
 have nil:([]:List Ls).length<=60/\∀x∈([]:List Ls),Big x:=⟨by simp,fun x hx=>by cases hx⟩
 unfold Y4w Y4O;rw[validate_eq F hb,bsome];by_cases f:(valR F).1=0
 . obtain⟨E,J,K⟩:=valR_zero f;rw[E];dsimp only;rw[show Y00 ((0:Int),(0:Int))=some (!decide ((0:Int)=0)) from rfl,bsome,if_neg Sm];obtain⟨b,e,hb'⟩:=hname_tot n;rw[e,bsome];cases b with
   | true =>
     rw[if_pos rfl,show Y0f=some (0,0) from rfl,bsome,bsome];dsimp only;rw[show Y00 ((0:Int),(0:Int))=some (!decide ((0:Int)=0)) from rfl,bsome,if_neg Sm];obtain⟨o,ho,u,z⟩:=get_L1 F J hb n (hb' rfl) F.length 0 FU [] Om (FU_gt Om) Sm Om (fun x hx=>by cases hx);have ho':Y1z F n FU [] 0=some o:=ho;rw[ho',bsome,bsome];exact⟨_,_,_,G,u,z⟩
   | false =>
     rw[if_neg Dc,flt_eq,bsome,bsome];dsimp only;rw[show Y00 ((10:Int),(-3:Int))=some (!decide ((10:Int)=0)) from rfl,bsome,if_pos Dc];exact⟨_,_,_,G,nil⟩
 obtain⟨⟨a,b⟩,hv⟩ :∃p,valR F=p:=⟨_,rfl⟩
 rw[hv] at f ⊢;dsimp only;rw[show Y00 (a,b)=some (!decide (a=0)) from rfl,bsome,if_pos (by simpa using f),bsome];dsimp only;rw[show Y00 (a,b)=some (!decide (a=0)) from rfl,bsome,if_pos (by simpa using f)];exact⟨_,_,_,G,nil⟩
theorem mwrite_tot (m:List Fld × Ls)(hb:BigF m.1)(hm:m.2.length<=140737488355328):∃l c i,Y3a m=some (l,(c,i)):=by
 unfold Y3a;obtain⟨a,b,e,h⟩:=mvalid m hb hm;have e':Y1D (m.1,m.2)=some (a,b):=e;rw[e',bsome];dsimp only;rw[show Y00 (a,b)=some (!decide (a=0)) from rfl,bsome];by_cases ha:a=0
 . rw[if_neg (by simp [ha]),mw_eq (m.1,m.2) (h ha).1 hm,bsome,show Y0f=some (0,0) from rfl,bsome];exact⟨_,_,_,G⟩
 rw[if_pos (by simp [ha])];exact⟨_,_,_,G⟩
end Go.Ph.Pf
end
section
namespace Go.Ph.Pf
open Go.Ph.Pl Go.Ph.Wd Go.Ph.Hd Go.Ph.Sg
open Go.Ph.Chs (lowB lower)
abbrev ElT : Type:=Bool × Bool × UInt8
theorem elems_L1 (p:Ls)(hp:p.length<=200):∀(k i m:Nat) (o:List ElT),p.length-i<=k->k<m->o.length<=i->i<=p.length->
 (∃o',Y0b p m o (i:Int)=some (.inl o')/\o'.length<=200)∨Y0b p m o (i:Int)=some (.inr ([],false)):=by
 intro k;induction k with
 | zero =>
   intro i m o E J K M;obtain⟨m,rfl⟩ :∃k,m=k+1:=⟨m-1,by omega⟩
   rw[Y0b,if_neg Om];exact .inl ⟨o,G,by omega⟩
 | succ k ih =>
   intro i m o E J K M;obtain⟨m,rfl⟩ :∃k,m=k+1:=⟨m-1,by omega⟩
   by_cases hi:i<p.length
   . have one :∀x:ElT,app 3 o ([x]:List ElT)=some (o++[x]):=fun x=>app_ok (by simp only[l03,l09];omega)
     have nx :∀x:ElT,(o++[x]).length=o.length+1:=fun x=>by simp
     rw[Y0b,if_pos Om,idx_nat,List.getElem?_eq_getElem hi,bsome];by_cases f:p[i]=42
     . rw[if_pos f,one,bsome,chk_succ Om,bsome];exact ih (i+1) m _ Om Om (by rw[nx];omega) Om
     rw[if_neg f];by_cases u:p[i]=63
     . rw[if_pos u,one,bsome,chk_succ Om,bsome];exact ih (i+1) m _ Om Om (by rw[nx];omega) Om
     rw[if_neg u];by_cases z:p[i]=92
     . rw[if_pos z,chk_succ Om,bsome];by_cases he:i+1=p.length
       . rw[if_pos Om];exact .inr G
       rw[if_neg Om,idx_nat,List.getElem?_eq_getElem (by omega:i+1<p.length),bsome,one,bsome,chk_succ Om,bsome];exact ih (i+1+1) m _ Om Om (by rw[nx];omega) Om
     rw[if_neg z,bsome,one,bsome,chk_succ Om,bsome];exact ih (i+1) m _ Om Om (by rw[nx];omega) Om
   rw[Y0b,if_neg Om];exact .inl ⟨o,G,by omega⟩
theorem elems_tot (p:Ls)(hp:p.length<=200):∃l b,Y2E p=some (l,b)/\l.length<=200:=by
 unfold Y2E;rcases elems_L1 p hp p.length 0 FU [] Om (FU_gt Om) Sm Om with ⟨o,h,hl⟩|h
 . have h':Y0b p FU [] 0=some (.inl o):=h;rw[h',bsome];exact ⟨o,true,rfl,hl⟩
 have h':Y0b p FU [] 0=some (.inr ([],false)):=h;rw[h',bsome];exact ⟨[],false,rfl,by simp⟩
theorem fits_tot (e:ElT)(t s:Ls)(ht:t.length<=4000)(hs:s.length=t.length)(j:Nat):∃b,Y2F e (j:Int) t s=some b/\(b=true->j<t.length):=by
 unfold Y2F;by_cases hj:j<t.length
 . rw[if_pos Om];by_cases f:e.1=true
   . rw[if_pos f,bsome];exact ⟨_,rfl,fun _=>hj⟩
   rw[if_neg f,low_eq (by unfold Big;simp),bsome,chk_succ Om,bsome,cut_of rfl rfl Om Om,bsome,bsome];exact⟨_,G,fun _=>hj⟩
 rw[if_neg Om,bsome];exact ⟨_,rfl,fun h=>by cases h⟩
def cellOk (l:List ElT)(P i:Nat)(nx r:List Bool)(j:Nat):Prop :=
 r.getD j false=true->if h:i<l.length then(if (l[i]).2.1=true then nx.getD j false=true∨(j<P/\r.getD (j+1) false=true) else j<P/\nx.getD (j+1) false=true) else j=P
theorem getD_eq {r:List Bool}{j:Nat}(h:j<r.length):r.getD j false=r[j]:=by rw[l0d,List.getElem?_eq_getElem h];rfl
theorem getD_set {r:List Bool}{j k:Nat}{v:Bool}(h:k<r.length):(r.set k v).getD j false=if k=j then v else r.getD j false:=by
 rw[l0d,l0d,List.getElem?_set];by_cases hk:k=j
 . rw[if_pos hk,if_pos hk,if_pos h];rfl
 rw[if_neg hk,if_neg hk]
theorem row_L2 (l:List ElT)(hl:l.length<=200)(t s:Ls)(ht:t.length<=4000)(hs:s.length=t.length)(C:List (List Bool))(i:Nat)(hi:i<=l.length)(hC:C.length=l.length+1)
 (hn:i<l.length->(C.getD (i+1) []).length=t.length+1) :
 ∀(k m:Nat) (r:List Bool),k<=t.length+1->k<m->r.length=t.length+1->(∀j,k<=j->cellOk l t.length i (C.getD (i+1) []) r j)->
  ∃r',Y0S l t s C (i:Int) m r ((k:Int)-1)=some r'/\r'.length=t.length+1/\∀j,cellOk l t.length i (C.getD (i+1) []) r' j:=by
 intro k;induction k with
 | zero =>
   intro m r z E f u;obtain⟨m,rfl⟩ :∃k,m=k+1:=⟨m-1,by omega⟩
   rw[Y0S,if_neg Om];exact⟨r,G,f,fun j=>u j (l0r _)⟩
 | succ k ih =>
   intro m r z E f u;obtain⟨m,rfl⟩ :∃k,m=k+1:=⟨m-1,by omega⟩
   rw[show ((k+1:Nat):Int)-1=(k:Int) by omega,Y0S,if_pos Om];have hk:k<r.length:=by omega
   have hput :∀v:Bool,put r (k:Int) v=some (r.set k v):=fun v=>by rw[put_ok Om Om,l0b]
   have hrow:idx C (i:Int)=some (C[i]'Om):=by rw[idx_nat,List.getElem?_eq_getElem Om]
   have hcell:idx r (k:Int)=some r[k]:=by rw[idx_nat,List.getElem?_eq_getElem hk]
   have hchk:chk ((k:Int)-1)=some ((k:Int)-1):=chk_ok Om Om;have nx :∀v:Bool,(v=true->if h:i<l.length then(if (l[i]).2.1=true then(C.getD (i+1) []).getD k false=true∨(k<t.length/\r.getD (k+1) false=true) else k<t.length/\(C.getD (i+1) []).getD (k+1) false=true) else k=t.length)->
    ∃r',Y0S l t s C (i:Int) m (r.set k v) ((k:Int)-1)=some r'/\r'.length=t.length+1/\∀j,cellOk l t.length i (C.getD (i+1) []) r' j:=fun v hv=>by
    refine ih m (r.set k v) Om Om (by rw[l0W];exact f) (fun j hj=>?_);unfold cellOk;rw[getD_set hk,getD_set hk,if_neg (by omega :¬k=j+1)];by_cases hkj:k=j
    . subst hkj;rw[if_pos rfl];exact hv
    rw[if_neg hkj];exact u j Om
   by_cases hlast:i=l.length
   . rw[if_pos Om,hrow,bsome,hcell,bsome,hput,bsome,hchk,bsome];refine nx _ (fun h=>?_);rw[dif_neg Om];have:=of_decide_eq_true h;omega
   have hil:i<l.length:=by omega
   have hnx:=hn hil;have hC1:idx C ((i+1:Nat):Int)=some (C.getD (i+1) []):=by rw[idx_nat,List.getElem?_eq_getElem Om,l0d,List.getElem?_eq_getElem Om];rfl
   rw[if_neg Om,idx_nat,List.getElem?_eq_getElem hil,bsome];by_cases hm:(l[i]).2.1=true
   . rw[if_pos hm,hrow,bsome,chk_succ Om,bsome,hC1,bsome,idx_nat,List.getElem?_eq_getElem (by omega:k<(C.getD (i+1) []).length),bsome];by_cases ha:(C.getD (i+1) [])[k]'Om=true
     . rw[if_pos ha,hcell,bsome,hput,bsome,bsome,hchk,bsome];refine nx _ (fun _=>?_);rw[dif_pos hil,if_pos hm];exact .inl (by rw[getD_eq Om];exact ha)
     rw[if_neg ha];by_cases hkt:k<t.length
     . rw[if_pos Om,bsome,chk_succ Om,bsome,idx_nat,List.getElem?_eq_getElem (by omega:k+1<r.length),bsome,hcell,bsome,hput,bsome,bsome,hchk,bsome];refine nx _ (fun h=>?_);rw[dif_pos hil,if_pos hm];exact .inr ⟨hkt,by rw[getD_eq Om];exact h⟩
     rw[if_neg Om,hcell,bsome,hput,bsome,bsome,hchk,bsome];exact nx false (fun h=>by cases h)
   rw[if_neg hm,hrow,bsome,bsome];obtain⟨b,eb,hb⟩:=fits_tot l[i] t s ht hs k;have eb':Y2F ((l[i]).1,(l[i]).2.1,(l[i]).2.2) (k:Int) t s=some b:=eb;rw[eb',bsome];cases b with
   | true =>
     have hkt:=hb rfl;rw[if_pos rfl,chk_succ Om,bsome,hC1,bsome,chk_succ Om,bsome,idx_nat,List.getElem?_eq_getElem (by omega:k+1<(C.getD (i+1) []).length),bsome,hcell,bsome,hput,bsome,bsome,hchk,bsome];refine nx _ (fun h=>?_);rw[dif_pos hil,if_neg hm];exact⟨hkt,by rw[getD_eq Om];exact h⟩
   | false =>
     rw[if_neg Dc,hcell,bsome,hput,bsome,bsome,hchk,bsome];exact nx false (fun h=>by cases h)
theorem getD_setL {C:List (List Bool)}{j k:Nat}{v:List Bool}(h:k<C.length):(C.set k v).getD j []=if k=j then v else C.getD j []:=by
 rw[l0d,l0d,List.getElem?_set];by_cases hk:k=j
 . rw[if_pos hk,if_pos hk,if_pos h];rfl
 rw[if_neg hk,if_neg hk]
def rowOk (l:List ElT)(P:Nat)(C:List (List Bool))(i:Nat):Prop:=(C.getD i []).length=P+1/\∀j,cellOk l P i (C.getD (i+1) []) (C.getD i []) j
theorem tab_L1 (l:List ElT)(hl:l.length<=200)(t s:Ls)(ht:t.length<=4000)(hs:s.length=t.length):
 ∀(k m:Nat) (C:List (List Bool)),k<=l.length+1->k<m->C.length=l.length+1->(∀i,k<=i->i<=l.length->rowOk l t.length C i)->
  ∃C',Y1E l t s m C ((k:Int)-1)=some C'/\C'.length=l.length+1/\∀i,i<=l.length->rowOk l t.length C' i:=by
 intro k;induction k with
 | zero =>
   intro m C K M f u;obtain⟨m,rfl⟩ :∃k,m=k+1:=⟨m-1,by omega⟩
   rw[Y1E,if_neg Om];exact⟨C,G,f,fun i hi=>u i (l0r _) hi⟩
 | succ k ih =>
   intro m C K M f u;obtain⟨m,rfl⟩ :∃k,m=k+1:=⟨m-1,by omega⟩
   have hmk:mkS 1 ((t.length+1:Nat):Int) ((t.length+1:Nat):Int) (false:Bool)=some (List.replicate (t.length+1) false):=by rw[mkS_ok Om Om Om Om,l0b]
   rw[show ((k+1:Nat):Int)-1=(k:Int) by omega,Y1E,if_pos Om,chk_succ Om,bsome,hmk,bsome,idx_nat,List.getElem?_eq_getElem (by omega:k<C.length),bsome];obtain⟨r,e,z,E⟩:=row_L2 l hl t s ht hs C k Om f (fun h=>(u (k+1) Om Om).1) (t.length+1) FU (List.replicate (t.length+1) false) (l07 _) (FU_gt Om) l0Y (fun j hj h=>by
    rw[l0d,List.getElem?_eq_none (by rw[l0Y];exact hj)] at h;cases h)
   rw[show (((t.length+1:Nat):Int)-1)=(t.length:Int) by omega] at e;rw[e,bsome,chk_ok Om Om,bsome,l0b];refine ih m (C.set k r) Om Om (by rw[l0W];exact f) (fun i N J=>?_);unfold rowOk;rw[getD_setL Om,getD_setL Om,if_neg (by omega :¬k=i+1)];by_cases hki:k=i
   . subst hki;rw[if_pos rfl];exact⟨z,E⟩
   rw[if_neg hki];exact u i Om J
theorem piece_L4 (l:List ElT)(P:Nat)(hP:P<=4000)(C:List (List Bool))(i:Nat)(hi:i<l.length)(hC:C.length=l.length+1)(hl:l.length<=200)(hr:rowOk l P C i)(hr':rowOk l P C (i+1))(hm:(l[i]).2.1=true):
 ∀(k j m:Nat),P-j<=k->k<m->(C.getD i []).getD j false=true->∃j':Nat,Y1b C (i:Int) l[i] m (j:Int)=some (j':Int)/\j<=j'/\j'<=P/\(C.getD (i+1) []).getD j' false=true:=by
 have hC1:idx C ((i+1:Nat):Int)=some (C.getD (i+1) []):=by rw[idx_nat,List.getElem?_eq_getElem Om,l0d,List.getElem?_eq_getElem Om];rfl
 have inr :∀j,(C.getD i []).getD j false=true->j<=P:=fun j h=>by
  have u:=hr.1;by_cases hj:j<(C.getD i []).length
  . omega
  rw[l0d,List.getElem?_eq_none Om] at h;cases h
 intro k;induction k with
 | zero =>
   intro j m u E f;obtain⟨m,rfl⟩ :∃k,m=k+1:=⟨m-1,by omega⟩
   have hj:=inr j f;have z:=hr'.1;have c:=hr.2 j f;rw[dif_pos hi,if_pos hm] at c;have c':(C.getD (i+1) []).getD j false=true:=by
    rcases c with c|c
    . exact c
    omega
   rw[Y1b,if_pos hm,chk_succ Om,bsome,hC1,bsome,idx_nat,List.getElem?_eq_getElem (by omega:j<(C.getD (i+1) []).length),bsome,bsome,if_neg (by rw[←getD_eq Om,c'];decide)];exact⟨j,G,l07 _,hj,c'⟩
 | succ k ih =>
   intro j m u E f;obtain⟨m,rfl⟩ :∃k,m=k+1:=⟨m-1,by omega⟩
   have hj:=inr j f;have z:=hr'.1;have c:=hr.2 j f;rw[dif_pos hi,if_pos hm] at c;rw[Y1b,if_pos hm,chk_succ Om,bsome,hC1,bsome,idx_nat,List.getElem?_eq_getElem (by omega:j<(C.getD (i+1) []).length),bsome,bsome];by_cases ha:(C.getD (i+1) []).getD j false=true
   . rw[if_neg (by rw[←getD_eq Om,ha];decide)];exact⟨j,G,l07 _,hj,ha⟩
   rw[if_pos (by rw[←getD_eq Om];simpa using ha),chk_succ Om,bsome];rcases c with c|⟨O,J⟩
   . exact absurd c ha
   obtain⟨j',K,U,M,N⟩:=ih (j+1) m Om Om J;exact⟨j',K,by omega,M,N⟩
theorem pieces_L3 (l:List ElT)(hl:l.length<=200)(t:Ls)(ht:t.length<=4000)(C:List (List Bool))(hC:C.length=l.length+1)(hr :∀i,i<=l.length->rowOk l t.length C i):
 ∀(k i m j:Nat) (o:List Ls),l.length-i<=k->k<m->i<=l.length->j<=t.length->(C.getD i []).getD j false=true->o.length<=i->(∀x∈o,x.length<=4000)->
  ∃o',Y0T l t C m o (j:Int) (i:Int)=some o'/\o'.length<=200/\∀x∈o',x.length<=4000:=by
 intro k;induction k with
 | zero =>
   intro i m j o U V E Y J Z f;obtain⟨m,rfl⟩ :∃k,m=k+1:=⟨m-1,by omega⟩
   rw[Y0T,if_neg Om];exact⟨o,G,by omega,f⟩
 | succ k ih =>
   intro i m j o U V E Y J Z f;obtain⟨m,rfl⟩ :∃k,m=k+1:=⟨m-1,by omega⟩
   by_cases hi:i<l.length
   . rw [Y0T,if_pos Om,idx_nat,List.getElem?_eq_getElem hi,bsome];have key :∃(a b:Nat),Y1b C (i:Int) l[i] FU (j:Int)=some (a:Int)/\(if (l[i]).2.1=true then some (a:Int) else(chk ((a:Int)+1)).bind fun K=>some K)=some (b:Int)/\j<=b/\b<=t.length/\(C.getD (i+1) []).getD b false=true:=by
      by_cases hm:(l[i]).2.1=true
      . obtain⟨j',M,N,e3,e4⟩:=piece_L4 l t.length ht C i hi hC hl (hr i E) (hr (i+1) hi) hm t.length j FU Om (FU_gt Om) J;exact⟨j',j',M,by rw[if_pos hm],N,e3,e4⟩
      have c:=(hr i E).2 j J;rw[dif_pos hi,if_neg hm] at c;refine⟨j,j+1,?_,by rw[if_neg hm,chk_succ Om,bsome],by omega,c.1,c.2⟩;obtain⟨q,hq⟩ :∃q,FU=q+1:=⟨FU-1,by rw[FU_eq]⟩
      rw[hq,Y1b,if_neg hm,bsome,if_neg Dc]
     obtain⟨a,b,M,N,O,u,z⟩:=key;rw[M,bsome,N,bsome];have key :∃c,(if (l[i]).2.1=true then some true else some (l[i]).1)=some c:=by split <;> exact⟨_,rfl⟩
     obtain⟨c,ec⟩:=key;rw[ec,bsome];cases c with
     | true =>
       rw[if_pos rfl,cut_of rfl rfl O u,bsome,app_ok (by simp only[l03,l09];omega),bsome,chk_succ Om,bsome];refine ih (i+1) m b _ Om Om Om u z (by simp only[l06,l03,l09];omega) (fun x hx=>?_);rcases List.mem_append.1 hx with hx|hx
       . exact f x hx
       obtain rfl:=List.mem_singleton.1 hx;simp;omega
     | false =>
       rw[if_neg Dc,chk_succ Om,bsome];exact ih (i+1) m b o Om Om Om u z Om f
   rw[Y0T,if_neg Om];exact⟨o,G,by omega,f⟩
theorem wild_tot (l:List ElT)(hl:l.length<=200)(t:Ls)(ht:t.length<=4000):∃b ps,Y3F l t=some (b,ps)/\ps.length<=200/\∀x∈ps,x.length<=4000:=by
 unfold Y3F;have hmk:mkS 24 ((l.length+1:Nat):Int) ((l.length+1:Nat):Int) ([]:List Bool)=some (List.replicate (l.length+1) []):=by rw[mkS_ok Om Om Om Om,l0b]
 rw[low_eq (by unfold Big;omega),bsome,chk_succ Om,bsome,hmk,bsome];obtain⟨C,e,hC,hr⟩:=tab_L1 l hl t (lower t) ht (low_len t) (l.length+1) FU (List.replicate (l.length+1) []) (l07 _) (FU_gt Om) l0Y (fun i K M=>by omega);rw[show (((l.length+1:Nat):Int)-1)=(l.length:Int) by omega] at e;rw[e,bsome];have f:=hr 0 (l0r _);have hC0:idx C 0=some (C.getD 0 []):=by
  rw[show (0:Int)=((0:Nat):Int) from rfl,idx_nat,List.getElem?_eq_getElem Om,l0d,List.getElem?_eq_getElem Om];rfl
 have hC00:idx (C.getD 0 []) 0=some ((C.getD 0 [])[0]'(by rw[f.1];omega)):=by
  rw[show (0:Int)=((0:Nat):Int) from rfl,idx_nat,List.getElem?_eq_getElem (by rw[f.1];omega)]
 rw[hC0,bsome,hC00,bsome];by_cases ha:(C.getD 0 [])[0]'(by rw[f.1];omega)=true
 . rw[if_pos ha];obtain⟨o,z,E,J⟩:=pieces_L3 l hl t ht C hC hr l.length 0 FU 0 [] Om (FU_gt Om) Om Om (by rw[getD_eq (by rw[f.1];omega)];exact ha) Sm (fun x hx=>by cases hx);have u:Y0T l t C FU [] 0 0=some o:=z;rw[u,bsome];exact⟨true,o,G,E,J⟩
 rw[if_neg ha];exact⟨false,[],G,by simp,fun x hx=>by cases hx⟩
theorem match_all (k:Int)(p t:Ls)(ht:t.length<=9000000000000000000):∃b ps c i,Y2W k p t=some (b,ps,(c,i))/\ps.length<=200/\∀x∈ps,x.length<=4000:=by
 have nil:([]:List Ls).length<=200/\∀x∈([]:List Ls),x.length<=4000:=⟨by simp,fun x hx=>by cases hx⟩
 unfold Y2W;have key :∃b',(if k<(1:Int) then some true else some (decide ((3:Int)<k)))=some b':=by split <;> exact⟨_,rfl⟩
 obtain⟨b',e'⟩:=key;rw[e',bsome];cases b' with
 | true=>rw[if_pos rfl,flt_eq,bsome];exact ⟨_,_,_,_,rfl,nil⟩
 | false =>
   rw[if_neg Dc];by_cases hp:(200:Int)<(p.length:Int)
   . rw[if_pos hp,flt_eq,bsome];exact ⟨_,_,_,_,rfl,nil⟩
   rw[if_neg hp];obtain⟨l,b,e,hl⟩:=elems_tot p Om;rw[e,bsome];dsimp only;have key :∃b',(if k=(3:Int) then some (!b) else some false)=some b':=by split <;> exact⟨_,rfl⟩
   obtain⟨b',e'⟩:=key;rw[e',bsome];cases b' with
   | true =>
     rw[if_pos rfl,chk_ok Om Om,bsome,flt_eq,bsome];exact ⟨_,_,_,_,rfl,nil⟩
   | false =>
     rw[if_neg Dc];by_cases f:(4000:Int)<(t.length:Int)
     . rw[if_pos f,flt_eq,bsome];exact ⟨_,_,_,_,rfl,nil⟩
     rw[if_neg f];by_cases u:k=1
     . rw[if_pos u,same_eq (by unfold Big;omega) (by unfold Big;omega),bsome,show Y0f=some (0,0) from rfl,bsome];exact ⟨_,_,_,_,rfl,nil⟩
     rw[if_neg u];by_cases z:k=2
     . rw[if_pos z,low_eq (by unfold Big;omega),bsome,low_eq (by unfold Big;omega),bsome];rw[show Y0P (lower t) (lower p)=some (Lib.contains (lower t) (lower p)) by unfold Y0P;rw [if_pos (by rw[low_len];omega)],bsome,show Y0f=some (0,0) from rfl,bsome];exact⟨_,_,_,_,G,nil⟩
     rw[if_neg z];obtain⟨M,ps,E,J,K⟩:=wild_tot l hl t Om;rw[E,bsome,show Y0f=some (0,0) from rfl,bsome];exact⟨_,_,_,_,G,J,K⟩
end Go.Ph.Pf
end
section
namespace Go.Ph.Pf
open Go.Ph.Pl Go.Ph.Wd Go.Ph.Hd Go.Ph.Sg
def MI (m:MapT):Prop:=((m.1.map (·.1.1)).Nodup/\(m.1.map (·.2)).Nodup/\∀x∈m.1,x.2<m.2)/\∀x∈m.1,x.1.1≠ []/\x.1.2.length<=4000
theorem MI.nil : MI ([],0):=⟨⟨List.nodup_nil,List.nodup_nil,fun x hx=>by cases hx⟩,fun x hx=>by cases hx⟩
theorem mSet_some {k v:Ls}:∀{l l':List MapE},mSet k v l=some l'->l'.map (·.1.1)=l.map (·.1.1)/\l'.map (·.2)=l.map (·.2)/\∀x∈l',x∈l∨x.1=(k,v)
 | [],l',h=>by cases h
 | x :: l,l',h=>by
   unfold mSet at h;by_cases hk:x.1.1=k
   . rw[if_pos hk] at h;cases h;refine⟨by simp [hk],by simp,fun y hy=>?_⟩;rcases List.mem_cons.1 hy with rfl|hy
     . exact .inr G
     exact .inl (l0F _ hy)
   rw[if_neg hk] at h;obtain⟨q,hq,rfl⟩:=Option.map_eq_some_iff.1 h;obtain⟨f,u,z⟩:=mSet_some hq;refine⟨by simp [f],by simp [u],fun y hy=>?_⟩;rcases List.mem_cons.1 hy with rfl|hy
   . exact .inl (l0J ..)
   rcases z y hy with h|h
   . exact .inl (l0F _ h)
   exact .inr h
theorem mSet_none {k v:Ls}:∀{l:List MapE},mSet k v l=none->k∉l.map (·.1.1)
 | [],_=>by simp
 | x::l,h=>by
   unfold mSet at h;by_cases hk:x.1.1=k
   . rw[if_pos hk] at h;cases h
   rw[if_neg hk] at h;have:=mSet_none (Option.map_eq_none_iff.1 h);rw[l0a,l0H];exact fun h=>h.elim (fun e=>hk e.symm) this
theorem MI.put {m:MapT}(h:MI m){k v:Ls}(hk:k≠ [])(hv:v.length<=4000):MI (mapPut m k v):=by
 obtain⟨⟨u,z,f⟩,E⟩:=h;unfold mapPut;cases hs:mSet k v m.1 with
 | some l =>
   obtain⟨K,J,M⟩:=mSet_some hs;refine⟨⟨by rw[K];exact u,by rw[J];exact z,fun x hx=>?_⟩,fun x hx=>?_⟩
   . have:x.2∈m.1.map (·.2):=by rw[←J];exact List.mem_map_of_mem hx
     obtain⟨y,hy,e⟩:=List.mem_map.1 this;rw[←e];exact f y hy
   rcases M x hx with h|h
   . exact E x h
   rw[h];exact ⟨hk,hv⟩
 | none =>
   have g:=mSet_none hs;refine⟨⟨?_,?_,fun x hx=>?_⟩,fun x hx=>?_⟩
   . rw[l0B,List.nodup_append];refine⟨u,by simp,fun a ha b hb=>?_⟩;have:b=k:=by simpa using hb
     rw[this];exact fun e=>g (e ▸ ha)
   . rw[l0B,List.nodup_append];refine⟨z,by simp,fun a ha b hb=>?_⟩;have:b=m.2:=by simpa using hb
     obtain⟨y,hy,e⟩:=List.mem_map.1 ha;have:=f y hy;have e':y.2=a:=e;omega
   . show x.2<m.2+1
     rcases List.mem_append.1 hx with h|h
     . have:=f x h;omega
     rw[List.mem_singleton.1 h];exact l04 _
   rcases List.mem_append.1 hx with h|h
   . exact E x h
   rw[List.mem_singleton.1 h];exact ⟨hk,hv⟩
theorem MI.del {m:MapT}(h:MI m):∃m',Y31 m=some m'/\MI m':=by
 obtain⟨⟨f,u,z⟩,E⟩:=h;unfold Y31;rw[if_pos]
 . refine⟨_,G,⟨f.sublist (List.filter_sublist.map _),u.sublist (List.filter_sublist.map _),fun x hx=>z x (List.mem_filter.1 hx).1⟩,fun x hx=>E x (List.mem_filter.1 hx).1⟩
 rw[l0h];refine⟨by unfold mapOk;exact decide_eq_true ⟨f,u,z⟩,?_⟩;rw[List.all_eq_true];intro x hx;have:=(E x hx).1;unfold Y0W
 match hk:x.1.1,this with
 | a::l,_ =>
   rw[show idx (a::l) 0=some a from rfl,bsome];split
   . rfl
   rfl
theorem mFind_mem {k v:Ls}:∀{l:List MapE},mFind k l=some v->∃x∈l,x.1.2=v
 | [],h=>by cases h
 | x::l,h=>by
   unfold mFind at h;by_cases hk:x.1.1=k
   . rw[if_pos hk] at h;cases h;exact ⟨x,l0J ..,rfl⟩
   rw[if_neg hk] at h;obtain⟨y,hy,e⟩:=mFind_mem h;exact⟨y,l0F _ hy,e⟩
theorem MI.get {m:MapT}(h:MI m)(k:Ls):(mapGet m k).length<=4000:=by
 unfold mapGet;cases hf:mFind k m.1 with
 | none=>simp
 | some v =>
   obtain⟨x,hx,e⟩:=mFind_mem hf;have:=(h.2 x hx).2;rw[e] at this;exact this
theorem itoa_ne (n:Nat):itoaP (n:Int)≠ []:=by
 unfold itoaP;rw[if_neg Om,dgF];split
 . simp
 simp
theorem pieces_put (ps:List Ls)(hps:ps.length<=200)(hx :∀x∈ps,x.length<=4000)(a b:Ls)(n:Int):
 ∀(k i m:Nat) (mp:MapT),ps.length-i<=k->k<m->MI mp->∃mp',Y0y ps m a b n mp (i:Int)=some (a,b,n,mp')/\MI mp':=by
 intro k;induction k with
 | zero =>
   intro i m mp u z f;obtain⟨m,rfl⟩ :∃k,m=k+1:=⟨m-1,by omega⟩
   rw[Y0y,if_neg Om];exact⟨mp,G,f⟩
 | succ k ih =>
   intro i m mp u z f;obtain⟨m,rfl⟩ :∃k,m=k+1:=⟨m-1,by omega⟩
   by_cases hi:i<ps.length
   . rw[Y0y,if_pos Om,idx_nat,List.getElem?_eq_getElem hi,bsome,chk_succ Om,bsome];rw[show strconv_Itoa ((i+1:Nat):Int)=some (itoaP ((i+1:Nat):Int)) by unfold strconv_Itoa;rw [if_pos Om],bsome,bsome];exact ih (i+1) m _ Om Om (f.put (itoa_ne _) (hx _ (l0p hi)))
   rw[Y0y,if_neg Om];exact⟨mp,G,f⟩
abbrev RnT : Type:=Ls × List Rcp × Ls × List Fld × Ls × Int × MapT × Unit × Unit
abbrev RnR : Type:=Ls × Unit × Ls × Unit × Unit × Int × MapT × Unit × Unit
def okM (k:Int)(p s:Ls):Bool:=match Y2W k p s with|some (b,_,(c,_))=>decide (c=0)&&b|none=>false
theorem match_run (t:TT)(l:List Ls)(hl:l.length<=1000)(hb :∀x∈l,Big x)(a b:Ls)(n:Int):
 ∀(k i m:Nat) (mp:MapT),l.length-i<=k->k<m->MI mp->
  ∃mp',MI mp'/\Y0z t l m a b n mp (i:Int)=some (if (l.drop i).any (okM t.2.2.2.1 t.2.2.2.2.1)=true then .inr (true,(a,(),b,(),(),n,mp',(),())) else .inl (a,b,n,mp')):=by
 intro k;induction k with
 | zero =>
   intro i m mp K M f;obtain⟨m,rfl⟩ :∃k,m=k+1:=⟨m-1,by omega⟩
   rw[Y0z,if_neg Om,l0q Om];exact⟨mp,f,G⟩
 | succ k ih =>
   intro i m mp K M f;obtain⟨m,rfl⟩ :∃k,m=k+1:=⟨m-1,by omega⟩
   by_cases hi:i<l.length
   . rw[Y0z,if_pos Om,idx_nat,List.getElem?_eq_getElem hi,bsome];have hbig:(l[i]).length<=140737488355328:=hb _ (l0p hi);obtain⟨ok,ps,c,j,e,N,O⟩:=match_all t.2.2.2.1 t.2.2.2.2.1 l[i] Om;have hok:okM t.2.2.2.1 t.2.2.2.2.1 l[i]=(decide (c=0)&&ok):=by unfold okM;rw [e]
     rw[e,bsome];dsimp only;rw[show Y00 (c,j)=some (!decide (c=0)) from rfl,bsome,drop_cons hi,l1i,hok];by_cases hc:c=0
     . rw[if_neg (by simp [hc]),bsome,decide_eq_true hc,Bool.true_and];cases ok with
       | true =>
         rw[if_neg Dc,Bool.true_or];by_cases u:t.2.2.2.1=3
         . obtain⟨z,U,V⟩:=f.del;obtain⟨E,Y,Z⟩:=pieces_put ps N O a b n ps.length 0 FU z Om (FU_gt Om) V;have J:Y0y ps FU a b n z 0=some (a,b,n,E):=Y;rw[if_pos u,U,bsome,J,bsome];exact⟨E,Z,G⟩
         rw[if_neg u];exact⟨mp,f,G⟩
       | false =>
         rw[if_pos Dc,chk_succ Om,bsome,l0N];exact ih (i+1) m mp Om Om f
     rw[if_pos (by simp [hc]),bsome,if_pos rfl,chk_succ Om,bsome,decide_eq_false hc,Bool.false_and,l0N];exact ih (i+1) m mp Om Om f
   rw[Y0z,if_neg Om,l0q Om];exact⟨mp,f,G⟩
theorem match_ans (a:Ls)(tr:List Rcp)(b:Ls)(F:List Fld)(B:Ls)(n:Int)(mp:MapT)(t:TT)(l:List Ls)(hl:l.length<=1000)(hb :∀x∈l,Big x)(hm:MI mp):
 ∃mp',MI mp'/\Y0N (a,tr,b,F,B,n,mp,(),()) t l=some (l.any (okM t.2.2.2.1 t.2.2.2.2.1),(a,(),b,(),(),n,mp',(),())):=by
 unfold Y0N;obtain⟨mp',u,z⟩:=match_run t l hl hb a b n l.length 0 FU mp Om (FU_gt Om) hm;have f:Y0z t l FU a b n mp 0=_:=z;dsimp only;rw[f,bsome,l0s];refine⟨mp',u,?_⟩;cases l.any (okM t.2.2.2.1 t.2.2.2.2.1) <;> rfl
def getF (F:List Fld)(n:Ls):List Ls:=match Y4w F n with|some (l,_)=>l|none=>[]
def gT (a:Ls)(tr:List Rcp)(F:List Fld)(n:Int)(k:KyT):Bool :=
 if k.1=5 then(getF F k.2.1).any (okM k.2.2.1 k.2.2.2.1)
 else if k.1=6 then [a].any (okM k.2.2.1 k.2.2.2.1)
 else if k.1=7 then(tr.map (·.1)).any (okM k.2.2.1 k.2.2.2.1)
 else if k.1=8 then decide (k.2.2.2.2<n)
 else decide (0<(getF F k.2.1).length)
theorem fields_ans (a:Ls)(tr:List Rcp)(b:Ls)(F:List Fld)(B:Ls)(n:Int)(mp:MapT)(hb:BigF F)(x:Ls):
 Y1Q (a,tr,b,F,B,n,mp,(),()) x=some (getF F x,(a,(),b,(),(),n,mp,(),()))/\(getF F x).length<=60/\∀y∈getF F x,Big y:=by
 obtain⟨l,c,i,e,f,u⟩:=get_tot F hb x;have hg:getF F x=l:=by unfold getF;rw [e]
 rw[hg];unfold Y1Q;dsimp only;rw[e,bsome];exact⟨G,f,u⟩
theorem to_L2 (p:RnT)(hl:p.2.1.length<=60):∀(k i m:Nat),p.2.1.length-i<=k->k<m->i<=p.2.1.length->Y0C p m ((p.2.1.take i).map (·.1)) (i:Int)=some (p.2.1.map (·.1)):=by
 intro k;induction k with
 | zero =>
   intro i m f u z;obtain⟨m,rfl⟩ :∃k,m=k+1:=⟨m-1,by omega⟩
   rw[Y0C,if_neg Om,l0z Om]
 | succ k ih =>
   intro i m f u z;obtain⟨m,rfl⟩ :∃k,m=k+1:=⟨m-1,by omega⟩
   by_cases hi:i<p.2.1.length
   . rw[Y0C,if_pos Om,idx_nat,List.getElem?_eq_getElem hi,bsome,app_ok (by simp only[l0g,l0k,l03,l09];omega),bsome,chk_succ Om,bsome];rw[show ((p.2.1.take i).map (·.1)++[(p.2.1[i]).1]:List Ls)=(p.2.1.take (i+1)).map (·.1) by rw[l0O hi,l0B];rfl];exact ih (i+1) m Om Om Om
   rw[Y0C,if_neg Om,l0z Om]
abbrev TeF : Type:=RnT->TT->Option (Bool × RnR)
theorem test_L1r (self:TeF)(a:Ls)(tr:List Rcp)(b:Ls)(F:List Fld)(B:Ls)(n:Int)(E:MapT)(t:TT)(hl:t.2.1.length<=60)(v:TT->Bool)
 (hs :∀x∈t.2.1,∀mp,MI mp->∃mp',MI mp'/\self (a,tr,b,F,B,n,mp,(),()) x.out=some (v x.out,(a,(),b,(),(),n,mp',(),()))) :
 ∀(k i m:Nat) (mp:MapT),t.2.1.length-i<=k->k<m->MI mp->
  ∃mp',MI mp'/\Y0B self (a,tr,b,F,B,n,E,(),()) t m a b n mp (i:Int)=some (if (t.2.1.drop i).any (fun x=>v x.out == decide (t.1=4))=true then .inr (decide (t.1=4),(a,(),b,(),(),n,mp',(),())) else .inl (a,b,n,mp')):=by
 intro k;induction k with
 | zero =>
   intro i m mp K M f;obtain⟨m,rfl⟩ :∃k,m=k+1:=⟨m-1,by omega⟩
   rw[Y0B,if_neg Om,l0q Om];exact⟨mp,f,G⟩
 | succ k ih =>
   intro i m mp K M f;obtain⟨m,rfl⟩ :∃k,m=k+1:=⟨m-1,by omega⟩
   by_cases hi:i<t.2.1.length
   . rw[Y0B,if_pos Om,idx_nat,List.getElem?_eq_getElem hi,bsome];obtain⟨z,J,N⟩:=hs _ (l0p hi) mp f;have u:self (a,tr,b,F,B,n,mp,(),()) ((t.2.1[i]).out.1,(t.2.1[i]).out.2.1,(t.2.1[i]).out.2.2.1,(t.2.1[i]).out.2.2.2.1,(t.2.1[i]).out.2.2.2.2.1,(t.2.1[i]).out.2.2.2.2.2)=some (v (t.2.1[i]).out,(a,(),b,(),(),n,z,(),())):=N;dsimp only at u ⊢;rw[u,bsome,drop_cons hi,l1i];dsimp only;by_cases hv:v (t.2.1[i]).out=decide (t.1=4)
     . rw[if_pos hv,hv];exact⟨z,J,by simp⟩
     have hv':(v (t.2.1[i]).out == decide (t.1=4))=false:=by simpa using hv
     rw[if_neg hv,chk_succ Om,bsome,hv',l0N];exact ih (i+1) m z Om Om J
   rw[Y0B,if_neg Om,l0q Om];exact⟨mp,f,G⟩
theorem test_run (a:Ls)(ha:Big a)(tr:List Rcp)(hto:tr.length<=60)(V :∀x∈tr,Big x.1)(b:Ls)(F:List Fld)(hF:BigF F)(B:Ls)(n:Int):
 ∀(d m:Nat) (t:TT) (mp:MapT),d<=m->VT d t->MI mp->∃mp',MI mp'/\Y0H m (a,tr,b,F,B,n,mp,(),()) t=some (tvl (gT a tr F n) d t,(a,(),b,(),(),n,mp',(),()))
 | 0,m,t,mp,_,hv,_=>hv.elim
 | d + 1,m,t,mp,hm,hv,hmp=>by
   obtain⟨m,rfl⟩ :∃q,m=q+1:=⟨m-1,by omega⟩
   obtain⟨h1,h9,hin,hx⟩:=hv;have hlen:=inn_len hin;have ih :∀x∈t.2.1,∀mp,MI mp->∃mp',MI mp'/\Y0H m (a,tr,b,F,B,n,mp,(),()) x.out=some (tvl (gT a tr F n) d x.out,(a,(),b,(),(),n,mp',(),())) :=
    fun x hx' mp h=>test_run a ha tr hto V b F hF B n d m x.out mp Om (hx x hx') h
   rw[Y0H,Y2O];unfold tvl;by_cases z:t.1=2
   . rw[if_pos z,if_neg Om,if_pos z];have hone:=hin.1 z
     match hts:t.2.1,hone with
     | [x],_ =>
       obtain⟨J,K,E⟩:=ih x (by rw[hts];simp) mp hmp;have hix:idx [x] 0=some x:=rfl;rw[hix,bsome];dsimp only at E ⊢;rw[E,bsome];refine⟨J,K,?_⟩;simp
   rw[if_neg z];by_cases O:t.1=3∨t.1=4
   . have e8:(if t.1=(3:Int) then some (decide (t.1=(3:Int))) else some (decide (t.1=(4:Int))))=some true:=by
      by_cases f:t.1=3
      . rw[if_pos f,decide_eq_true f]
      rw[if_neg f,decide_eq_true (O.resolve_left f)]
     rw[e8,bsome,if_pos rfl];obtain⟨J,K,E⟩:=test_L1r (Y0H m) a tr b F B n mp t hlen (tvl (gT a tr F n) d) ih t.2.1.length 0 FU mp Om (FU_gt Om) hmp;have u:Y0B (Y0H m) (a,tr,b,F,B,n,mp,(),()) t FU a b n mp 0=_:=E;dsimp only at u ⊢;rw[u,bsome,l0s];refine⟨J,K,?_⟩;rcases O with f|M
     . have k1 :¬t.1=1:=by omega
       rw[if_neg k1,if_neg z,if_pos f,decide_eq_false (by omega :¬t.1=4),decide_eq_true f];have:(t.2.1.any fun x=>tvl (gT a tr F n) d x.out == false) = !(t.2.1.all fun x=>tvl (gT a tr F n) d x.out):=by
        rw[l1m];congr 1
        funext x
        cases tvl (gT a tr F n) d x.out <;> rfl
       rw[this];cases(t.2.1.all fun x=>tvl (gT a tr F n) d x.out) <;> rfl
     have k1 :¬t.1=1:=by omega
     have f :¬t.1=3:=by omega
     rw[if_neg k1,if_neg z,if_neg f,if_pos M,decide_eq_true M,decide_eq_false (by omega :¬t.1=3)];have:(t.2.1.any fun x=>tvl (gT a tr F n) d x.out == true)=(t.2.1.any fun x=>tvl (gT a tr F n) d x.out):=by
      congr 1
      funext x
      cases tvl (gT a tr F n) d x.out <;> rfl
     rw[this];cases(t.2.1.any fun x=>tvl (gT a tr F n) d x.out) <;> rfl
   have f:t.1≠3:=fun h=>O (.inl h)
   have M:t.1≠4:=fun h=>O (.inr h)
   rw[if_neg f,bsome,decide_eq_false M,if_neg Dc];by_cases N:t.1=5
   . obtain⟨f1,f2,f3⟩:=fields_ans a tr b F B n mp hF t.2.2.1;obtain⟨J,K,E⟩:=match_ans a tr b F B n mp t (getF F t.2.2.1) Om f3 hmp;have u:Y0N (a,tr,b,F,B,n,mp,(),()) (t.1,t.2.1,t.2.2.1,t.2.2.2.1,t.2.2.2.2.1,t.2.2.2.2.2) (getF F t.2.2.1)=_:=E;rw[if_pos N];dsimp only;rw[f1,bsome];dsimp only;rw[u,bsome];refine⟨J,K,?_⟩;rw[if_neg Om,if_neg z,if_neg f,if_neg M];unfold gT kyT;dsimp only;rw[if_pos N]
   rw[if_neg N];by_cases U:t.1=6
   . obtain⟨J,K,E⟩:=match_ans a tr b F B n mp t [a] Sm (fun x hx=>by rw[List.mem_singleton.1 hx];exact ha) hmp;have u:Y0N (a,tr,b,F,B,n,mp,(),()) (t.1,t.2.1,t.2.2.1,t.2.2.2.1,t.2.2.2.2.1,t.2.2.2.2.2) [a]=_:=E;rw[if_pos U];dsimp only;rw[u,bsome];refine⟨J,K,?_⟩;rw[if_neg Om,if_neg z,if_neg f,if_neg M];unfold gT kyT;dsimp only;rw[if_neg N,if_pos U]
   rw[if_neg U];by_cases Y:t.1=7
   . obtain⟨J,K,E⟩:=match_ans a tr b F B n mp t (tr.map (·.1)) (by rw[l0g];omega) (fun x hx=>by obtain⟨y,hy,e⟩:=List.mem_map.1 hx;rw [←e];exact V y hy) hmp;have u:Y0N (a,tr,b,F,B,n,mp,(),()) (t.1,t.2.1,t.2.2.1,t.2.2.2.1,t.2.2.2.2.1,t.2.2.2.2.2) (tr.map (·.1))=_:=E;have hto':Y0C (a,tr,b,F,B,n,mp,(),()) FU [] 0=some (tr.map (·.1)):=to_L2 (a,tr,b,F,B,n,mp,(),()) hto tr.length 0 FU (by dsimp only;omega) (FU_gt Om) Om;rw[if_pos Y,hto',bsome];dsimp only;rw[u,bsome];refine⟨J,K,?_⟩;rw[if_neg Om,if_neg z,if_neg f,if_neg M];unfold gT kyT;dsimp only;rw[if_neg N,if_neg U,if_pos Y]
   rw[if_neg Y];by_cases Z:t.1=8
   . rw[if_pos Z];refine⟨mp,hmp,?_⟩;rw[if_neg Om,if_neg z,if_neg f,if_neg M];unfold gT kyT;dsimp only;rw[if_neg N,if_neg U,if_neg Y,if_pos Z]
   rw[if_neg Z];by_cases k9:t.1=9
   . obtain⟨f1,f2,f3⟩:=fields_ans a tr b F B n mp hF t.2.2.1;rw[if_pos k9];dsimp only;rw[f1,bsome];refine⟨mp,hmp,?_⟩;rw[if_neg Om,if_neg z,if_neg f,if_neg M];unfold gT kyT;dsimp only;rw[if_neg N,if_neg U,if_neg Y,if_neg Z];congr 2;rw[decide_eq_decide];omega
   rw[if_neg k9,if_pos Om];exact⟨mp,hmp,G⟩
theorem cut_two (s sub:Ls)(hs:s.length<=1000)(hsub:sub.length<=10):∃a b c,Y34 s sub=some (a,b,c)/\a.length<=s.length/\(c=true->b.length+sub.length<=s.length)/\b.length<=s.length:=by
 unfold Y34 Y2G;rw[show Y1r s sub=some (Lib.index s sub) by unfold Y1r;rw [if_pos Om],bsome];by_cases f:(0:Int)<=Lib.index s sub
 . obtain⟨j,hj⟩:=l0m f;have hb:=index_bound s sub hj;rw[if_pos f,hj,cut_to rfl Om,bsome,chk_addN _ Om,bsome,cut_from rfl Om,bsome,bsome];exact⟨_,_,_,G,by simp;omega,fun _=>by simp;omega,by simp⟩
 rw[if_neg f,bsome];exact⟨_,_,_,G,l07 _,(fun h=>by cases h),l0r _⟩
theorem expand_L1 (p:RnT)(hp:MI p.2.2.2.2.2.2.1):∀(k m:Nat) (s o:Ls),s.length<=k->k<m->s.length<=1000->o.length+5000*s.length<=5000000->∃o',Y11 p m s o=some o'/\o'.length<=10000000:=by
 intro k;induction k using Nat.strongRecOn with
 | _ k ih =>
   intro m s o h1 h2 z h4;obtain⟨m,rfl⟩ :∃k,m=k+1:=⟨m-1,by omega⟩
   rw[Y11];obtain⟨x1,E,f,J,x4,K,x6⟩:=cut_two s [36,123] z Sm;rw[J,bsome];dsimp only;obtain⟨M,N,u,O,y4,U,y6⟩:=cut_two E [125] Om Sm;rw[O,bsome];dsimp only;have key :∃b',(if f=true then some (!u) else some true)=some b'/\(b'=false->f=true/\u=true):=by
    cases f <;> cases u <;> exact⟨_,rfl,by simp⟩
   obtain⟨b',e',hb⟩:=key;rw[e',bsome];unfold Y19;cases b' with
   | true =>
     rw[if_pos rfl,app_ok Om,bsome,bsome];exact⟨_,G,by rw[l06];omega⟩
   | false =>
     obtain⟨V,Y⟩:=hb rfl;have Z:=K V;have z2:=U Y;simp only[l03,l09] at Z z2;have hg:=hp.get M;rw[if_neg Dc,cat_ok Om,bsome,app_ok (by rw[l06];omega),bsome,bsome];exact ih (s.length-1) Om m N _ Om Om Om (by rw[l06,l06];omega)
theorem expand_tot (a:Ls)(tr:List Rcp)(b:Ls)(F:List Fld)(B:Ls)(n:Int)(mp:MapT)(hm:MI mp)(s:Ls)(hs:s.length<=200):
 ∃t,Y0I (a,tr,b,F,B,n,mp,(),()) s=some (t,(a,(),b,(),(),n,mp,(),()))/\t.length<=4000:=by
 unfold Y0I;obtain⟨o,e,ho⟩:=expand_L1 (a,tr,b,F,B,n,mp,(),()) hm s.length FU s [] (l07 _) (FU_gt Om) Om (by simp;omega);rw[e,bsome];unfold Y2p;rw[bsome,show min (o.length:Int) 4000=((min o.length 4000:Nat):Int) by omega,cut_to rfl Om,bsome];exact⟨_,G,by rw[l0k];omega⟩
end Go.Ph.Pf
end
section
namespace Go.Ph.Pf
open Go.Ph.Pl
def exL (sub:List BT90->List Int × Bool)(g:KyT->Bool):List BT90->List Int × Bool
 | []=>([],true)
 | x::s =>
   if x.out.1=1 then
    if (sub (if tvl g 9 (rT x.out)=true then rThen x.out else rElse x.out)).2=true then((sub (if tvl g 9 (rT x.out)=true then rThen x.out else rElse x.out)).1++(exL sub g s).1,(exL sub g s).2)
    else((sub (if tvl g 9 (rT x.out)=true then rThen x.out else rElse x.out)).1,false)
   else if x.out.1=2 then(rAct x.out::(exL sub g s).1,(exL sub g s).2)
   else if x.out.1=4 then([],false)
   else exL sub g s
def ex (g:KyT->Bool):Nat->List BT90->List Int × Bool
 | 0=>fun _=>([],true)
 | n+1=>exL (ex g n) g
theorem exL_len {sub:List BT90->List Int × Bool}{g:KyT->Bool}{S:List BT90->Nat}:∀{s:List BT90},(∀x∈s,(sub (rThen x.out)).1.length<=S (rThen x.out)/\(sub (rElse x.out)).1.length<=S (rElse x.out))->(exL sub g s).1.length<=sumR S s
 | [],_=>l0r _
 | x :: s,h=>by
   have ih:=exL_len (sub:=sub) (g:=g) (S:=S) (s:=s) (fun y hy=>h y (by simp [hy]));obtain⟨E,J⟩:=h x Sm;rw[sumR_cons];unfold exL;by_cases f:x.out.1=1
   . rw[if_pos f];by_cases kt:tvl g 9 (rT x.out)=true
     . simp only[if_pos kt];split
       . simp only[l06];omega
       dsimp only;omega
     simp only[if_neg kt];split
     . simp only[l06];omega
     dsimp only;omega
   rw[if_neg f];by_cases u:x.out.1=2
   . rw[if_pos u];simp only[l03];omega
   rw[if_neg u];by_cases z:x.out.1=4
   . rw[if_pos z];simp
   rw[if_neg z];omega
theorem ex_len (g:KyT->Bool):∀(n:Nat) (s:List BT90),(ex g n s).1.length<=SZ n s
 | 0,s=>l07 _
 | n+1,s=>exL_len (S:=SZ n) (fun x hx=>⟨ex_len g n _,ex_len g n _⟩)
abbrev Act3 : Type:=Int × Ls × Int
def acts (k:List Int):List Act3:=k.map (fun q=>(q,[],0))
theorem acts_app (a b:List Int):acts (a++b)=acts a++acts b:=l0B ..
theorem acts_len (a:List Int):(acts a).length=a.length:=l0g ..
abbrev TrS : Type:=List BT88 × Int × List Bool × List Act3
abbrev ExF : Type:=TrS->List BT90->Int->Option (Bool × (Unit × Int × List Bool × List Act3))
theorem exec_loop (self:ExF)(l:List BT88)(O:l.length<=10)(o:Nat)(ho:o<=1000000)(n:Nat)(hn:n<=8)(g:KyT->Bool)(hg:g=asg l o)(s:List BT90)
 (hok :∀x∈s,OkR x.out/\VR n (rThen x.out)/\VR n (rElse x.out)) (hin :∀x∈s,x.out.1=1->InT l 9 (rT x.out))
 (hs :∀x∈s,∀q:List BT90,(q=rThen x.out∨q=rElse x.out)->∀(rc:List Bool) (ac:List Act3) (num:Nat),num+SZ n q<=rc.length->rc.length<=100->ac.length+SZ n q<=200->
  ∃rc',self (l,(o:Int),rc,ac) q (num:Int)=some ((ex g n q).2,((),(o:Int),rc',ac++acts (ex g n q).1))/\rc'.length=rc.length)
 (J:TrS) (K:J.1=l) (hslen:s.length<=1000) :
 ∀ (k i m:Nat) (rc:List Bool) (ac:List Act3) (num:Nat),s.length-i<=k->k<m->i<=s.length->num+sumR (SZ n) (s.drop i)<=rc.length->rc.length<=100->ac.length+sumR (SZ n) (s.drop i)<=200->
  ∃rc',rc'.length=rc.length/\Y0g self J s m (o:Int) rc ac (num:Int) (i:Int) =
   some (if (exL (ex g n) g (s.drop i)).2=true then .inl ((o:Int),rc',ac++acts (exL (ex g n) g (s.drop i)).1) else .inr (false,((),(o:Int),rc',ac++acts (exL (ex g n) g (s.drop i)).1)))
 | 0,i,m,rc,ac,num,h1,h2,h3,hb,hc,hd=>by
   obtain⟨m,rfl⟩ :∃k,m=k+1:=⟨m-1,by omega⟩
   obtain rfl:i=s.length:=by omega
   rw[Y0g,if_neg Om,l0t];exact⟨rc,G,by simp [exL,acts]⟩
 | k + 1, i,m,rc,ac,num,h1,h2,h3,hb,hc,hd=>by
   obtain⟨m,rfl⟩ :∃k,m=k+1:=⟨m-1,by omega⟩
   by_cases hi:i<s.length
   . have hx:=l0p hi;obtain⟨⟨ah,ai,hkt,hkp⟩,hvt,hve⟩:=hok _ hx;rw[drop_cons hi,sumR_cons] at hb hd;rw[drop_cons hi];have a0:SZ n (rThen (s[i]).out)<=100:=by omega
     have a3:SZ n (rElse (s[i]).out)<=100:=by omega
     have hsT:Y0L (s[i]).out.2.2.2.2.2.2.2.1=some (SZ n (rThen (s[i]).out):Int):=size_eq hn hvt a0;have hsE:Y0L (s[i]).out.2.2.2.2.2.2.2.2.1=some (SZ n (rElse (s[i]).out):Int):=size_eq hn hve a3;obtain⟨rb,hrb⟩ :∃rb,rc[num]? = some rb:=⟨_,List.getElem?_eq_getElem Om⟩
     have hput:put rc (num:Int) true=some (rc.set num true):=by unfold put;rw [if_pos Om,l0b]
     rw[Y0g,if_pos Om,idx_nat,List.getElem?_eq_getElem hi,bsome,idx_nat,hrb,bsome,hput,bsome];have hrl:(rc.set num true).length=rc.length:=l0W
     -- behind the rule
     have next :∀(f:List Bool) (u:List Act3),f.length=rc.length->u.length+sumR (SZ n) (s.drop (i+1))<=200->∃rc',rc'.length=rc.length/\
      ((Y0L (s[i]).out.2.2.2.2.2.2.2.1).bind fun a4=>(chk ((1:Int)+a4)).bind fun a5=>(Y0L (s[i]).out.2.2.2.2.2.2.2.2.1).bind fun a6=>(chk (a5+a6)).bind fun a7=>(chk ((num:Int)+a7)).bind fun a8=>(chk ((i:Int)+1)).bind fun a9=>Y0g self J s m (o:Int) f u a8 a9) =
      some (if (exL (ex g n) g (s.drop (i+1))).2=true then .inl ((o:Int),rc',u++acts (exL (ex g n) g (s.drop (i+1))).1) else .inr (false,((),(o:Int),rc',u++acts (exL (ex g n) g (s.drop (i+1))).1))):=fun f u hrc hac=>by
      rw[hsT,bsome,chk_ok Om Om,bsome,hsE,bsome,chk_ok Om Om,bsome,chk_ok Om Om,bsome,chk_succ Om,bsome];obtain⟨rc',M,z⟩:=exec_loop self l O o ho n hn g hg s hok hin hs J K hslen k (i+1) m f u (num+(1+SZ n (rThen (s[i]).out)+SZ n (rElse (s[i]).out))) Om Om Om Om Om hac;refine⟨rc',by omega,?_⟩;rw[show ((num:Int)+(1+(SZ n (rThen (s[i]).out):Int)+(SZ n (rElse (s[i]).out):Int)))=((num+(1+SZ n (rThen (s[i]).out)+SZ n (rElse (s[i]).out)):Nat):Int) by omega];exact z
     unfold exL;by_cases N:(s[i]).out.1=1
     . have hh:Y3T (J.1,(o:Int),(),()) ((s[i]).out.2.1,(s[i]).out.2.2.1,(s[i]).out.2.2.2.1,(s[i]).out.2.2.2.2.1,(s[i]).out.2.2.2.2.2.1,(s[i]).out.2.2.2.2.2.2.1)=some (tvl g 9 (rT (s[i]).out)):=by
        rw[K,hg];exact holds_R l O o ho 9 FU (rT (s[i]).out) (by rw[FU_eq];omega) (hkt N) (hin _ hx N)
       rw[if_pos N,if_pos N,chk_succ Om,bsome,hh,bsome];cases htv:tvl g 9 (rT (s[i]).out) with
       | true =>
         rw[if_pos rfl,bsome];dsimp only;obtain⟨f,Z,a2⟩:=hs _ hx _ (.inl rfl) (rc.set num true) ac (num+1) Om Om Om;have U:self (J.1,(o:Int),rc.set num true,ac) (s[i]).out.2.2.2.2.2.2.2.1 ((num+1:Nat):Int)=some ((ex g n (rThen (s[i]).out)).2,((),(o:Int),f,ac++acts (ex g n (rThen (s[i]).out)).1)):=by rw[K];exact Z
         have hlen:=ex_len g n (rThen (s[i]).out);rw[U,bsome];dsimp only;simp only[if_true];cases E:(ex g n (rThen (s[i]).out)).2 with
         | true =>
           rw[if_pos rfl,bsome];dsimp only;obtain⟨rc',M,z⟩:=next f (ac++acts (ex g n (rThen (s[i]).out)).1) Om (by rw[l06,acts_len];omega);refine⟨rc',M,?_⟩;rw[z];simp [acts_app,E]
         | false =>
           rw[if_neg Dc,bsome];refine⟨f,by omega,?_⟩;simp [E]
       | false =>
         rw[if_neg Dc,chk_succ Om,bsome,hsT,bsome,chk_ok Om Om,bsome,bsome];dsimp only;obtain⟨f,Z,a2⟩:=hs _ hx _ (.inr rfl) (rc.set num true) ac (num+1+SZ n (rThen (s[i]).out)) Om Om Om;have U:self (J.1,(o:Int),rc.set num true,ac) (s[i]).out.2.2.2.2.2.2.2.2.1 (((num+1:Nat):Int)+(SZ n (rThen (s[i]).out):Int))=some ((ex g n (rElse (s[i]).out)).2,((),(o:Int),f,ac++acts (ex g n (rElse (s[i]).out)).1)):=by
          rw[K,show (((num+1:Nat):Int)+(SZ n (rThen (s[i]).out):Int))=((num+1+SZ n (rThen (s[i]).out):Nat):Int) by omega];exact Z
         have hlen:=ex_len g n (rElse (s[i]).out);rw[U,bsome];dsimp only;simp only[l0e,if_false];cases E:(ex g n (rElse (s[i]).out)).2 with
         | true =>
           rw[if_pos rfl,bsome];dsimp only;obtain⟨rc',M,z⟩:=next f (ac++acts (ex g n (rElse (s[i]).out)).1) Om (by rw[l06,acts_len];omega);refine⟨rc',M,?_⟩;rw[hsT,chk_succ (i:=i) Om] at z;rw[z];simp [acts_app,E]
         | false =>
           rw[if_neg Dc,bsome];refine⟨f,by omega,?_⟩;simp [E]
     rw[if_neg N,if_neg N];by_cases V:(s[i]).out.1=2
     . rw[if_pos V,if_pos V];have hap:app 32 ac ([((s[i]).out.2.2.2.2.2.2.2.2.2.1,[],0)]:List Act3)=some (ac++[(rAct (s[i]).out,[],0)]):=app_ok (by simp only[l03,l09];omega);rw[hap,bsome,bsome];dsimp only;obtain⟨rc',M,z⟩:=next (rc.set num true) (ac++[(rAct (s[i]).out,[],0)]) hrl (by simp only[l06,l03,l09];omega);refine⟨rc',M,?_⟩;rw[z];simp [acts]
     rw[if_neg V,if_neg V];by_cases Y:(s[i]).out.1=4
     . rw[if_pos Y,if_pos Y,bsome];exact⟨rc.set num true,hrl,by simp [acts]⟩
     rw[if_neg Y,if_neg Y,bsome];dsimp only;exact next (rc.set num true) ac hrl Om
   obtain rfl:i=s.length:=by omega
   rw[Y0g,if_neg Om,l0t];exact⟨rc,G,by simp [exL,acts]⟩
theorem exec_R (l:List BT88)(f:l.length<=10)(o:Nat)(ho:o<=1000000):∀(n m:Nat) (s:List BT90) (rc:List Bool) (ac:List Act3) (num:Nat),n<=8->n<m->VR n s->SZ n s<=100->InR l n s->num+SZ n s<=rc.length->rc.length<=100->ac.length+SZ n s<=200->
 ∃rc',Y0x m (l,(o:Int),rc,ac) s (num:Int)=some ((ex (asg l o) n s).2,((),(o:Int),rc',ac++acts (ex (asg l o) n s).1))/\rc'.length=rc.length
 | 0,m,s,rc,ac,num,_,hm,hv,_,_,_,_,_=>by
   obtain⟨m,rfl⟩ :∃q,m=q+1:=⟨m-1,by omega⟩
   have:s=[]:=hv;subst this;rw[Y0x,Y1V];obtain⟨q,hq⟩ :∃q,FU=q+1:=⟨FU-1,by rw[FU_eq]⟩
   rw[hq,Y0g,if_neg Sm,bsome];exact⟨rc,by simp [ex,acts],G⟩
 | n+1,m,s,rc,ac,num,V,hm,hv,hz,hin,hb,hc,hd=>by
   obtain⟨m,rfl⟩ :∃q,m=q+1:=⟨m-1,by omega⟩
   have hlen:=sz_len hv;have hsz:SZ (n+1) s=sumR (SZ n) s:=rfl;have hpart :∀x∈s,1+SZ n (rThen x.out)+SZ n (rElse x.out)<=sumR (SZ n) s:=fun x hx=>by
    clear hb hv hlen hz hsz hin hd;induction s with
    | nil=>cases hx
    | cons a s ih =>
      rw[sumR_cons];rcases List.mem_cons.1 hx with rfl|hx
      . omega
      have:=ih hx;omega
   rw[Y0x,Y1V];obtain⟨rc',O,U⟩:=exec_loop (Y0x m) l f o ho n Om (asg l o) rfl s hv (fun x hx=>(hin x hx).1) (fun x hx q hq z E u K M N=>by
    have:=hpart x hx;rcases hq with rfl|rfl
    . exact exec_R l f o ho n m _ z E u Om Om (hv x hx).2.1 Om (hin x hx).2.1 K M N
    exact exec_R l f o ho n m _ z E u Om Om (hv x hx).2.2 Om (hin x hx).2.2 K M N) (l,(o:Int),rc,ac) G Om s.length 0 FU rc ac num Om (FU_gt Om) Om (by rw[l0s];omega) hc (by rw[l0s];omega)
   have J:Y0g (Y0x m) (l,(o:Int),rc,ac) s FU (o:Int) rc ac (num:Int) 0=_:=U;rw[l0s] at J;dsimp only;rw[J,bsome];refine⟨rc',?_,O⟩;show _=some ((exL (ex (asg l o) n) (asg l o) s).2,((),(o:Int),rc',ac++acts (exL (ex (asg l o) n) (asg l o) s).1))
   cases(exL (ex (asg l o) n) (asg l o) s).2 with
   | true=>rfl
   | false=>rfl
end Go.Ph.Pf
end
section
namespace Go.Ph.Pf
open Go.Ph.Pl
def decA (a:Act3):Bool:=decide (a.1≠6/\a.1≠7)
def kepA (a:Act3):Bool:=decide (a.1=1∨a.1=2)
theorem decided_eq (l:List Act3)(hl:l.length<=1000):Y1Y l=some (l.any decA):=by
 have:=scan0 (L:=Y15 l) (l:=l) (p:=decA) (stop := .inl ()) (r := .inr true) (m:=FU) (FU_gt Om) (fun m=>by rw[Y15,if_neg Om]) (fun m i h=>by
  rw[Y15,if_pos Om,idx_nat,List.getElem?_eq_getElem h,bsome];unfold decA;by_cases f:(l[i]).1=6
  . rw[if_pos f,bsome,if_neg Dc,if_neg (by simp [f]),chk_succ Om,bsome]
  rw[if_neg f,bsome];by_cases u:(l[i]).1=7
  . rw[if_neg (by simp [u]),if_neg (by simp [u]),chk_succ Om,bsome]
  rw[if_pos (by simp [u]),if_pos (by simp [f,u])])
 unfold Y1Y;rw[this,bsome];cases l.any decA <;> rfl
theorem kept1_eq (a:Act3):Y1k a=some (kepA a):=by
 unfold Y1k kepA;by_cases f:a.1=1
 . rw[if_pos f,bsome];simp [f]
 rw[if_neg f,bsome];simp [f]
theorem contains_act (l:List Act3)(hl:l.length<=1000):Y1c l Y1k=some (l.any kepA):=by
 unfold Y1c Y28;rcases scanP (Y0e l Y1k) l (fun i x=>if kepA x=true then some (.inr (i:Int)) else none) (.inl ()) (fun m=>by rw[Y0e,if_neg Om]) (fun m i h=>by
  rw[Y0e,if_pos Om,idx_nat,List.getElem?_eq_getElem h,bsome];have hk:Y1k ((l[i]).1,(l[i]).2.1,(l[i]).2.2)=some (kepA l[i]):=kept1_eq l[i];rw[hk,bsome];by_cases hp:kepA l[i]=true
  . rw[if_pos hp,if_pos hp]
  rw[if_neg hp,if_neg hp,chk_succ Om,bsome]) l.length 0 FU Om (FU_gt Om) Om with ⟨j,hj,r,_,f,_,E⟩|⟨f,J⟩
 . have hp:kepA l[j]=true:=by
    by_cases hp:kepA l[j]=true
    . exact hp
    rw[if_neg hp] at f;cases f
   rw[if_pos hp] at f;cases f;have u:Y0e l Y1k FU 0=_:=E;rw[u,bsome,bsome,List.any_eq_true.2 ⟨l[j],l0p hj,hp⟩];simp
 have z:Y0e l Y1k FU 0=_:=J;have:l.any kepA=false:=by
  rw[l1X];intro x hx;obtain⟨i,hi,rfl⟩:=l0P hx;have:=f i hi Om;intro hp;rw[if_pos hp] at this;cases this
 rw[z,bsome,bsome,this];rfl
theorem keeps1_eq (l:List Act3)(hl:l.length<=1000)(b:Bool):Y3D l b=some (b&&(l.any kepA || !l.any decA)):=by
 unfold Y3D;rw[contains_act l hl,bsome,decided_eq l hl,bsome];cases b <;> cases l.any kepA <;> rfl
def okA (g:KyT->Bool)(s:List BT90):Bool:=(acts (ex g 8 s).1).any kepA || !(acts (ex g 8 s).1).any decA
theorem all_loop (s:List BT90)(hv:VR 8 s)(hz:SZ 8 s<=100)(l:List BT88)(hl:l.length<=10)(hin:InR l 8 s)(N:Nat)(hN:N<=1024):
 ∀(k i m:Nat) (b:Bool) (rc:List Bool),N-i<=k->k<m->rc.length=SZ 8 s->
  ∃rc' b',Y2c s l (N:Int) m b rc (i:Int)=some (rc',b')/\(b'=true->b=true/\∀o,i<=o->o<N->okA (asg l o) s=true)
 | 0,i,m,b,rc,K,M,O=>by
   obtain⟨m,rfl⟩ :∃k,m=k+1:=⟨m-1,by omega⟩
   rw[Y2c,if_neg Om];exact⟨rc,b,G,fun h=>⟨h,fun o f z=>by omega⟩⟩
 | k + 1,i,m,b,rc,K,M,O=>by
   obtain⟨m,rfl⟩ :∃k,m=k+1:=⟨m-1,by omega⟩
   by_cases hi:i<N
   . rw[Y2c,if_pos Om];obtain⟨u,U,e2⟩:=exec_R l hl i Om 8 FU s rc [] 0 (l07 _) (FU_gt Dc) hv hz hin Om Om (by simp;omega);have E:Y3k (l,(i:Int),rc,([]:List Act3)) s 0=some ((ex (asg l i) 8 s).2,((),(i:Int),u,[]++acts (ex (asg l i) 8 s).1)):=U;rw[E,bsome];dsimp only;have hlen:=ex_len (asg l i) 8 s;rw[l02,keeps1_eq _ (by rw[acts_len];omega),bsome,chk_succ Om,bsome];obtain⟨J,V,Y,Z⟩:=all_loop s hv hz l hl hin N hN k (i+1) m (b&&((acts (ex (asg l i) 8 s).1).any kepA || !(acts (ex (asg l i) 8 s).1).any decA)) u Om Om Om;refine⟨J,V,Y,fun h=>?_⟩;obtain⟨g1,g2⟩:=Z h;obtain⟨g3,g4⟩:=Bool.and_eq_true_iff.1 g1;refine⟨g3,fun o f z=>?_⟩;rcases l1P f with rfl|f
     . exact g4
     exact g2 o f z
   rw[Y2c,if_neg Om];exact⟨rc,b,G,fun h=>⟨h,fun o f z=>by omega⟩⟩
theorem keeps_tot (s:List BT90)(hv:VR 8 s)(hz:SZ 8 s<=100)(hc:CR 8 s<=100000)(u:Int)(hval:Y1h s=some (0,u)):
 ∃b c i,Y4y s=some (b,(c,i))/\(b=true->∃l:List BT88,l.length<=10/\InR l 8 s/\∀o,o<2 ^ l.length->okA (asg l o) s=true):=by
 unfold Y4y Y5Y;rw[hval,bsome];dsimp only;rw[show Y00 ((0:Int),u)=some (!decide ((0:Int)=0)) from rfl,bsome,if_neg Sm];obtain⟨l,K,U,_,z⟩:=tests_R 8 FU s [] (FU_gt Dc) hv hz (by simpa using hc);have E:Y5P ([]:List BT88) s=some l:=K;rw[E,bsome];by_cases f:(10:Int)<(l.length:Int)
 . rw[if_pos f,flt_eq,bsome,bsome];exact⟨false,17,-4,G,fun h=>by cases h⟩
 rw[if_neg f,size_eq (l07 _) hv hz,bsome];have hmk:mkS 1 (SZ 8 s:Int) (SZ 8 s:Int) (false:Bool)=some (List.replicate (SZ 8 s) false):=by rw[mkS_ok Om Om Om Om,l0b]
 have hp:2 ^ l.length<=1024:=l0A (Nat.pow_le_pow_right Dc (show l.length<=10 by omega)) Dc;have hsh:shlI 1 (l.length:Int)=some ((2 ^ l.length:Nat):Int):=by
  unfold shlI;rw[l0b,Int.one_mul,show ((2:Int) ^ l.length)=((2 ^ l.length:Nat):Int) by simp];rw[if_pos ⟨by decide,by omega,by omega,by have M:((2 ^ l.length:Nat):Int)<=1024:=Int.ofNat_le.2 hp;exact Int.lt_of_le_of_lt M Dc⟩]
 rw[hmk,bsome,hsh,bsome];obtain⟨rc',b',N,O⟩:=all_loop s hv hz l Om z (2 ^ l.length) hp (2 ^ l.length) 0 FU true (List.replicate (SZ 8 s) false) (Nat.sub_le _ _) (FU_gt (l0A hp Dc)) (l0Y ..);have J:Y2c s l ((2 ^ l.length:Nat):Int) FU true (List.replicate (SZ 8 s) false) 0=some (rc',b'):=N;rw[J,bsome];dsimp only;rw[show Y0f=some (0,0) from rfl,bsome,bsome];dsimp only;cases b' with
 | true =>
   rw[if_pos rfl,show Y00 ((0:Int),(0:Int))=some (!decide ((0:Int)=0)) from rfl,bsome,bsome];exact⟨_,_,_,G,fun _=>⟨l,by omega,z,fun o ho=>(O G).2 o (l0r _) ho⟩⟩
 | false =>
   rw[if_neg Dc,bsome];exact⟨_,_,_,G,fun h=>by cases h⟩
end Go.Ph.Pf
end
section
namespace Go.Ph.Pf
open Go.Ph.Pl
theorem same_refl (l:List Act3)(hl:l.length<=1000):Y1i l l=some true:=by
 have hL :∀(k i m:Nat),l.length-i<=k->k<m->i<=l.length->Y0a l l m (i:Int)=some (.inl ()):=by
  intro k;induction k with
  | zero =>
    intro i m f u z;obtain⟨m,rfl⟩ :∃k,m=k+1:=⟨m-1,by omega⟩
    rw[Y0a,if_neg Om]
  | succ k ih =>
    intro i m f u z;obtain⟨m,rfl⟩ :∃k,m=k+1:=⟨m-1,by omega⟩
    by_cases hi:i<l.length
    . rw[Y0a,if_pos Om,idx_nat,List.getElem?_eq_getElem hi,bsome,bsome,if_pos ⟨rfl,rfl,rfl⟩,chk_succ Om,bsome];exact ih (i+1) m Om Om Om
    rw[Y0a,if_neg Om]
 unfold Y1i;have h:Y0a l l FU 0=some (.inl ()):=hL l.length 0 FU Om (FU_gt Om) Om;rw[if_pos rfl,h,bsome]
end Go.Ph.Pf
end
section
namespace Go.Ph.Pf
open Go.Ph.Pl Go.Ph.Wd Go.Ph.Hd Go.Ph.Sg
theorem exL_cons (sub:List BT90->List Int × Bool)(g:KyT->Bool)(x:BT90)(s:List BT90):exL sub g (x::s) =
 if x.out.1=1 then
  if (sub (if tvl g 9 (rT x.out)=true then rThen x.out else rElse x.out)).2=true then((sub (if tvl g 9 (rT x.out)=true then rThen x.out else rElse x.out)).1++(exL sub g s).1,(exL sub g s).2)
  else((sub (if tvl g 9 (rT x.out)=true then rThen x.out else rElse x.out)).1,false)
 else if x.out.1=2 then(rAct x.out::(exL sub g s).1,(exL sub g s).2)
 else if x.out.1=4 then([],false)
 else exL sub g s:=rfl
def actOk (x:Act3):Prop:=1<=x.1/\x.1<=7/\x.2.1.length<=4000/\0<=x.2.2/\x.2.2<=63
abbrev St3 : Type:=Int × Bool × Ls
abbrev RxT (X:Type):Type:=Ls × List Rcp × Ls × List Fld × Ls × Int × MapT × List Act3 × X
abbrev RxR (X:Type):Type:=Ls × Unit × Ls × Unit × Unit × Int × MapT × List Act3 × X
abbrev RxF (X:Type):Type:=RxT X->List BT90->Int->Option (Bool × RxR X)
def XOk (a:Ls)(tr:List Rcp)(b:Ls)(F:List Fld)(B:Ls)(n:Int)(self:RxF Unit)(selfe:RxF (List St3))(S:Nat)(E:List Int × Bool)(s:List BT90):Prop :=
 ∀ (mp:MapT) (ac:List Act3) (num:Nat),MI mp->num+S<=1000->ac.length+S<=1000->
  ∃mp' nw,MI mp'/\nw.map (·.1)=E.1/\(∀x∈nw,actOk x)/\self (a,tr,b,F,B,n,mp,ac,()) s (num:Int)=some (E.2,(a,(),b,(),(),n,mp',ac++nw,()))/\
   ∀st:List St3,st.length+S<=1000->∃st',st'.length<=st.length+S/\selfe (a,tr,b,F,B,n,mp,ac,st) s (num:Int)=some (E.2,(a,(),b,(),(),n,mp',ac++nw,st'))
theorem note_ok (x:St3)(st:List St3)(h:st.length<=1000):Y2w x st=some (st++[x]):=by
 unfold Y2w;rw[app_ok (by simp only[l03,l09];omega),bsome]
theorem run_loop (a:Ls)(ha:Big a)(tr:List Rcp)(hto:tr.length<=60)(Y :∀x∈tr,Big x.1)(b:Ls)(F:List Fld)(hF:BigF F)(B:Ls)(n:Int)(self:RxF Unit)(selfe:RxF (List St3))(d:Nat)(hd:d<=8)(g:KyT->Bool)(hg:g=gT a tr F n)(s:List BT90)(hslen:s.length<=1000)
 (hok :∀x∈s,OkR x.out/\VR d (rThen x.out)/\VR d (rElse x.out))
 (hs :∀x∈s,∀q:List BT90,(q=rThen x.out∨q=rElse x.out)->SZ d q<=100->XOk a tr b F B n self selfe (SZ d q) (ex g d q) q) (J:MapT) (K:List Act3) (Z:List St3)
 (hz :∀x∈s,SZ d (rThen x.out)<=100/\SZ d (rElse x.out)<=100) :
 ∀ (k i m:Nat) (mp:MapT) (ac:List Act3) (num:Nat),s.length-i<=k->k<m->i<=s.length->MI mp->num+sumR (SZ d) (s.drop i)<=1000->ac.length+sumR (SZ d) (s.drop i)<=1000->
  ∃ mp' nw,MI mp'/\nw.map (·.1)=(exL (ex g d) g (s.drop i)).1/\(∀x∈nw,actOk x)/\
   Y04 self (a,tr,b,F,B,n,J,K,()) s m a b n mp ac (num:Int) (i:Int)=some (if (exL (ex g d) g (s.drop i)).2=true then .inl (a,b,n,mp',ac++nw) else .inr (false,(a,(),b,(),(),n,mp',ac++nw,())))/\
   ∀st:List St3,st.length+sumR (SZ d) (s.drop i)<=1000->∃st',st'.length<=st.length+sumR (SZ d) (s.drop i)/\
    Y02 selfe (a,tr,b,F,B,n,J,K,Z) s m a b n mp ac st (num:Int) (i:Int)=some (if (exL (ex g d) g (s.drop i)).2=true then .inl (a,b,n,mp',ac++nw,st') else .inr (false,(a,(),b,(),(),n,mp',ac++nw,st')))
 | 0,i,m,mp,ac,num,h1,h2,h3,hm,hb,hc=>by
   obtain⟨m,rfl⟩ :∃k,m=k+1:=⟨m-1,by omega⟩
   obtain rfl:i=s.length:=by omega
   rw[Y04,if_neg Om,l0t];refine⟨mp,[],hm,G,(fun x hx=>by cases hx),by simp [exL],fun st hst=>⟨st,l1k _ _,?_⟩⟩;rw[Y02,if_neg Om];simp [exL]
 | k + 1, i,m,mp,ac,num,h1,h2,h3,hm,hb,hc=>by
   obtain⟨m,rfl⟩ :∃k,m=k+1:=⟨m-1,by omega⟩
   by_cases hi:i<s.length
   . have hx:=l0p hi;obtain⟨⟨br,bs,hkt,hkp⟩,hvt,hve⟩:=hok _ hx;obtain⟨al,am⟩:=hz _ hx;rw[drop_cons hi,sumR_cons] at hb hc;rw[drop_cons hi,sumR_cons];have hsT:Y0L (s[i]).out.2.2.2.2.2.2.2.1=some (SZ d (rThen (s[i]).out):Int):=size_eq hd hvt al;have hsE:Y0L (s[i]).out.2.2.2.2.2.2.2.2.1=some (SZ d (rElse (s[i]).out):Int):=size_eq hd hve am
     -- behind the rule
     have next :∀(M:MapT) (u:List Act3),MI M->u.length+sumR (SZ d) (s.drop (i+1))<=1000->∃mp' nw,MI mp'/\nw.map (·.1)=(exL (ex g d) g (s.drop (i+1))).1/\(∀x∈nw,actOk x)/\
      ((Y0L (s[i]).out.2.2.2.2.2.2.2.1).bind fun a0=>(chk ((1:Int)+a0)).bind fun a1=>(Y0L (s[i]).out.2.2.2.2.2.2.2.2.1).bind fun a2=>(chk (a1+a2)).bind fun a3=>(chk ((num:Int)+a3)).bind fun a4=>(chk ((i:Int)+1)).bind fun a5=>Y04 self (a,tr,b,F,B,n,J,K,()) s m a b n M u a4 a5) =
       some (if (exL (ex g d) g (s.drop (i+1))).2=true then .inl (a,b,n,mp',u++nw) else .inr (false,(a,(),b,(),(),n,mp',u++nw,())))/\
      ∀ st:List St3,st.length+sumR (SZ d) (s.drop (i+1))<=1000->∃st',st'.length<=st.length+sumR (SZ d) (s.drop (i+1))/\
       ((Y0L (s[i]).out.2.2.2.2.2.2.2.1).bind fun a0=>(chk ((1:Int)+a0)).bind fun a1=>(Y0L (s[i]).out.2.2.2.2.2.2.2.2.1).bind fun a2=>(chk (a1+a2)).bind fun a3=>(chk ((num:Int)+a3)).bind fun a4=>(chk ((i:Int)+1)).bind fun a5=>Y02 selfe (a,tr,b,F,B,n,J,K,Z) s m a b n M u st a4 a5) =
        some (if (exL (ex g d) g (s.drop (i+1))).2=true then .inl (a,b,n,mp',u++nw,st') else .inr (false,(a,(),b,(),(),n,mp',u++nw,st'))):=fun M u av hac=>by
      rw[hsT,bsome,chk_ok Om Om,bsome,hsE,bsome,chk_ok Om Om,bsome,chk_ok Om Om,bsome,chk_succ Om,bsome];have e:((num:Int)+(1+(SZ d (rThen (s[i]).out):Int)+(SZ d (rElse (s[i]).out):Int)))=((num+(1+SZ d (rThen (s[i]).out)+SZ d (rElse (s[i]).out)):Nat):Int):=by omega
      obtain⟨mp',nw,g1,g2,g3,g4,g5⟩:=run_loop a ha tr hto Y b F hF B n self selfe d hd g hg s hslen hok hs J K Z hz k (i+1) m M u (num+(1+SZ d (rThen (s[i]).out)+SZ d (rElse (s[i]).out))) Om Om Om av Om hac;rw[e];refine⟨mp',nw,g1,g2,g3,g4,fun st hst=>?_⟩;obtain⟨st',w1,w2⟩:=g5 st hst;refine⟨st',w1,?_⟩;rw[bsome,chk_ok Om Om,bsome,bsome,chk_ok Om Om,bsome,e,chk_ok Om Om,bsome,bsome];exact w2
     by_cases f:(s[i]).out.1=1
     . -- if
       obtain⟨m1,q1,q2⟩:=test_run a ha tr hto Y b F hF B n 9 FU (rT (s[i]).out) mp (by rw[FU_eq];omega) (hkt f) hm;rw[←hg] at q2;have N:Y3b (a,tr,b,F,B,n,mp,(),()) ((s[i]).out.2.1,(s[i]).out.2.2.1,(s[i]).out.2.2.2.1,(s[i]).out.2.2.2.2.1,(s[i]).out.2.2.2.2.2.1,(s[i]).out.2.2.2.2.2.2.1)=some (tvl g 9 (rT (s[i]).out),(a,(),b,(),(),n,m1,(),())):=q2;generalize hv:tvl g 9 (rT (s[i]).out)=v at N;have hpart :∃(q:List BT90) (num':Nat),(q=rThen (s[i]).out∨q=rElse (s[i]).out)/\SZ d q<=100/\num'+SZ d q<=num+1+SZ d (rThen (s[i]).out)+SZ d (rElse (s[i]).out)/\(if tvl g 9 (rT (s[i]).out)=true then rThen (s[i]).out else rElse (s[i]).out)=q/\
        (if v=true then some ((s[i]).out.2.2.2.2.2.2.2.1,((num+1:Nat):Int)) else(some ((num+1:Nat):Int)).bind fun ay=>(Y0L (s[i]).out.2.2.2.2.2.2.2.1).bind fun az=>(chk (ay+az)).bind fun b0=>some ((s[i]).out.2.2.2.2.2.2.2.2.1,b0))=some (q,(num':Int)):=by
        cases v with
        | true=>exact⟨rThen (s[i]).out,num+1, .inl rfl,al,by omega,by rw[if_pos hv],by rw[if_pos rfl]⟩
        | false =>
          refine⟨rElse (s[i]).out,num+1+SZ d (rThen (s[i]).out), .inr G,am,by omega,by rw[if_neg (by rw[hv];decide)],?_⟩;rw[if_neg Dc,bsome,hsT,bsome,chk_ok Om Om,bsome,←Int.natCast_add]
       obtain⟨q,num',c1,c2,c3,c4,c5⟩:=hpart;have hszq:SZ d q<=SZ d (rThen (s[i]).out)+SZ d (rElse (s[i]).out):=by rcases c1 with rfl|rfl <;> omega
       obtain⟨m2,w,u1,u2,u3,u4,u5⟩:=hs _ hx q c1 c2 m1 ac num' q1 Om Om;have hwl:w.length<=SZ d q:=by
        have:=congrArg List.length u2;rw[l0g] at this;have:=ex_len g d q;omega
       cases E:(ex g d q).2 with
       | true =>
         have hE:exL (ex g d) g (s[i]::s.drop (i+1))=((ex g d q).1++(exL (ex g d) g (s.drop (i+1))).1,(exL (ex g d) g (s.drop (i+1))).2):=by rw[exL_cons,if_pos f,c4,if_pos E]
         obtain⟨m3,w3,v1,v2,v3,v4,v5⟩:=next m2 (ac++w) u1 (by rw[l06];omega);rw[hE];refine⟨m3,w++w3,v1,by rw[l0B,u2,v2],fun x hx=>(List.mem_append.1 hx).elim (u3 x) (v3 x),?_,fun st hst=>?_⟩
         . rw[Y04,if_pos Om,idx_nat,List.getElem?_eq_getElem hi,bsome,if_pos f];dsimp only;rw[N,bsome];dsimp only;unfold Y1m;rw[bsome,chk_succ Om,bsome,c5,bsome];dsimp only;rw[u4,bsome];dsimp only;rw[E,if_pos rfl,bsome];dsimp only;rw[v4,l0E]
         rw[Y02,if_pos Om,idx_nat,List.getElem?_eq_getElem hi,bsome,if_pos f];dsimp only;rw[N,bsome];dsimp only;rw[note_ok _ _ Om,bsome,chk_succ Om,bsome,c5,bsome];dsimp only;obtain⟨ae,y1,y2⟩:=u5 (st++[((num:Int),v,[])]) (by rw[l06];simp only[l03,l09];omega);rw[l06] at y1;simp only[l03,l09] at y1;obtain⟨O,V,y4⟩:=v5 ae Om;rw[y2,bsome];dsimp only;rw[E,if_pos rfl,bsome];dsimp only;rw[y4,l0E];exact⟨O,by omega,G⟩
       | false =>
         have hE:exL (ex g d) g (s[i]::s.drop (i+1))=((ex g d q).1,false):=by rw[exL_cons,if_pos f,c4,if_neg (by rw[E];decide)]
         rw[hE];refine⟨m2,w,u1,u2,u3,?_,fun st hst=>?_⟩
         . rw[Y04,if_pos Om,idx_nat,List.getElem?_eq_getElem hi,bsome,if_pos f];dsimp only;rw[N,bsome];dsimp only;unfold Y1m;rw[bsome,chk_succ Om,bsome,c5,bsome];dsimp only;rw[u4,bsome];dsimp only;rw[E,if_neg Dc,bsome,if_neg Dc]
         rw[Y02,if_pos Om,idx_nat,List.getElem?_eq_getElem hi,bsome,if_pos f];dsimp only;rw[N,bsome];dsimp only;rw[note_ok _ _ Om,bsome,chk_succ Om,bsome,c5,bsome];dsimp only;obtain⟨ae,y1,y2⟩:=u5 (st++[((num:Int),v,[])]) (by rw[l06];simp only[l03,l09];omega);rw[l06] at y1;simp only[l03,l09] at y1;rw[y2,bsome];dsimp only;rw[E,if_neg Dc,bsome];exact⟨ae,by omega,G⟩
     obtain⟨o1,o2,o3,o4,o5,o6,o7⟩:=hkp f;by_cases z:(s[i]).out.1=2
     . -- an action
       obtain⟨t,t1,t2⟩:=expand_tot a tr b F B n mp hm (rText (s[i]).out) o4;have U:Y0I (a,tr,b,F,B,n,mp,(),()) (s[i]).out.2.2.2.2.2.2.2.2.2.2.2.1=some (t,(a,(),b,(),(),n,mp,(),())):=t1;obtain⟨m3,w3,v1,v2,v3,v4,v5⟩:=next mp (ac++[(rAct (s[i]).out,t,rN (s[i]).out)]) hm (by rw[l06];simp only[l03,l09];omega);have hE:exL (ex g d) g (s[i]::s.drop (i+1))=(rAct (s[i]).out::(exL (ex g d) g (s.drop (i+1))).1,(exL (ex g d) g (s.drop (i+1))).2):=by rw[exL_cons,if_neg f,if_pos z]
       have hap:app 32 ac ([((s[i]).out.2.2.2.2.2.2.2.2.2.1,t,(s[i]).out.2.2.2.2.2.2.2.2.2.2.2.2)]:List Act3)=some (ac++[(rAct (s[i]).out,t,rN (s[i]).out)]):=app_ok (by simp only[l03,l09];omega);rw[hE];refine⟨m3,(rAct (s[i]).out,t,rN (s[i]).out)::w3,v1,by rw[l0a,v2],fun x hx=>?_,?_,fun st hst=>?_⟩
       . rcases List.mem_cons.1 hx with rfl|hx
         . exact⟨(o3 z).1,(o3 z).2,t2,o5,o6⟩
         exact v3 x hx
       . rw[Y04,if_pos Om,idx_nat,List.getElem?_eq_getElem hi,bsome,if_neg f,if_pos z];dsimp only;rw[U,bsome];dsimp only;unfold Y1m;rw[hap,bsome,bsome,bsome];dsimp only;rw[v4,l0E];rfl
       rw[Y02,if_pos Om,idx_nat,List.getElem?_eq_getElem hi,bsome,if_neg f,if_pos z];dsimp only;rw[U,bsome];dsimp only;rw[hap,bsome,note_ok _ _ Om,bsome,bsome];dsimp only;obtain⟨O,V,y4⟩:=v5 (st++[((num:Int),false,t)]) (by rw[l06];simp only[l03,l09];omega);rw[l06] at V;simp only[l03,l09] at V;rw[y4,l0E];exact⟨O,by omega,G⟩
     by_cases k3:(s[i]).out.1=3
     . -- a variable
       obtain⟨t,t1,t2⟩:=expand_tot a tr b F B n mp hm (rText (s[i]).out) o4;have U:Y0I (a,tr,b,F,B,n,mp,(),()) (s[i]).out.2.2.2.2.2.2.2.2.2.2.2.1=some (t,(a,(),b,(),(),n,mp,(),())):=t1;have k4 :¬(s[i]).out.1=4:=by omega
       obtain⟨m3,w3,v1,v2,v3,v4,v5⟩:=next (mapPut mp (rName (s[i]).out) t) ac (hm.put (o7 k3) t2) Om;have hE:exL (ex g d) g (s[i]::s.drop (i+1))=exL (ex g d) g (s.drop (i+1)):=by rw[exL_cons,if_neg f,if_neg z,if_neg k4]
       rw[hE];refine⟨m3,w3,v1,v2,v3,?_,fun st hst=>?_⟩
       . rw[Y04,if_pos Om,idx_nat,List.getElem?_eq_getElem hi,bsome,if_neg f,if_neg z,if_pos k3];dsimp only;rw[U,bsome];dsimp only;unfold Y1m;rw[bsome,bsome];dsimp only;exact v4
       rw[Y02,if_pos Om,idx_nat,List.getElem?_eq_getElem hi,bsome,if_neg f,if_neg z,if_pos k3];dsimp only;rw[U,bsome];dsimp only;rw[note_ok _ _ Om,bsome,bsome];dsimp only;obtain⟨O,V,y4⟩:=v5 (st++[((num:Int),false,t)]) (by rw[l06];simp only[l03,l09];omega);rw[l06] at V;simp only[l03,l09] at V;exact⟨O,by omega,y4⟩
     -- stop
     have k4:(s[i]).out.1=4:=by omega
     have hE:exL (ex g d) g (s[i]::s.drop (i+1))=([],false):=by rw[exL_cons,if_neg f,if_neg z,if_pos k4]
     rw[hE];refine⟨mp,[],hm,G,(fun x hx=>by cases hx),?_,fun st hst=>?_⟩
     . rw[Y04,if_pos Om,idx_nat,List.getElem?_eq_getElem hi,bsome,if_neg f,if_neg z,if_neg k3];unfold Y1m;rw[bsome,bsome,if_neg Dc,l0n]
     rw[Y02,if_pos Om,idx_nat,List.getElem?_eq_getElem hi,bsome,if_neg f,if_neg z,if_neg k3,note_ok _ _ Om,bsome,bsome,l0n];exact⟨st++[((num:Int),false,[])],by rw[l06];simp only[l03,l09];omega,G⟩
   obtain rfl:i=s.length:=by omega
   rw[Y04,if_neg Om,l0t];refine⟨mp,[],hm,G,(fun x hx=>by cases hx),by simp [exL],fun st hst=>⟨st,l1k _ _,?_⟩⟩;rw[Y02,if_neg Om];simp [exL]
theorem sz_part {n:Nat}:∀{s:List BT90},∀x∈s,1+SZ n (rThen x.out)+SZ n (rElse x.out)<=sumR (SZ n) s
 | [],x,hx=>by cases hx
 | a::s,x,hx=>by
   rw[sumR_cons];rcases List.mem_cons.1 hx with rfl|hx
   . omega
   have:=sz_part (n:=n) x hx;omega
theorem run_R (a:Ls)(ha:Big a)(tr:List Rcp)(hto:tr.length<=60)(f :∀x∈tr,Big x.1)(b:Ls)(F:List Fld)(hF:BigF F)(B:Ls)(n:Int):
 ∀(d m:Nat) (s:List BT90),d<=8->d<m->VR d s->SZ d s<=100->XOk a tr b F B n (Y0m m) (Y0j m) (SZ d s) (ex (gT a tr F n) d s) s
 | 0,m,s,_,hm,hv,_=>by
   obtain⟨m,rfl⟩ :∃q,m=q+1:=⟨m-1,by omega⟩
   have:s=[]:=hv;subst this;intro mp ac num hmp Y Z;obtain⟨q,hq⟩ :∃q,FU=q+1:=⟨FU-1,by rw[FU_eq]⟩
   refine⟨mp,[],hmp,G,(fun x hx=>by cases hx),?_,fun st hst=>⟨st,l1k _ _,?_⟩⟩
   . rw[Y0m,Y1I,hq,Y04,if_neg Sm,bsome,l0n];rfl
   rw[Y0j,Y1t,hq,Y02,if_neg Sm,bsome,l0n];rfl
 | d + 1,m,s,hd,hm,hv,hz=>by
   obtain⟨m,rfl⟩ :∃q,m=q+1:=⟨m-1,by omega⟩
   have hlen:=sz_len hv;have hsz:SZ (d+1) s=sumR (SZ d) s:=rfl;have hex:ex (gT a tr F n) (d+1) s=exL (ex (gT a tr F n) d) (gT a tr F n) s:=rfl;have hz' :∀x∈s,SZ d (rThen x.out)<=100/\SZ d (rElse x.out)<=100:=fun x hx=>by have:=sz_part (n:=d) x hx;omega
   intro mp ac num hmp Y Z;have lp:=fun z=>run_loop a ha tr hto f b F hF B n (Y0m m) (Y0j m) d Om (gT a tr F n) rfl s Om hv (fun x hx q hq hzq=>by
    rcases hq with rfl|rfl
    . exact run_R a ha tr hto f b F hF B n d m _ Om Om (hv x hx).2.1 hzq
    exact run_R a ha tr hto f b F hF B n d m _ Om Om (hv x hx).2.2 hzq) mp ac z hz' s.length 0 FU mp ac num Om (FU_gt Om) Om hmp (by rw[l0s];omega) (by rw[l0s];omega)
   obtain⟨mp',nw,g1,E,g3,J,_⟩:=lp [];rw[l0s] at E J;have u:Y04 (Y0m m) (a,tr,b,F,B,n,mp,ac,()) s FU a b n mp ac (num:Int) 0=_:=J;refine⟨mp',nw,g1,E,g3,?_,fun st hst=>?_⟩
   . rw[Y0m,Y1I,hex];dsimp only;rw[u,bsome];cases(exL (ex (gT a tr F n) d) (gT a tr F n) s).2 <;> rfl
   obtain⟨K,M,f1,f2,f3,N,O⟩:=lp st;rw[l0s] at f2 N O;have e:Y04 (Y0m m) (a,tr,b,F,B,n,mp,ac,()) s FU a b n mp ac (num:Int) 0=_:=N;rw[u] at e;have U:mp'=K/\ac++nw=ac++M:=by
    have e:=oI e;cases hc:(exL (ex (gT a tr F n) d) (gT a tr F n) s).2 with
    | true =>
      rw[hc,if_pos rfl,if_pos rfl] at e;have e:=Sum.inl.inj e;exact⟨congrArg (·.2.2.2.1) e,congrArg (·.2.2.2.2) e⟩
    | false =>
      rw[hc,if_neg Dc,if_neg Dc] at e;have e:=Sum.inr.inj e;exact⟨congrArg (·.2.2.2.2.2.2.2.1) e,congrArg (·.2.2.2.2.2.2.2.2.1) e⟩
   obtain⟨st',y1,y2⟩:=O st Om;have V:Y02 (Y0j m) (a,tr,b,F,B,n,mp,ac,st) s FU a b n mp ac st (num:Int) 0=_:=y2;refine⟨st',by omega,?_⟩;rw[Y0j,Y1t,hex];dsimp only;rw[V,bsome,U.1,U.2];cases(exL (ex (gT a tr F n) d) (gT a tr F n) s).2 <;> rfl
end Go.Ph.Pf
end
section
namespace Go.Ph.Pf
open Go.Ph.Pl Go.Ph.Wd Go.Ph.Hd Go.Ph.Sg
theorem scont_tot (l:List Ls)(hl:l.length<=1000)(s:Ls):∃b,Y0l l s=some b/\(b=true->l≠ []):=by
 unfold Y0l Y1M;rcases scanP (Y0q l s) l (fun i x=>if s=x then some (.inr (i:Int)) else none) (.inl ()) (fun m=>by rw[Y0q,if_neg Om]) (fun m i h=>by
  rw[Y0q,if_pos Om,idx_nat,List.getElem?_eq_getElem h,bsome];by_cases hk:s=l[i]
  . rw[if_pos hk,if_pos hk]
  rw[if_neg hk,if_neg hk,chk_succ Om,bsome]) l.length 0 FU Om (FU_gt Om) Om with ⟨j,hj,r,_,E,_,J⟩|⟨E,K⟩
 . have f:Y0q l s FU 0=_:=J;have hne:l≠ []:=fun e=>by subst e;simp at hj
   rw[f,bsome];cases r with
   | inl u=>exact⟨_,rfl,fun _=>hne⟩
   | inr n=>exact⟨_,rfl,fun _=>hne⟩
 have z:Y0q l s FU 0=_:=K;rw[z,bsome];exact⟨_,G,fun h=>by cases h⟩
def OnR (l r:List Ls):Prop:=r.length<=l.length+1/\r≠ []
theorem once_tot (l:List Ls)(hl:l.length<=1000)(s:Ls):∃b r,Y0l l s=some b/\(if b=true then some l else app 16 l [s])=some r/\OnR l r:=by
 obtain⟨b,e,h⟩:=scont_tot l hl s;cases b with
 | true=>exact⟨true,l,e,rfl,Nat.le_succ _,h rfl⟩
 | false=>exact⟨false,l++[s],e,by rw[if_neg Dc,app_ok (by simp only[l03,l09];omega)],by simp,by simp⟩
theorem once0 (l:List Ls)(hl:l.length<=1000)(s:Ls)(n:Int):∃r,Y3t (l,(),(),(),n) s=some (r,(),(),(),n)/\OnR l r:=by
 obtain⟨b,r,e,h,k⟩:=once_tot l hl s;unfold Y3t;dsimp only;rw[e,bsome];cases b with
 | true=>rw[if_pos rfl] at h ⊢;cases h;exact ⟨l,rfl,k⟩
 | false=>rw[if_neg Dc] at h ⊢;rw [h,bsome];exact ⟨r,rfl,k⟩
theorem once1 (l:List Ls)(hl:l.length<=1000)(s:Ls)(n:Int):∃r,Y3Y ((),l,(),(),n) s=some ((),r,(),(),n)/\OnR l r:=by
 obtain⟨b,r,e,h,k⟩:=once_tot l hl s;unfold Y3Y;dsimp only;rw[e,bsome];cases b with
 | true=>rw[if_pos rfl] at h ⊢;cases h;exact ⟨l,rfl,k⟩
 | false=>rw[if_neg Dc] at h ⊢;rw [h,bsome];exact ⟨r,rfl,k⟩
theorem once2 (l:List Ls)(hl:l.length<=1000)(s:Ls)(n:Int):∃r,Y3Z ((),(),l,(),n) s=some ((),(),r,(),n)/\OnR l r:=by
 obtain⟨b,r,e,h,k⟩:=once_tot l hl s;unfold Y3Z;dsimp only;rw[e,bsome];cases b with
 | true=>rw[if_pos rfl] at h ⊢;cases h;exact ⟨l,rfl,k⟩
 | false=>rw[if_neg Dc] at h ⊢;rw [h,bsome];exact ⟨r,rfl,k⟩
theorem once3 (l:List Ls)(hl:l.length<=1000)(s:Ls)(n:Int):∃r,Y40 ((),(),(),l,n) s=some ((),(),(),r,n)/\OnR l r:=by
 obtain⟨b,r,e,h,k⟩:=once_tot l hl s;unfold Y40;dsimp only;rw[e,bsome];cases b with
 | true=>rw[if_pos rfl] at h ⊢;cases h;exact ⟨l,rfl,k⟩
 | false=>rw[if_neg Dc] at h ⊢;rw [h,bsome];exact ⟨r,rfl,k⟩
theorem eff_L1 (A:List Act3)(hA:A.length<=300)(hok :∀x∈A,actOk x)(f l2 u z:List Ls)(E J K:Int):
 ∀(k i m:Nat),A.length-i<=k->k<m->Y1a A m f l2 u z E J K (i:Int)=some (.inl (f,l2,u,z,E,J,K)):=by
 intro k;induction k with
 | zero =>
   intro i m M N;obtain⟨m,rfl⟩ :∃k,m=k+1:=⟨m-1,by omega⟩
   rw[Y1a,if_neg Om]
 | succ k ih =>
   intro i m M N;obtain⟨m,rfl⟩ :∃k,m=k+1:=⟨m-1,by omega⟩
   by_cases hi:i<A.length
   . obtain⟨O,U,V,Y,Z⟩:=hok _ (l0p hi);rw[Y1a,if_pos Om,idx_nat,List.getElem?_eq_getElem hi,bsome,if_neg Om,if_neg Om,bsome,if_neg (by simp only[decide_eq_true_eq];omega)];have key:(if (A[i]).1=(6:Int) then(if (A[i]).2.2<(0:Int) then some true else some (decide ((63:Int)<(A[i]).2.2))) else some false)=some false:=by
      split
      . rw[if_neg Om,decide_eq_false Om]
      rfl
     rw[key,bsome,if_neg Dc,chk_succ Om,bsome];exact ih (i+1) m Om Om
   rw[Y1a,if_neg Om]
theorem eff_L2 (A:List Act3)(hA:A.length<=300)(hok :∀x∈A,actOk x):
 ∀(k i m:Nat) (u l2 z E:List Ls) (f:Nat),A.length-i<=k->k<m->(u.length<=i/\l2.length<=i/\z.length<=i/\E.length<=i)->f<64->
  ∃(N O U V:List Ls) (f':Int),Y0n A m u l2 z E (f:Int) (i:Int)=some (N,O,U,V,f')/\((u≠ []∨(A.drop i).any kepA=true)->N≠ []):=by
 intro k;induction k with
 | zero =>
   intro i m u l2 z E f h1 h2 h3 K;obtain⟨m,rfl⟩ :∃k,m=k+1:=⟨m-1,by omega⟩
   rw[Y0n,if_neg Om,l0q Om];exact⟨u,l2,z,E,f,G,fun h=>h.elim id (fun h=>by cases h)⟩
 | succ k ih =>
   intro i m u l2 z E f h1 h2 h3 K;obtain⟨m,rfl⟩ :∃k,m=k+1:=⟨m-1,by omega⟩
   obtain⟨b1,b2,b3,b4⟩:=h3;by_cases hi:i<A.length
   . obtain⟨o1,o2,o3,o4,o5⟩:=hok _ (l0p hi);rw[Y0n,if_pos Om,idx_nat,List.getElem?_eq_getElem hi,bsome,drop_cons hi,l1i];by_cases k1:(A[i]).1=1
     . rw[if_pos k1];obtain⟨r,e,M,J⟩:=once0 u Om [105,110,98,111,120] f;rw[e,bsome,chk_succ Om,bsome];obtain⟨N,O,U,V,f',Y,Z⟩:=ih (i+1) m r l2 z E f Om Om ⟨by omega,by omega,by omega,by omega⟩ K;exact⟨N,O,U,V,f',Y,fun _=>Z (.inl J)⟩
     rw[if_neg k1];by_cases k2:(A[i]).1=2
     . rw[if_pos k2];obtain⟨r,e,M,J⟩:=once0 u Om (A[i]).2.1 f;rw[e,bsome,chk_succ Om,bsome];obtain⟨N,O,U,V,f',Y,Z⟩:=ih (i+1) m r l2 z E f Om Om ⟨by omega,by omega,by omega,by omega⟩ K;exact⟨N,O,U,V,f',Y,fun _=>Z (.inl J)⟩
     rw[if_neg k2];have hk:kepA A[i]=false:=by unfold kepA;exact decide_eq_false Om
     rw[hk,l0N];by_cases k4:(A[i]).1=4
     . rw[if_pos k4];obtain⟨r,e,M,J⟩:=once1 l2 Om (A[i]).2.1 f;rw[e,bsome,chk_succ Om,bsome];exact ih (i+1) m u r z E f Om Om ⟨by omega,by omega,by omega,by omega⟩ K
     rw[if_neg k4];by_cases k5:(A[i]).1=5
     . rw[if_pos k5];obtain⟨r,e,M,J⟩:=once2 z Om (A[i]).2.1 f;rw[e,bsome,chk_succ Om,bsome];exact ih (i+1) m u l2 r E f Om Om ⟨by omega,by omega,by omega,by omega⟩ K
     rw[if_neg k5];by_cases k7:(A[i]).1=7
     . rw[if_pos k7];obtain⟨r,e,M,J⟩:=once3 E Om (A[i]).2.1 f;rw[e,bsome,chk_succ Om,bsome];exact ih (i+1) m u l2 z r f Om Om ⟨by omega,by omega,by omega,by omega⟩ K
     rw[if_neg k7];by_cases k6:(A[i]).1=6
     . rw[if_pos k6];obtain⟨q,hq⟩:=l0m o4;have a0:q<2 ^ 6:=by omega
       have hor:orI (f:Int) (A[i]).2.2=some ((f ||| q:Nat):Int):=by
        unfold orI;rw[hq,if_pos Om,l0b,l0b]
       rw[hor,bsome,chk_succ Om,bsome];exact ih (i+1) m u l2 z E (f ||| q) Om Om ⟨by omega,by omega,by omega,by omega⟩ (l0L (n:=6) K a0)
     rw[if_neg k6,chk_succ Om,bsome];exact ih (i+1) m u l2 z E f Om Om ⟨by omega,by omega,by omega,by omega⟩ K
   rw[Y0n,if_neg Om,l0q Om];exact⟨u,l2,z,E,f,G,fun h=>h.elim id (fun h=>by cases h)⟩
theorem effects_tot (A:List Act3)(hA:A.length<=300)(hok :∀x∈A,actOk x):∃(u z E J:List Ls) (f:Int),Y3A A=some ((u,z,E,J,f),(0,0))/\(A.any kepA=true->u≠ []):=by
 unfold Y3A;have M:Y1a A FU [] [] [] [] 0 0 0 0=some (.inl ([],[],[],[],0,0,0)):=eff_L1 A hA hok [] [] [] [] 0 0 0 A.length 0 FU Om (FU_gt Om);obtain⟨u,z,E,J,f,N,O⟩:=eff_L2 A hA hok A.length 0 FU [] [] [] [] 0 Om (FU_gt Om) Sm Dc;have K:Y0n A FU [] [] [] [] 0 0=some (u,z,E,J,f):=N;rw[if_neg Om,M,bsome];dsimp only;rw[K,bsome,show Y0f=some (0,0) from rfl,bsome];exact⟨u,z,E,J,f,G,fun h=>O (.inr (by rw[l0s];exact h))⟩
theorem all_cong {α:Type}{p q:α->Bool}:∀{l:List α},(∀x∈l,p x=q x)->l.all p=l.all q
 | [],_=>rfl
 | x::l,h=>by rw[l0f,l0f,h x Sm,all_cong (fun y hy=>h y (by simp [hy]))]
theorem any_cong {α:Type}{p q:α->Bool}:∀{l:List α},(∀x∈l,p x=q x)->l.any p=l.any q
 | [],_=>rfl
 | x::l,h=>by rw[l1i,l1i,h x Sm,any_cong (fun y hy=>h y (by simp [hy]))]
theorem tvl_cong {l:List BT88}{g g':KyT->Bool}(h :∀k j,plc l k=some j->g k=g' k):∀(n:Nat) (t:TT),VT n t->InT l n t->tvl g n t=tvl g' n t
 | 0,_,_,_=>rfl
 | n + 1,t,hv,hi=>by
   obtain⟨K,M,hin,hx⟩:=hv;have ih :∀x∈t.2.1,tvl g n x.out=tvl g' n x.out:=fun x hx'=>tvl_cong h n x.out (hx x hx') (hi.2 x hx')
   unfold tvl;rw[all_cong ih,any_cong ih];by_cases J:4<t.1
   . obtain⟨j,hj⟩:=hi.1 J;rw[h _ j hj]
   by_cases f:t.1=1
   . rw[if_pos f,if_pos f]
   rw[if_neg f,if_neg f];by_cases u:t.1=2
   . rw[if_pos u,if_pos u]
   rw[if_neg u,if_neg u];by_cases z:t.1=3
   . rw[if_pos z,if_pos z]
   have E:t.1=4:=by omega
   rw[if_neg z,if_neg z,if_pos E,if_pos E]
theorem exL_cong {sub sub':List BT90->List Int × Bool}{g g':KyT->Bool}:∀{s:List BT90},(∀x∈s,(x.out.1=1->tvl g 9 (rT x.out)=tvl g' 9 (rT x.out))/\sub (rThen x.out)=sub' (rThen x.out)/\sub (rElse x.out)=sub' (rElse x.out))->exL sub g s=exL sub' g' s
 | [],_=>rfl
 | x :: s,h=>by
   obtain⟨u,z,E⟩:=h x Sm;have ih:=exL_cong (sub:=sub) (sub':=sub') (g:=g) (g':=g') (s:=s) (fun y hy=>h y (by simp [hy]));rw[exL_cons,exL_cons,ih];by_cases f:x.out.1=1
   . rw[if_pos f,if_pos f,u f];by_cases hv:tvl g' 9 (rT x.out)=true
     . rw[if_pos hv,z]
     rw[if_neg hv,E]
   rw[if_neg f,if_neg f]
theorem ex_cong {l:List BT88}{g g':KyT->Bool}(h :∀k j,plc l k=some j->g k=g' k):∀(n:Nat) (s:List BT90),VR n s->InR l n s->ex g n s=ex g' n s
 | 0,_,_,_=>rfl
 | n+1,s,hv,hi=>by
   show exL (ex g n) g s=exL (ex g' n) g' s
   exact exL_cong (fun x hx=>⟨fun f=>tvl_cong h 9 _ ((hv x hx).1.2.2.1 f) ((hi x hx).1 f),ex_cong h n _ (hv x hx).2.1 (hi x hx).2.1,ex_cong h n _ (hv x hx).2.2 (hi x hx).2.2⟩)
theorem bits :∀(n:Nat) (v:Nat->Bool),∃o,o<2 ^ n/\∀j,j<n->decide (o / 2 ^ j % 2=1)=v j
 | 0,v=>⟨0,by decide,fun j hj=>by omega⟩
 | n + 1,v=>by
   obtain⟨o,u,f⟩:=bits n (fun j=>v (j+1));refine⟨(if v 0=true then 1 else 0)+2*o,?_,fun j hj=>?_⟩
   . rw[Nat.pow_succ];split <;> omega
   cases j with
   | zero =>
     rw[Nat.pow_zero,Nat.div_one];cases v 0 with
     | true=>rw[if_pos rfl];exact decide_eq_true Om
     | false=>rw[if_neg Dc];exact decide_eq_false Om
   | succ j =>
     rw[←f j Om,Nat.pow_succ,Nat.mul_comm (2 ^ j) 2,←Nat.div_div_eq_div_mul];congr 4;split <;> omega
theorem asg_exists (l:List BT88)(g:KyT->Bool):∃o,o<2 ^ l.length/\∀k j,plc l k=some j->g k=asg l o k:=by
 obtain⟨o,f,u⟩:=bits l.length (fun j=>match l[j]? with|some x=>g (kyT x.out)|none=>false);refine⟨o,f,fun k j hj=>?_⟩;unfold asg;rw[hj];obtain⟨hl,hk,_⟩:=List.findIdx?_eq_some_iff_getElem.1 hj;have:=u j hl;rw[List.getElem?_eq_getElem hl] at this;dsimp only at this ⊢;rw[this,of_decide_eq_true hk]
abbrev MlT : Type:=Ls × List Rcp × Ls × List Fld × Ls
def decK (k:Int):Bool:=decide (k≠6/\k≠7)
def kepK (k:Int):Bool:=decide (k=1∨k=2)
theorem any_map_k (p:Int->Bool)(A:List Act3):A.any (fun x=>p x.1)=(A.map (·.1)).any p:=by rw[List.any_map];rfl
theorem runs_tot (l:List BT90)(hv:VR 8 l)(hz:SZ 8 l<=100)(j:Int)(hval:Y1h l=some (0,j))(p:MlT)(ha:Big p.1)(hto :∀x∈p.2.1,Big x.1)(hb:Big p.2.2.1)(hF:BigF p.2.2.2.1)(hB:p.2.2.2.2.length<=140737488355328):
 ∃A c i st,Y2d l p=some (A,(c,i))/\Y2P l p=some (st,A,(c,i))/\(c=0->A.length<=300/\(∀x∈A,actOk x)/\∃g,(if (ex g 8 l).1.any decK=true then A.any kepA=(ex g 8 l).1.any kepK else A.any kepA=true)):=by
 obtain⟨a,tr,b,F,B⟩:=p;dsimp only at ha hto hb hF hB;have F0 :∀c i:Int,Y00 (c,i)=some (!decide (c=0)):=fun _ _=>rfl
 have N0:Y0f=some (0,0):=rfl;obtain⟨K,i1,f,V⟩:=env_tot (a,tr,b) ha hto hb;by_cases M:K=0
 . subst M;have z:tr.length<=60:=V rfl;obtain⟨lw,N,i2,u⟩:=mwrite_tot (F,B) hF hB;by_cases O:N=0
   . subst O;obtain⟨mp',nw,g1,U,Y,g4,g5⟩:=run_R a ha tr z hto b F hF B (lw.length:Int) 8 FU l (l07 _) (FU_gt Dc) hv hz ([],0) [] 0 MI.nil Om (by simp;omega);obtain⟨st',g6,g7⟩:=g5 [] (by simp;omega);have E:Y3f (a,tr,b,F,B,(lw.length:Int),([],0),([]:List Act3),()) l 0=some ((ex (gT a tr F (lw.length:Int)) 8 l).2,(a,(),b,(),(),(lw.length:Int),mp',nw,())):=g4;have J:Y2X (a,tr,b,F,B,(lw.length:Int),([],0),([]:List Act3),([]:List St3)) l 0=some ((ex (gT a tr F (lw.length:Int)) 8 l).2,(a,(),b,(),(),(lw.length:Int),mp',nw,st')):=g7;have hlen:nw.length<=100:=by
      have:=congrArg List.length U;rw[l0g] at this;have:=ex_len (gT a tr F (lw.length:Int)) 8 l;omega
     have hD:=decided_eq nw Om;have hdec:nw.any decA=(ex (gT a tr F (lw.length:Int)) 8 l).1.any decK:=by rw[←U,←any_map_k];rfl
     have hkep:nw.any kepA=(ex (gT a tr F (lw.length:Int)) 8 l).1.any kepK:=by rw[←U,←any_map_k];rfl
     cases hd:nw.any decA with
     | true =>
       rw[hd] at hD;refine⟨nw,0,0,st',?_,?_,fun _=>⟨by omega,Y,gT a tr F (lw.length:Int),?_⟩⟩
       . simp only[Y2d,Y2z,hval,bsome,F0,N0,f,u,E,hD,decide_true,l0M,l0e,if_false,if_true]
       . simp only[Y2P,Y20,hval,bsome,F0,N0,f,u,J,hD,decide_true,l0M,l0e,if_false,if_true]
       rw[←hdec,if_pos hd];exact hkep
     | false =>
       rw[hd] at hD;have hap:app 32 nw ([(1,[],0)]:List Act3)=some (nw++[(1,[],0)]):=app_ok (by simp only[l03,l09];omega);refine⟨nw++[(1,[],0)],0,0,st',?_,?_,fun _=>⟨by rw[l06];simp only[l03,l09];omega,fun x hx=>?_,gT a tr F (lw.length:Int),?_⟩⟩
       . simp only[Y2d,Y2z,hval,bsome,F0,N0,f,u,E,hD,hap,decide_true,l0M,l0e,if_false,if_true]
       . simp only[Y2P,Y20,hval,bsome,F0,N0,f,u,J,hD,hap,decide_true,l0M,l0e,if_false,if_true]
       . rcases List.mem_append.1 hx with hx|hx
         . exact Y x hx
         rw[List.mem_singleton.1 hx];exact⟨Int.le_refl _,by decide,by simp,Int.le_refl _,by decide⟩
       rw[←hdec,if_neg (by rw[hd];decide),List.any_append];simp [kepA]
   have Z:(!decide (N=0))=true:=by simp [O]
   refine⟨[],N,-2,[],?_,?_,fun h=>absurd h O⟩
   . simp only[Y2d,Y2z,hval,bsome,F0,N0,f,u,Z,flt_eq,decide_true,l0M,l0e,if_false,if_true]
   simp only[Y2P,Y20,hval,bsome,F0,N0,f,u,Z,flt_eq,decide_true,l0M,l0e,if_false,if_true]
 have n1:(!decide (K=0))=true:=by simp [M]
 refine⟨[],K,-3,[],?_,?_,fun h=>absurd h M⟩
 . simp only[Y2d,Y2z,hval,bsome,F0,N0,f,n1,flt_eq,decide_true,l0M,l0e,if_false,if_true]
 simp only[Y2P,Y20,hval,bsome,F0,N0,f,n1,flt_eq,decide_true,l0M,l0e,if_false,if_true]
theorem h11 : Y35=some true:=by decide +kernel
theorem kept_law (text:Ls)(p:MlT)(ha:Big p.1)(hto :∀x∈p.2.1,Big x.1)(hb:Big p.2.2.1)(hF:BigF p.2.2.2.1)(hB:p.2.2.2.2.length<=140737488355328):
 Y1A text p=some true:=by
 unfold Y1A;obtain⟨l,c,i,e,hp⟩:=parse_tot text;rw[e,bsome];dsimp only;by_cases hc:c=0
 . rw[if_pos hc];obtain⟨hv,hz,hcr,j,hval⟩:=hp hc;obtain⟨kb,kc,ki,ek,hk⟩:=keeps_tot l hv hz hcr j hval;rw[ek,bsome];dsimp only;obtain⟨A,rc,ri,st,K,M,hA⟩:=runs_tot l hv hz j hval p ha hto hb hF hB;have E:Y2d l (p.1,p.2.1,p.2.2.1,p.2.2.2.1,p.2.2.2.2)=some (A,(rc,ri)):=K;have J:Y2P l (p.1,p.2.1,p.2.2.1,p.2.2.2.1,p.2.2.2.2)=some (st,A,(rc,ri)):=M;rw[E,bsome];dsimp only;rw[J,bsome];dsimp only;have key :∃b',(if kc=(0:Int) then some (!decide (rc=(0:Int))) else some true)=some b'/\(b'=false->rc=0):=by
    by_cases h:kc=0
    . rw[if_pos h];exact ⟨_,rfl,fun h=>by simpa using h⟩
    rw[if_neg h];exact ⟨_,rfl,fun h=>by cases h⟩
   obtain⟨b',eb,hb'⟩:=key;rw[eb,bsome];cases b' with
   | true =>
     rw[if_pos rfl,if_pos ⟨rfl,rfl⟩,h11,bsome,bsome]
   | false =>
     rw[if_neg Dc];have hrc:=hb' rfl;obtain⟨N,O,g,u⟩:=hA hrc;obtain⟨z,Z,r3,r4,f,ee,he⟩:=effects_tot A N O;rw[ee,bsome];dsimp only;rw[if_pos hrc,if_pos rfl,same_refl A Om,bsome,if_pos rfl];cases kb with
     | false=>rw[if_neg Dc,h11,bsome,bsome]
     | true =>
       have hbox:z≠ []:=by
        refine he ?_;obtain⟨L,l1,l2,U⟩:=hk rfl;obtain⟨o,V,Y⟩:=asg_exists L g;have hok:=U o V;have hcg:=ex_cong Y 8 l hv l2;unfold okA at hok;rw[←hcg] at hok;have hkk:(acts (ex g 8 l).1).any kepA=(ex g 8 l).1.any kepK:=by unfold acts;rw [List.any_map];rfl
        have hdd:(acts (ex g 8 l).1).any decA=(ex g 8 l).1.any decK:=by unfold acts;rw [List.any_map];rfl
        rw[hkk,hdd] at hok;by_cases hd:(ex g 8 l).1.any decK=true
        . rw[if_pos hd] at u;rw[u];rw[hd] at hok;simpa using hok
        rw[if_neg hd] at u;exact u
       have hpos:(0:Int)<(z.length:Int):=by
        cases z with
        | nil=>exact absurd rfl hbox
        | cons x y=>simp only[l03];omega
       rw[if_pos rfl,if_pos hpos,h11,bsome,bsome]
 rw[if_neg hc,h11,bsome]
end Go.Ph.Pf
end
