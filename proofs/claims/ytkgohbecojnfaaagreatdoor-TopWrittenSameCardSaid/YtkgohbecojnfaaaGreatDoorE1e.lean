/-
  Twt6, Twt7, Twt8, Qp, Fd, Sp, Va: own texts of this repository (wip/tpl, wip/plans), merged and shaken by wip/tools/pack.py.
-/
import Derived.KernelRfl
import Derived.Test.YtkgohbecojnfaaaGreatDoorE1d
set_option maxRecDepth 100000
set_option linter.unusedVariables false
set_option linter.unusedSimpArgs false
section
namespace Go.Proofs.YtkgohbecojnfaaaGreatDoor
open Go Go.RowKit Go.Ph Go.Ph.Pl Go.Ph.Pf
theorem Y4Q {p1:Ls}{a0:Nat}{a1:Value}:ItW Tryz.prog 124 [ptr a0 0] [] (fun M=>GlF (fun w =>∃m,w.cell? ⟨0,0,none⟩=some (.int .i64 m)) M/\PtM M a0 (.cells #[a1] 23)/\Sl M encB a1 p1) (fun v u M x=>v=I x.1/\u=S x.2) (Y33 p1):=by
 refine ItW.of Tryz.func124 (enters Tryz.func124 Kr G) G G G ?_;intro lid σ Y Z C hY s0 r L0 w0 M0 h hzz H hp;simp only[l02,l03] at H;obtain⟨U,J,E⟩:=hp;unfold Y33 at h;refine SQ (RG (AS G G (NL (TN ?_))));obtain⟨o1,K,h⟩:=bnd h;refine q0c (fun e w =>∃(s3:σ) (Lc:List Ph.Item) (M:Mem),e=[]/\StX C w0 M0 M (Lc) w/\GlF (fun w =>∃m,w.cell? ⟨0,0,none⟩=some (.int .i64 m)) M/\ZH Z s3 Lc M/\some (.inl s3)=some o1) [] ?_ ?_ (trivial)
 .
  refine BL (q0l (fun m e w =>∃(n4:Int) (s5:σ) (Lc:List Ph.Item) (M:Mem),e=[(0,(yv lid)),(1,ptr a0 0),(3,I n4)]/\StX C w0 M0 M (Lc) w/\GlF (fun w =>∃m,w.cell? ⟨0,0,none⟩=some (.int .i64 m)) M/\PtM M a0 (.cells #[a1] 23)/\Sl M encB a1 p1/\ZH Z s5 Lc M/\Y17 Y p1 m n4 s5=some o1) FU [(0,_),(1,_),(3,_)] ⟨rfl,rfl,rfl,trivial⟩ ⟨_,_,_,_,rfl,H,U,J,E,hzz,K⟩ ?_);rintro m6 e w ⟨n4,s5,Lc,M,rfl,H,U,J,E,hzz,K⟩;rcases m6 with _|m6
  . rw[Y17] at K;cases K
  rw[Y17] at K;refine SQ (SQ (RG (MV G G (ST (q0n H G (J.cell (j:=0) G) Ta23) G (ST (q0o Tu23 E G) G (ST (q0m G G) G (NL (TN ?_))))))));refine CB (p:=n4<(p1.length:Int)) G (fun a6=>?_) fun a6=>?_
  .
   rw[if_pos a6] at K;refine SK (TN (BL (SQ ?_)));obtain⟨l8,a7,K⟩:=bnd K;obtain⟨n9,al,K⟩:=bnd K;refine RG (ST (q0n H G (J.cell (j:=0) G) Ta23) G (MV G G (ST (q1E Tu23 Ts5 (E) G G a7) G (WR.litC xty23 Tu5 ([13,10]:Ls) H G Kf G G (q00 G) G (fun _=>q00 G) G ?_))));intro av M w H N am;replace U:=U.mono N;replace hzz:=hzz.mono N;replace E:=E.mono N;replace J:=J.mono N;refine q02 H (Y5k al) G ⟨U,(E.subV a7),am⟩ (q00 G) G ?_;intro aw M w H N hR;replace U:=U.mono N;replace hzz:=hzz.mono N;replace E:=E.mono N;replace J:=J.mono N;obtain rfl:=hR;refine AS G G (NL (TN (SQ (RG (ST (q0n H G (J.cell (j:=0) G) Ta23) G (ST (q0o Tu23 E G) G (AS G G (NL (TN (SQ (RG (MV G G (AS G G (NL (TN (SQ (SQ (RG (MV G G (ST (q0R G G) G (NL (TN ?_))))))))))))))))))))));obtain⟨ap,O,K⟩:=bnd K;refine q0c (fun e w =>∃(a8:Int) (a9:Int) (aa:σ) (Lc:List Ph.Item) (M:Mem),e=[(0,(yv lid)),(1,ptr a0 0),(3,I n4),(5,I a8),(6,I a9)]/\StX C w0 M0 M (Lc) w/\GlF (fun w =>∃m,w.cell? ⟨0,0,none⟩=some (.int .i64 m)) M/\PtM M a0 (.cells #[a1] 23)/\Sl M encB a1 p1/\ZH Z aa Lc M/\some (a8,a9,aa)=some ap) [] ?_ ?_ (trivial)
   .
    refine CB (p:=(0:Int)<=n9) G (fun a2=>?_) fun a2=>?_
    .
     rw[if_pos a2] at O;obtain⟨ax,ab,O⟩:=bnd O;obtain⟨ay,ac,O⟩:=bnd O;obtain⟨az,ad,O⟩:=bnd O;refine RG (MV G G (MV G G (ST (q0e G G ab) G (MV G G (MV G G (ST (q0e G G ac) G (ST (q0e G G ad) G (AS G G (AS G G (NL ?_))))))))));exact MN ⟨_,_,_,_,_,G,H,U,J,E,hzz,O⟩
    rw[if_neg a2] at O;refine SK ?_;exact MN ⟨_,_,_,_,_,G,H,U,J,E,hzz,O⟩
   rintro e w ⟨a8,a9,aa,Lc,M,rfl,H,U,J,E,hzz,aq⟩;obtain rfl:=oI aq;try dsimp only at K
   refine TN (SQ (SQ ?_));obtain⟨b0,a3,K⟩:=bnd K;obtain⟨⟨b1,ae⟩,an,K⟩:=bnd K;try dsimp only at K
   refine RG (MV G G (MV G G (ST (q0n H G (J.cell (j:=0) G) Ta23) G (MV G G (MV G G (ST (Ex.sliceVC Tu23 Ts5 (E) G G G a3) G (ST (q0Y Tu23 Tu5 Tu9 H ((E.subV a3)) G) G (WR.yieldW H (q1p _) hY hzz an G G G ⟨G,G⟩ (q00 G) G ?_))))))));intro w M Lc H N hzz;simp only[l02,l03] at H;replace U:=U.mono N;replace E:=E.mono N;replace J:=J.mono N;refine ST (q0y G) G (NL (TN ?_));refine q0a G (fun V=>?_) (fun V=>?_)
   .
    replace V:ae=false:=by simpa using V
    subst V;rw[if_neg l00] at K;refine RT ?_;obtain rfl:=oI K;try dsimp only at h
    obtain rfl:=oI h;exact WQ.retZ G H (by repeat(first|exact List.Sublist.refl _|apply List.Sublist.cons)) hzz G
   replace V:ae=true:=by simpa using V
   subst V;rw[if_pos rfl] at K;refine SK (TN (RG (MV G G (AS G G (NL (IB ?_))))));exact AG m6 ⟨_,_,_,_,G,H,U,J,E,hzz,K⟩ (l06 _)
  rw[if_neg a6] at K;refine q0j (q03 (q03 (q0b ?_)));exact MN ⟨_,_,_,G,H,U,hzz,K⟩
 rintro e w ⟨s3,Lc,M,rfl,H,U,hzz,ar⟩;obtain rfl:=oI ar;try dsimp only at h
 obtain rfl:=oI h;exact WQ.endZ G H (by repeat(first|exact List.Sublist.refl _|apply List.Sublist.cons)) hzz G
theorem Y6s {p0:Ls}{O:Ls}{r:Int}(h:Y4D p0 O=some r):Ct Tryz.prog 121 [S p0,S O] (fun M=>True) (fun v M=>v=I r):=by
 refine Ct.of Tryz.func121 (enters Tryz.func121 Kr G) G G G ?_;intro w0 M0 H hp;unfold Y4D at h;refine SQ (RG (AS G G (NL (TN (SQ (SQ ?_))))));obtain⟨U,V,h⟩:=bnd h;refine RG (MV G G (q02 H (Y3X V) G trivial (q00 G) G ?_));intro v6 M w H a0 hR;obtain rfl:=hR;refine NL (TN (BL (SQ ?_)));obtain⟨Y,J,h⟩:=bnd h;refine RG (MV G G (ST (q0d G G J) G (ST (q0B G G) G (AS G G (NL (TN ?_))))));refine CB (p:=U=Y) G (fun u=>?_) fun u=>?_
 .
  rw[if_pos u] at h;refine SQ (RG (AS G G (NL (TN (RT ?_)))));obtain rfl:=oI h;exact q07 G G H.ext G
 rw[if_neg u] at h;refine SQ ?_;obtain⟨s5,K,h⟩:=bnd h;obtain⟨Z,N,h⟩:=bnd h;refine RG (MV G G (ST (q0d G G K) G (ST (q0d G G N) G (ST (q0B G G) G (AS G G (NL (TN ?_)))))));refine CB (p:=U=Z) G (fun E=>?_) fun E=>?_
 .
  rw[if_pos E] at h;refine SQ (RG (AS G G (NL (TN (RT ?_)))));obtain rfl:=oI h;exact q07 G G H.ext G
 rw[if_neg E] at h;refine SK (IB (TN (SQ (RG (AS G G (NL (TN (RT ?_))))))));obtain rfl:=oI h;exact q07 G G H.ext G
theorem Y5E {p0:Ls}{p1:Ls}{bp:Value}{r:List Ls}(h:Y2V p0 p1=some r):Ct Tryz.prog 83 [bp,S p1] (fun M=>GlF (fun w =>∃m,w.cell? ⟨0,0,none⟩=some (.int .i64 m)) M/\Sl M encB bp p0) (fun v M=>SlR xrl23 M v r):=by
 refine Ct.ofM Tryz.func83 (enters Tryz.func83 Kr G) G G G ?_;intro w0 M0 H hp;obtain⟨O,J⟩:=hp;obtain⟨U,rfl⟩:=J.hd;unfold Y2V at h;refine SQ (RG (q0F [_] H G (J).one.cells (q00 G) G ?_));intro a1 w H;refine q0F [_] H G G (q00 G) G ?_;intro a2 w H;refine q09 [_] H Tryz.zeroValue89 G (q00 G) G ?_;intro V w H;refine NL (TN (SQ (RG (q09 [_] H Tryz.zeroValue89 G (q00 G) G ?_))));intro Y w H;refine NL (TN (SQ (RG (q09 [_] H Tz3 G (q00 G) G ?_))));intro a3 w H;refine q04 [_] H G G G Ku Ts3 G Kf Kf (q00 G) ?_;intro w H;refine NL (TN (SQ (SQ ?_)));obtain⟨l2,bw,h⟩:=bnd h;refine RG (ST (XL H Ta23) G ?_);refine q02 H (Y5q bw) G (J) (q00 G) G ?_;intro ca M w H u hR;replace O:=O.mono u;replace J:=J.mono u;obtain⟨bt,x11_0_0c,rfl,b6,f11_0_0c⟩:=hR;refine NL (TN (BL ?_));replace H:=H.newRowS 23 xrl23.k xrl23.enc;first|have b7:RelL xrl23 M [] []:=RelL.nil|have b7:RelL xrl23 M0 [] []:=RelL.nil
 obtain⟨bx,bz,h⟩:=bnd h;refine WC.rangeW (A:=[]) (L:=[.blk a1 (.cells #[(hv U)] 23), .blk a2 (.cells #[S p1] 9), .blk V (.cells #[Value.slice none 0 0] 89), .blk Y (.cells #[(Value.slice none 0 0)] 89),RowS 23 xrl23.k xrl23.enc (Value.slice none 0 0) ([]:List Hd), .blk a3 (.cells #[I (-1)] 3)]) (B:=[]) (H.pick (L':=[.blk a1 (.cells #[(hv U)] 23), .blk a2 (.cells #[S p1] 9), .blk V (.cells #[Value.slice none 0 0] 89), .blk Y (.cells #[(Value.slice none 0 0)] 89),RowS 23 xrl23.k xrl23.enc (Value.slice none 0 0) ([]:List Hd), .blk a3 (.cells #[I (-1)] 3)]) Kp) rfl Y4Q (.left (.left (.left (.left (.left (.left (q0r _))))))) ⟨O,b6,f11_0_0c⟩ rfl rfl (fun s L M =>∃(v4:Value) (l7:List Ls) (v8:Value) (g9:List Hd) (N:Int) (aa:Nat),s=((l7,N),aa)/\L=[.blk a1 (.cells #[(hv U)] 23), .blk a2 (.cells #[S p1] 9), .blk V (.cells #[v4] 89), .blk Y (.cells #[v8] 89),RowS 23 xrl23.k xrl23.enc v8 g9, .blk a3 (.cells #[I N] 3)]/\GlF (fun w =>∃m,w.cell? ⟨0,0,none⟩=some (.int .i64 m)) M/\Sl M encB (hv U) p0/\RelL xrl23 M g9 l7/\(aa=1->v4=v8)) (fun s=>exE [.ret] s.2) exStop (fun s=>exE_stop _ s) (Y1w p0 p1) (([],(-1)),0) bx bz (by rintro s L M M' ⟨v4,l7,v8,g9,N,aa,rfl,rfl,O,J,K,aq⟩ u;exact ⟨_,_,_,_,_,_,rfl,rfl,O.mono u,J.mono u,K.mono u,aq⟩) rfl ⟨_,_,_,_,_,_,rfl,rfl,O,J,b7,(by first|exact fun _=>rfl|exact fun h=>absurd h Dc)⟩ ?_ ?_ ?_
 .
  rintro Z a5 ae s ⟨b8,bq⟩ c7 c8 c9 L b9 Mb12 hE a0 ⟨v4,l7,v8,g9,N,aa,rfl,rfl,O,J,K,aq⟩ ⟨rfl,rfl⟩ H;unfold Y1w at a0;try dsimp only at a0
  refine SQ (RG (AS G G (NL (TN (RG (AS G G (NL (WQ.begin ae H Ku ?_))))))));intro w H;refine BL (SQ ?_);obtain⟨b3,bu,a0⟩:=bnd a0;refine RG (MV G G (ST (XL H Ta9) G ?_));refine q02 H (Y6s bu) G trivial (q00 G) G ?_;intro cb M w H u hR;replace O:=O.mono u;replace K:=K.mono u;replace J:=J.mono u;obtain rfl:=hR;refine AS G G (NL (TN (SQ (SQ (RG (MV G G (ST (q0u G G) G (NL (TN ?_)))))))));refine CB (p:=b3=(0:Int)) G (fun aw=>?_) fun aw=>?_
  .
   rw[if_pos aw] at a0;refine q0j (q03 (q0b ?_));obtain rfl:=oI a0;exact WQ.rsOn ae H G ⟨_,_,_,_,_,_,G,G,O,J,K,(by first|exact fun _=>G|exact fun h=>absurd h Dc)⟩
  rw[if_neg aw] at a0;refine SK (TN (SQ (SQ (RG (ST (XL H Ta3) G ?_)))));refine ST (q0R G G) G (NL (TN ?_));obtain⟨c0,a9,a0⟩:=bnd a0;refine q0c (fun e w =>∃(ba:List Ls) (ac:Value) (ar:List Hd) (M:Mem),e=[(2,ptr a1 0),(3,ptr a2 0),(4,ptr V 0),(5,ptr Y 0),(6,ptr a3 0),(7,I b8),(8,S bq),(9,I b3)]/\StX (feet (.blk Z (.loop (a5 .ready none))::[.blk a1 (.cells #[(hv U)] 23), .blk a2 (.cells #[S p1] 9), .blk V (.cells #[v4] 89), .blk Y (.cells #[v8] 89),RowS 23 xrl23.k xrl23.enc v8 g9, .blk a3 (.cells #[I N] 3)])) b9 Mb12 M [.blk a1 (.cells #[(hv U)] 23), .blk a2 (.cells #[S p1] 9), .blk V (.cells #[v4] 89), .blk Y (.cells #[ac] 89),RowS 23 xrl23.k xrl23.enc ac ar, .blk a3 (.cells #[I N] 3), .blk Z (.loop (a5 .busy none))] w/\GlF (fun w =>∃m,w.cell? ⟨0,0,none⟩=some (.int .i64 m)) M/\Sl M encB (hv U) p0/\RelL xrl23 M ar ba/\some ba=some c0) [] ?_ ?_ (trivial)
  .
   refine CB (p:=(0:Int)<=N) G (fun ax=>?_) fun ax=>?_
   .
    rw[if_pos ax] at a9;obtain⟨ak,bm,a9⟩:=bnd a9;obtain⟨bb,ah,a9⟩:=bnd a9;obtain⟨c1,am,a9⟩:=bnd a9;refine q0V (fun e w =>∃(bc:Value) (bd:List Hd) (M:Mem),e=[(2,ptr a1 0),(3,ptr a2 0),(4,ptr V 0),(5,ptr Y 0),(6,ptr a3 0),(7,I b8),(8,S bq),(9,I b3)]/\StX (feet (.blk Z (.loop (a5 .ready none))::[.blk a1 (.cells #[(hv U)] 23), .blk a2 (.cells #[S p1] 9), .blk V (.cells #[v4] 89), .blk Y (.cells #[v8] 89),RowS 23 xrl23.k xrl23.enc v8 g9, .blk a3 (.cells #[I N] 3)])) b9 Mb12 M [.blk a1 (.cells #[(hv U)] 23), .blk a2 (.cells #[S p1] 9), .blk V (.cells #[v4] 89), .blk Y (.cells #[bc] 89),RowS 23 xrl23.k xrl23.enc bc bd, .blk a3 (.cells #[I N] 3), .blk Z (.loop (a5 .busy none))] w/\GlF (fun w =>∃m,w.cell? ⟨0,0,none⟩=some (.int .i64 m)) M/\Sl M encB (hv U) p0/\RelL xrl23 M bd c1) ?_ ?_
    .
     refine WC.sub (e':=[(2,_),(3,_),(4,_),(5,_),(6,_),(7,_),(8,_),(9,_)]) ⟨G,G,G,G,G,G,G,G,trivial⟩ (q0x (m:=11) G G H ?_);intro w H;refine WA.conf0 (c:=8) [(21,v8,[]),(22,(hv U),[]),(23,I N,[]),(24,I N,[]),(25,I b8,[]),(26,I ak,[4]),(27,I (max N ak),[3,5]),(28,(subV (hv U) N.toNat (max N ak).toNat),[1,2,6])] G G Kr G G H ⟨⟨_,G,fun E w M H u Qk kk=>?_⟩,⟨_,G,fun E w M H u Qk kk=>?_⟩,⟨_,G,fun E w M H u Qk kk=>?_⟩,⟨_,G,fun E w M H u Qk kk=>?_⟩,⟨_,G,fun E w M H u Qk kk=>?_⟩,⟨_,G,fun E w M H u Qk kk=>?_⟩,⟨_,G,fun E w M H u Qk kk=>?_⟩,⟨_,G,fun E w M H u Qk kk=>?_⟩,trivial⟩ G ?_ ?_
     .
      refine ST (XL H Ta89) G ?_;exact q1k (kk _ _ H (Mem.le.refl _))
     .
      refine ST (XL H Ta23) G ?_;exact q1k (kk _ _ H (Mem.le.refl _))
     .
      refine ST (XL H Ta3) G ?_;exact q1k (kk _ _ H (Mem.le.refl _))
     .
      refine ST (XL H Ta3) G ?_;exact q1k (kk _ _ H (Mem.le.refl _))
     .
      refine MV G G ?_;exact q1k (kk _ _ H (Mem.le.refl _))
     .
      refine ST (q0K G G bm) G ?_;exact q1k (kk _ _ H (Mem.le.refl _))
     .
      refine ST (Ex.max2 G G) G ?_;exact q1k (kk _ _ H (Mem.le.refl _))
     .
      have J:=J.mono u;refine ST (Ex.sliceVC Tu23 Ts5 (J) G G G ah) G ?_;exact q1k (kk _ _ H (Mem.le.refl _))
     .
      intro w M H u;replace O:=O.mono u;replace K:=K.mono u;replace J:=J.mono u;refine q0E (i:=0) (j:=8) Kr G G ?_ ?_
      .
       refine ST (XL H Ta89) G ?_;refine NA (q0k (fuel:=0) [8,9,10] G Kr (q1t (enc:=xrl23.enc) xty89 ([(subH U N.toNat (max N ak).toNat)]:List Hd) H (fun _=>G) G Kr G G G (q00 G) G ?_));intro br M w H u a4;replace O:=O.mono u;replace K:=K.mono u;replace J:=J.mono u;replace a4:=SlR.of (R:=xrl23) (l:=([bb]:List Ls)) a4 ⟨(J.subV ah),trivial⟩;refine WR.appRC (R:=xrl23) (l:=l7) xty89 G H K G (fun _=>by repeat first|exact .head|apply Upd.tail) G (a4) am (q00 G) G ?_;intro ad au w aj H;refine q0Q [_] H G G (H.rowOneS Km) Ku Kf Ts89 (by first|decide|(simp;done)|(simp;omega)) (q00 G) ?_;intro w H;refine NA (q0f Kr ?_);exact MP ⟨_,_,_,G,(H.pick (L':=[.blk a1 (.cells #[(hv U)] 23), .blk a2 (.cells #[S p1] 9), .blk V (.cells #[v4] 89), .blk Y (.cells #[ad] 89),RowS 23 xrl23.k xrl23.enc ad au, .blk a3 (.cells #[I N] 3), .blk Z (.loop (a5 .busy none))]) Kp),O,J,aj⟩
      refine q1t (enc:=xrl23.enc) xty89 ([(subH U N.toNat (max N ak).toNat)]:List Hd) H (fun _=>G) G Kr G G G (q00 G) G ?_;intro br M w H u a4;replace O:=O.mono u;replace K:=K.mono u;replace J:=J.mono u;replace a4:=SlR.of (R:=xrl23) (l:=([bb]:List Ls)) a4 ⟨(J.subV ah),trivial⟩;refine NA (q0k (fuel:=0) [0,9,10] G Kr (ST (XL H Ta89) G ?_));refine WR.appRC (R:=xrl23) (l:=l7) xty89 G H K G (fun _=>by repeat first|exact .head|apply Upd.tail) G (a4) am (q00 G) G ?_;intro ad au w aj H;refine q0Q [_] H G G (H.rowOneS Km) Ku Kf Ts89 (by first|decide|(simp;done)|(simp;omega)) (q00 G) ?_;intro w H;refine NA (q0f Kr ?_);exact MP ⟨_,_,_,G,(H.pick (L':=[.blk a1 (.cells #[(hv U)] 23), .blk a2 (.cells #[S p1] 9), .blk V (.cells #[v4] 89), .blk Y (.cells #[ad] 89),RowS 23 xrl23.k xrl23.enc ad au, .blk a3 (.cells #[I N] 3), .blk Z (.loop (a5 .busy none))]) Kp),O,J,aj⟩
     intro w M H u;replace O:=O.mono u;replace K:=K.mono u;replace J:=J.mono u;refine q0k (fuel:=0) [8,9,10] G Kr (q1t (enc:=xrl23.enc) xty89 ([(subH U N.toNat (max N ak).toNat)]:List Hd) H (fun _=>G) G Kr G G G (q00 G) G ?_);intro br M w H u a4;replace O:=O.mono u;replace K:=K.mono u;replace J:=J.mono u;replace a4:=SlR.of (R:=xrl23) (l:=([bb]:List Ls)) a4 ⟨(J.subV ah),trivial⟩;refine WR.appRC (R:=xrl23) (l:=l7) xty89 G H K G (fun _=>by repeat first|exact .head|apply Upd.tail) G (a4) am (q00 G) G ?_;intro ad au w aj H;refine q0Q [_] H G G (H.rowOneS Km) Ku Kf Ts89 (by first|decide|(simp;done)|(simp;omega)) (q00 G) ?_;intro w H;refine NA (q0f Kr ?_);exact MP ⟨_,_,_,G,(H.pick (L':=[.blk a1 (.cells #[(hv U)] 23), .blk a2 (.cells #[S p1] 9), .blk V (.cells #[v4] 89), .blk Y (.cells #[ad] 89),RowS 23 xrl23.k xrl23.enc ad au, .blk a3 (.cells #[I N] 3), .blk Z (.loop (a5 .busy none))]) Kp),O,J,aj⟩
    rintro e w ⟨bc,bd,M,rfl,H,O,J,bv⟩;exact MN ⟨_,_,_,_,G,H,O,J,bv,a9⟩
   rw[if_neg ax] at a9;refine SK ?_;exact MN ⟨_,_,_,_,G,(H.pick (L':=[.blk a1 (.cells #[(hv U)] 23), .blk a2 (.cells #[S p1] 9), .blk V (.cells #[v4] 89), .blk Y (.cells #[v8] 89),RowS 23 xrl23.k xrl23.enc v8 g9, .blk a3 (.cells #[I N] 3), .blk Z (.loop (a5 .busy none))]) Kp),O,J,K,a9⟩
  rintro e w ⟨ba,ac,ar,M,rfl,H,O,J,be,c2⟩;obtain rfl:=oI c2;refine TN (SQ (SQ (RG (MV G G (ST (q0u G G) G (NL (TN ?_)))))));refine CB (p:=b3=(2:Int)) G (fun ay=>?_) fun ay=>?_
  .
   rw[if_pos ay] at a0;refine SQ (RG (ST (XL H Ta89) G ?_));refine q0Q [_] H G G (H.rowOneS Km) Ku Kf Ts89 (by first|decide|(simp;done)|(simp;omega)) (q00 G) ?_;intro w H;refine NL (TN (RT ?_));obtain rfl:=oI a0;exact WQ.rsRet ae (H.pick (L':=[.blk Z (.loop (a5 .busy none)), .blk a1 (.cells #[(hv U)] 23), .blk a2 (.cells #[S p1] 9), .blk V (.cells #[ac] 89), .blk Y (.cells #[ac] 89),RowS 23 xrl23.k xrl23.enc ac ar, .blk a3 (.cells #[I N] 3)]) Kp) G ⟨_,_,_,_,_,_,G,G,O,J,be,(by first|exact fun _=>G|exact fun h=>absurd h Dc)⟩
  rw[if_neg ay] at a0;refine SK (TN ?_);obtain⟨cc,bn,a0⟩:=bnd a0;obtain⟨c3,bo,a0⟩:=bnd a0;refine RG (MV G G (MV G G (ST (q0g Tu9 G) G (ST (q0e G G bn) G (ST (q0e G G bo) G (ST (XL H Ta23) G ?_))))));refine ST (q0o Tu23 J G) G (ST (Ex.min2 G G) G (q04 [_] H G G G Ku Ts3 G Kf Kf (q00 G) ?_));intro w H;refine NL (IB ?_);obtain rfl:=oI a0;exact WQ.rsOn ae (H.pick (L':=[.blk Z (.loop (a5 .busy none)), .blk a1 (.cells #[(hv U)] 23), .blk a2 (.cells #[S p1] 9), .blk V (.cells #[v4] 89), .blk Y (.cells #[ac] 89),RowS 23 xrl23.k xrl23.enc ac ar, .blk a3 (.cells #[I (min c3 (p0.length:Int))] 3)]) Kp) G ⟨_,_,_,_,_,_,G,G,O,J,be,(by first|exact fun _=>G|exact fun h=>absurd h Dc)⟩
 .
  rintro Dm12 w M L H u hE ⟨v4,l7,v8,g9,N,aa,rfl,rfl,O,J,K,aq⟩;simp only[l02,l03,l0f] at H;try dsimp only at h
  obtain rfl:=exE_none hE;rw[if_pos rfl] at h;refine IB (TN (SQ (SQ (RG (ST (XL H Ta3) G ?_)))));refine ST (q0R G G) G (NL (TN ?_));refine CB (p:=(0:Int)<=N) G (fun az=>?_) fun az=>?_
  .
   rw[if_pos az] at h;obtain⟨bs,an,h⟩:=bnd h;obtain⟨c4,b4,h⟩:=bnd h;refine q0V (fun e w =>∃(b5:Value) (bg:List Hd) (M:Mem),e=[(4,ptr V 0),(5,ptr Y 0)]/\St w0 M0 M [.blk V (.cells #[v4] 89), .blk Y (.cells #[b5] 89),RowS 23 xrl23.k xrl23.enc b5 bg, .blk Dm12 (.deferred (some []))] w/\GlF (fun w =>∃m,w.cell? ⟨0,0,none⟩=some (.int .i64 m)) M/\RelL xrl23 M bg c4) ?_ ?_
   .
    refine q0x (m:=7) G G H ?_;intro w H;refine q1i (i:=1) [0,2] G Kr Kr Kr (XL H Ta23) (q00 G) G G (fun _ _=>G) ?_;refine q1i (i:=2) [0] G Kr Kr Kr (XL H Ta3) (q00 G) G G (fun _ _=>G) ?_;refine TK 3 G (fun _=>q1E Tu23 Ts5 (J) G G an) G ?_;refine q0E (i:=0) (j:=4) Kr G G ?_ ?_
    .
     refine ST (XL H Ta89) G ?_;refine NA (q0k (fuel:=0) [4,5,6] G Kr (q1t (enc:=xrl23.enc) xty89 ([(subH U N.toNat (p0.length:Int).toNat)]:List Hd) H (fun _=>G) G Kr G G G (q00 G) G ?_));intro c5 M w H u ab;replace O:=O.mono u;replace K:=K.mono u;replace J:=J.mono u;replace ab:=SlR.of (R:=xrl23) (l:=([bs]:List Ls)) ab ⟨(J.subV an),trivial⟩;refine WR.appRC (R:=xrl23) (l:=l7) xty89 G H K G (fun _=>by repeat first|exact .head|apply Upd.tail) G (ab) b4 (q00 G) G ?_;intro av bh w b0 H;refine q0Q [_] H G G (H.rowOneS Km) Ku Kf Ts89 (by first|decide|(simp;done)|(simp;omega)) (q00 G) ?_;intro w H;refine NA (q0f Kr ?_);exact MP ⟨_,_,_,G,(H.pick (L':=[.blk V (.cells #[v4] 89), .blk Y (.cells #[av] 89),RowS 23 xrl23.k xrl23.enc av bh, .blk Dm12 (.deferred (some []))]) Kp),O,b0⟩
    refine q1t (enc:=xrl23.enc) xty89 ([(subH U N.toNat (p0.length:Int).toNat)]:List Hd) H (fun _=>G) G Kr G G G (q00 G) G ?_;intro c5 M w H u ab;replace O:=O.mono u;replace K:=K.mono u;replace J:=J.mono u;replace ab:=SlR.of (R:=xrl23) (l:=([bs]:List Ls)) ab ⟨(J.subV an),trivial⟩;refine NA (q0k (fuel:=0) [0,5,6] G Kr (ST (XL H Ta89) G ?_));refine WR.appRC (R:=xrl23) (l:=l7) xty89 G H K G (fun _=>by repeat first|exact .head|apply Upd.tail) G (ab) b4 (q00 G) G ?_;intro av bh w b0 H;refine q0Q [_] H G G (H.rowOneS Km) Ku Kf Ts89 (by first|decide|(simp;done)|(simp;omega)) (q00 G) ?_;intro w H;refine NA (q0f Kr ?_);exact MP ⟨_,_,_,G,(H.pick (L':=[.blk V (.cells #[v4] 89), .blk Y (.cells #[av] 89),RowS 23 xrl23.k xrl23.enc av bh, .blk Dm12 (.deferred (some []))]) Kp),O,b0⟩
   rintro e w ⟨b5,bg,M,rfl,H,O,b1⟩;refine TN (SQ (RG (ST (XL H Ta89) G ?_)));obtain⟨M,u,ao,H⟩:=H.freezeRowS (v:=b5) (enc:=xrl23.enc) (t:=23) Kv (fun _=>rfl);replace b1:=b1.mono u;replace ao:=SlR.of (R:=xrl23) ao b1;refine q0Q [_] H G G (ao.one) Ku Kf Ts89 (by first|decide|(simp;done)|(simp;omega)) (q00 G) ?_;intro w H;refine NL (TN (RT ?_));obtain rfl:=oI h;exact WQ.nret1 G H Kv (fun w H=>⟨_,G,H.load1 Km Ta89 Kf⟩) ao
  rw[if_neg az] at h;refine SK (TN (SQ (RG (ST (XL H Ta89) G ?_))));obtain⟨M,u,ap,H⟩:=H.freezeRowS (v:=v8) (enc:=xrl23.enc) (t:=23) Kv (fun _=>rfl);replace K:=K.mono u;replace ap:=SlR.of (R:=xrl23) ap K;refine q0Q [_] H G G (ap.one) Ku Kf Ts89 (by first|decide|(simp;done)|(simp;omega)) (q00 G) ?_;intro w H;refine NL (TN (RT ?_));obtain rfl:=oI h;exact WQ.nret1 G H Kv (fun w H=>⟨_,G,H.load1 Km Ta89 Kf⟩) ap
 rintro Dm12 w M L c H u hE ⟨v4,l7,v8,g9,N,aa,rfl,rfl,O,J,K,aq⟩;simp only[l02,l03,l0f] at H;try dsimp only at h
 by_cases bi:aa=1
 .
  subst bi;obtain rfl:=oI hE;rw[if_neg Dc,if_pos rfl] at h;obtain rfl:=(aq rfl).symm;refine RT ?_;obtain⟨M,u,b2,H⟩:=H.freezeRowS (v:=v8) (enc:=xrl23.enc) (t:=23) Kv (fun _=>rfl);replace K:=K.mono u;replace b2:=SlR.of (R:=xrl23) b2 K;obtain rfl:=oI h;exact WQ.nret1 G H Kv (fun w H=>⟨_,G,H.load1 Km Ta89 Kf⟩) b2
 have bj:=bi;rw[if_neg (exE_ne hE),if_neg bj] at h;cases h
theorem Y5r {p0 : List (Ls × Ls)}{p1 : Ls}{p2 : Int}{a1 : Value}{U : Value}{r : List Ls}(h : Y3G p0 p1 p2 = some r): Ct Tryz.prog 45 [a1, U, I p2] (fun M => GlF (fun w => ∃ tp p, w.var? Tryz.prog "strconv.ErrRange" = some #[.iface tp p]) M /\ GlF (fun w => ∃ tp p, w.var? Tryz.prog "strconv.ErrSyntax" = some #[.iface tp p]) M /\ GlF (fun w => ∃ m, w.cell? ⟨0, 0, none⟩ = some (.int .i64 m)) M /\ GlF (fun w => Lib.TabIs Tryz.prog w "internal/strconv.uint64pow10" .u64 Lib.pow10Tab) M /\ Tabs M /\ SlS M 2 xenc46 a1 p0 /\ Sl M encB U p1) (fun v M => SlR xrl23 M v r) := by
 refine Ct.of Tryz.func45 (enters Tryz.func45 Kr G) G G G ?_;intro w0 M0 H hp;obtain⟨E,J,O,u,V,a6,N⟩:=hp;unfold Y3G at h;refine SQ (RG (AS G G (NL (TN (SQ ?_)))));obtain⟨⟨s1,b2⟩,a7,h⟩:=bnd h;try dsimp only at h
 refine RG (MV G G (q02 H (Y5N a7) G ⟨E,J,O,u,V,a6⟩ (q00 G) G ?_));intro ad M w H K hR;replace E:=E.mono K;replace J:=J.mono K;replace O:=O.mono K;replace u:=u.mono K;replace V:=V.mono K;replace N:=N.mono K;try dsimp only at hR
 obtain rfl:=hR;refine MV G G (ST (q05 G G) G (ST (q05 G G) G (AS G G (AS G G (NL (TN (SQ (SQ ?_))))))));obtain⟨o4,Z,h⟩:=bnd h
 refine q0c (fun e w => ∃ (b6 : Bool) (M : Mem), e = [(1, U), (7, S s1), (19, Value.bool b6)] /\ St w0 M0 M [] w /\ GlF (fun w => ∃ tp p, w.var? Tryz.prog "strconv.ErrRange" = some #[.iface tp p]) M /\ GlF (fun w => ∃ tp p, w.var? Tryz.prog "strconv.ErrSyntax" = some #[.iface tp p]) M /\ GlF (fun w => ∃ m, w.cell? ⟨0, 0, none⟩ = some (.int .i64 m)) M /\ GlF (fun w => Lib.TabIs Tryz.prog w "internal/strconv.uint64pow10" .u64 Lib.pow10Tab) M /\ Tabs M /\ Sl M encB U p1 /\ some b6 = some o4) [] ?_ ?_ (trivial)
 .
  refine RG (MV G G (ST (q0y G) G (MV G G ?_)));rcases b2 with _|_
  .
   rw[if_neg l00] at Z;refine GT G G G (GT G G G (PT G G G (NL ?_)));exact MN ⟨_,_,G,H,E,J,O,u,V,N,Z⟩
  rw[if_pos rfl] at Z;refine SG (q06 G) G G G (SG (q0R G G) G G G (PF G G G (NL ?_)));exact MN ⟨_,_,G,H,E,J,O,u,V,N,Z⟩
 rintro e w ⟨b6,M,rfl,H,E,J,O,u,V,N,q7⟩;obtain rfl:=oI q7;refine TN ?_;refine q0a G (fun Y=>?_) (fun Y=>?_)
 .
  subst Y;rw[if_pos rfl] at h;refine SQ (RG (AS G G (NL (TN (RT ?_)))));obtain rfl:=oI h;exact q07 G G H.ext q1F
 subst Y;rw[if_neg l00] at h;refine SK (TN (SQ ?_));obtain⟨l9,a4,h⟩:=bnd h;refine RG (MV G G (MV G G (q02 H (Y5E a4) G ⟨O,N⟩ (q00 G) G ?_)));intro ae M w H K hR;have a0:=hR;refine AS G G (NL (TN (RT ?_)));obtain rfl:=oI h;exact q07 G G H.ext a0
theorem Y66 {p0:(Ls × Ls)}{r:Bool}(h:Y3T p0=some r):Ct Tryz.prog 85 [Value.agg #[S p0.1,S p0.2]] (fun M=>True) (fun v M=>v=Value.bool r):=by
 refine Ct.of Tryz.func85 (enters Tryz.func85 Kr G) G G G ?_;intro K M0 H hp;unfold Y3T at h;refine SQ (RG (q0F [_,_] H G G (q00 G) G ?_));intro E w H;refine AS G G (NL (TN (SQ ?_)));obtain⟨N,u,h⟩:=bnd h;refine RG (ST (q01 Tu109 G Ts9 Dc G) G (ST (XL H Ta9) G ?_));refine q02 H (Y18 u) G trivial (q00 G) G ?_;intro O M w H J hR;obtain rfl:=hR;refine AS G G (NL (TN (RT ?_)));obtain rfl:=oI h;exact q07 G G H.ext G
theorem Y5Y {p0:UInt8}{r:Bool}(h:Y3x p0=some r):Ct Tryz.prog 132 [encB p0] (fun M=>True) (fun v M=>v=Value.bool r):=by
 refine Ct.of Tryz.func132 (enters Tryz.func132 Kr G) G G G ?_;intro K M0 H hp;unfold Y3x at h;refine SQ (RG (AS G G (NL (TN (SQ ?_)))));obtain⟨N,E,h⟩:=bnd h;refine q0c (fun e w =>∃(J:Bool) (M:Mem),e=[(2,Value.bool J)]/\St K M0 M [] w/\some J=some N) [] ?_ ?_ (trivial)
 .
  by_cases u:32<=p0.toNat
  .
   rw[if_pos u] at E;refine RG (MV G G (DT u (q1g (i:=p0.toNat) (j:=32) G G) G (MV G G (SG (q06 G) G G G (SG (Ex.leqB (i:=p0.toNat) (j:=126) G G) G G G (PT G G G (AS G G (NL ?_))))))));exact MN ⟨_,_,G,H,E⟩
  rw[if_neg u] at E;refine RG (MV G G (DF u (q1g (i:=p0.toNat) (j:=32) G G) G (MV G G (GF G G G (GF G G G (PF G G G (AS G G (NL ?_))))))));exact MN ⟨_,_,G,H,E⟩
 rintro e w ⟨J,M,rfl,H,O⟩;obtain rfl:=oI O;refine TN (RT ?_);obtain rfl:=oI h;exact q07 G G H.ext G
theorem Y5s {p0:UInt8}{r:UInt8}(h:Y2W p0=some r):Ct Tryz.prog 168 [encB p0] (fun M=>True) (fun v M=>v=encB r):=by
 refine Ct.of Tryz.func168 (enters Tryz.func168 Kr G) G G G ?_;intro E M0 H hp;unfold Y2W at h;refine SQ (RG (AS G G (NL (TN (SQ ?_)))));obtain⟨J,u,h⟩:=bnd h;refine RG (MV G G (ST (Ex.andB (c:=p0) (d:=15) G G) G (ST (q0p Tu9 G G u) G (AS G G (NL (TN (RT ?_)))))));obtain rfl:=oI h;exact q07 G G H.ext G
theorem Y67 {p0:Ls}{r:List Ls}(h:Y3U p0=some r):Ct Tryz.prog 133 [S p0] (fun M=>True) (fun v M=>Sl M encS v r):=by
 refine Ct.of Tryz.func133 (enters Tryz.func133 Kr G) G G G ?_;intro w0 M0 H hp;unfold Y3U at h;refine SQ (RG (AS G G (NL (TN (SQ (RG (WR.litR (enc:=encS) xty77 ([[117,116,102,56,39,39]]:List Ls) H G Kf (fun _=>G) G G (q00 G) G ?_)))))));intro v7 w H;refine AS G G (NL (TN (SQ (SQ (RG (MV G G (ST (q0g Tu9 G) G (MV G G (NL (TN ?_))))))))));obtain⟨o2,u,h⟩:=bnd h;refine q0c (fun e w =>∃(l5:List Ls) (v6:Value) (M:Mem),e=[(3,v6)]/\St w0 M0 M [RowI 9 encS v6 l5] w/\some l5=some o2) [] ?_ ?_ (trivial)
 .
  refine BL (q0l (fun m e w =>∃(K:List Ls) (N:Value) (O:Int) (M:Mem),e=[(0,S p0),(3,N),(9,I (p0.length:Int)),(10,I O)]/\St w0 M0 M [RowI 9 encS N K] w/\Y1q p0 m K O=some o2) FU [(0,_),(3,_),(9,_),(10,_)] ⟨rfl,rfl,rfl,rfl,trivial⟩ ⟨_,_,_,_,rfl,H,u⟩ ?_);rintro Z e w ⟨K,N,O,M,rfl,H,u⟩;rcases Z with _|Z
  . rw[Y1q] at u;cases u
  rw[Y1q] at u;refine SQ (RG (ST (q0m G G) G (NL (TN (SQ ?_)))));refine CB (p:=O<(p0.length:Int)) G (fun V=>?_) fun V=>?_
  .
   rw[if_pos V] at u;refine SK (TN (SQ (BL (SQ (RG (MV G G (AS G G (NL (TN (SQ ?_))))))))));obtain⟨b6,a4,u⟩:=bnd u;obtain⟨b7,a5,u⟩:=bnd u;refine RG (MV G G (MV G G (MV G G (ST (q0e G G a4) G (ST (Ex.sliceC Tu9 G G G a5) G (AS G G (NL (TN (SQ (SQ ?_))))))))));obtain⟨b8,a6,u⟩:=bnd u;obtain⟨aj,am,u⟩:=bnd u;refine RG (MV G G (MV G G (ST (q0p Tu9 G G a6) G (q02 H (Y1G am) G trivial (q00 G) G ?_))));intro b9 M w H U hR;obtain rfl:=hR;refine ST (q0y G) G (NL (TN ?_));obtain⟨ay,E,u⟩:=bnd u;refine q0c (fun e w =>∃(a0:Ls) (M:Mem),e=[(0,S p0),(3,N),(5,S a0),(9,I (p0.length:Int)),(10,I O)]/\St w0 M0 M [RowI 9 encS N K] w/\some a0=some ay) [] ?_ ?_ (trivial)
   .
    refine q0a G (fun J=>?_) (fun J=>?_)
    .
     replace J:aj=false:=by simpa using J
     subst J;rw[if_neg l00] at E;obtain⟨az,a7,E⟩:=bnd E;obtain⟨b0,an,E⟩:=bnd E;obtain⟨ba,a8,E⟩:=bnd E;obtain⟨b1,ao,E⟩:=bnd E;refine q0x (m:=12) G G H ?_;intro w H;refine TK 0 G (fun _=>q06 G) G (TK 1 G (fun _=>q06 G) G (TK 2 G (fun _=>q0p Tu9 G G a7) G (TK 3 G (fun _=>Ex.shrB (c:=az) (m:=4) G G Dc) G (TK 5 G (fun _=>q06 G) G (TK 6 G (fun _=>q06 G) G (TK 7 G (fun _=>q0p Tu9 G G a8) G ?_))))));refine q0k (fuel:=0) [4,8,9,10,11] G Kr (q02 H (Y5s an) G trivial (q00 G) G ?_);intro bb M w H U hR;obtain rfl:=hR;refine q02 H (Y5s ao) G trivial (q00 G) G ?_;intro bc M w H U hR;obtain rfl:=hR;refine q0O (enc:=encB) xty23 ([37,b0,b1]:Ls) H G Kf (fun _=>G) G G (q00 G) G ?_;intro bd M w H U ap;refine ST (q0Y Tu23 Tu5 Tu9 H (ap) G) G (AS G G (NA (q0f Kr ?_)));exact MN ⟨_,_,G,H,E⟩
    replace J:aj=true:=by simpa using J
    subst J;rw[if_pos rfl] at E;refine SK ?_;exact MN ⟨_,_,G,H,E⟩
   rintro e w ⟨a0,M,rfl,H,b2⟩;obtain rfl:=oI b2;refine TN (SQ ?_);obtain⟨be,a9,u⟩:=bnd u;refine RG (MV G G (ST (q1w (l:=K) Tu77 H Km G) G ?_));refine ST (q0K G G a9) G (AS G G (NL (TN (SQ ?_))));obtain⟨bg,a1,u⟩:=bnd u;obtain⟨b3,aa,u⟩:=bnd u;refine RG (MV G G (MV G G (WR.idxRowC (l:=K) H Tu77 Ts9 Km G G a1 (q00 G) G ?_)));intro bh aq;refine ST (Ex.loadRowC H G aq Km a1 Ta9) G ?_;refine ST (q0g Tu9 G) G (MV G G (ST (q0g Tu9 G) G (ST (q0e G G aa) G (ST (q1q G G) G (NL (TN ?_))))));refine CB (p:=b3<=(60:Int)) G (fun Y=>?_) fun Y=>?_
   .
    rw[if_pos Y] at u;obtain⟨bi,a2,u⟩:=bnd u;obtain⟨b4,ab,u⟩:=bnd u;obtain⟨bj,ac,u⟩:=bnd u;obtain⟨bm,ad,u⟩:=bnd u;refine RG (MV G G (MV G G (WR.idxRowC (l:=K) H Tu77 Ts9 Km G G a2 (q00 G) G ?_)));intro bn ar;refine ST (Ex.loadRowC H G ar Km a2 Ta9) G ?_;refine MV G G (ST (q0d G G ab) G (WR.idxRowC (l:=K) H Tu77 Ts9 Km G G ac (q00 G) G ?_));intro bo au;refine WR.storeRowC (a:=b4) H G G ⟨G,G⟩ au (fun _=>by repeat first|exact .head|apply Upd.tail) ad Ts9 (q00 G) ?_;intro w H;refine NL (IB (TN ?_));obtain⟨bp,ae,u⟩:=bnd u;refine RG (ST (q0e G G ae) G (MV G G (NL ?_)));exact AG Z ⟨_,_,_,_,G,H,u⟩ (l06 _)
   rw[if_neg Y] at u;obtain⟨bq,ah,u⟩:=bnd u;refine RG (MV G G (MV G G (q0O (enc:=encS) xty77 ([a0]:List Ls) H G Kf (fun _=>G) G G (q00 G) G ?_)));intro br M w H U av;refine q0H (l:=K) xty77 G (fun _=>G) H G (fun _=>by repeat first|exact .head|apply Upd.tail) G (av) ah (q00 G) G ?_;intro bs w H;refine AS G G (NL (IB (TN ?_)));obtain⟨bt,ai,u⟩:=bnd u;refine RG (ST (q0e G G ai) G (MV G G (NL ?_)));exact AG Z ⟨_,_,_,_,G,H,u⟩ (l06 _)
  rw[if_neg V] at u;refine q0j (q03 (q03 (q0b ?_)));exact MN ⟨_,_,_,G,H,u⟩
 rintro e w ⟨l5,v6,M,rfl,H,b5⟩;obtain rfl:=oI b5;refine TN (SQ (RG (MV G G (AS G G (NL (TN (RT ?_)))))));obtain⟨M,U,aw,H⟩:=H.freezeRow (v:=v6) (enc:=encS) (t:=9) Kv;obtain rfl:=oI h;exact q07 G G H.ext aw
set_option maxHeartbeats 4000000 in
theorem Y6h {p0 : (Ls × Ls)} {r : Ls} (h : Y4a p0 = some r) : Ct Tryz.prog 95 [Value.agg #[S p0.1, S p0.2]] (fun M => GlF (fun w => Lib.TabIs Tryz.prog w "internal/strconv.uint64pow10" .u64 Lib.pow10Tab) M) (fun v M => v = S r) := by
 refine Ct.of Tryz.func95 (enters Tryz.func95 Kr G) G G G ?_;intro w0 M0 H hp;have u:=hp;unfold Y4a at h;refine SQ (RG (q0F [_,_] H G G (q00 G) G ?_));intro K w H;refine AS G G (NL (TN (SQ (SQ ?_))));obtain⟨b1,ba,h⟩:=bnd h;refine RG (ST (q01 Tu109 G Ts9 Dc G) G (ST (XL H Ta9) G ?_));refine q02 H (Y3L ba) G trivial (q00 G) G ?_;intro v8 M w H E hR;replace u:=u.mono E;obtain rfl:=hR;refine NL (TN ?_);refine q0a G (fun aq=>?_) (fun aq=>?_)
 .
  subst aq;rw[if_pos rfl] at h;refine SQ ?_;obtain⟨s4,b0,h⟩:=bnd h;obtain⟨s5,b2,h⟩:=bnd h;obtain⟨s6,b3,h⟩:=bnd h;refine RG (ST (q01 Tu109 G Ts9 Dc G) G (ST (XL H Ta9) G ?_));refine ST (q0d G G b0) G (ST (q0d G G b2) G (ST (q01 Tu109 G Ts9 Dc G) G (ST (XL H Ta9) G ?_)));refine ST (q0d G G b3) G (AS G G (NL (TN (RT ?_))));obtain rfl:=oI h;exact q07 G G H.ext G
 subst aq;rw[if_neg l00] at h;refine SK (TN (SQ (SQ ?_)));obtain⟨o7,e8,h⟩:=bnd h
 refine q0c (fun e w => ∃ (b9 : Bool) (M : Mem), e = [(1, ptr K 0), (24, Value.bool b9)] /\ St w0 M0 M [.blk K (.cells #[S p0.1, S p0.2] 109)] w /\ GlF (fun w => Lib.TabIs Tryz.prog w "internal/strconv.uint64pow10" .u64 Lib.pow10Tab) M /\ some b9 = some o7) [] ?_ ?_ (trivial)
 .
  refine RG (ST (q01 Tu109 G Ts9 Dc G) G (ST (XL H Ta9) G ?_));refine ST (q0g Tu9 G) G ?_;by_cases aa:(p0.2.length:Int)<=(60:Int)
  .
   rw[if_pos aa] at e8;obtain⟨bj,b5,e8⟩:=bnd e8;refine DT aa (q1q G G) G (MV G G (SG (q01 Tu109 G Ts9 Dc G) G G G (SG (XL H Ta9) G G G ?_)));refine q02 H (Y4m b5) G ((fun _ _ h=>FnV.of (Y5Y h) (fun _ _=>trivial))) (q0h G G G) G ?_;intro bm M w H E hR;replace u:=u.mono E;obtain rfl:=hR;refine PT G G G (NL ?_);exact MN ⟨_,_,G,H,u,e8⟩
  rw[if_neg aa] at e8;refine DF aa (q1q G G) G (MV G G (q0i 3 G G (PF G G G (NL ?_))));exact MN ⟨_,_,G,H,u,e8⟩
 rintro e w ⟨b9,M,rfl,H,u,bb⟩;obtain rfl:=oI bb;refine TN ?_;refine q0a G (fun ac=>?_) (fun ac=>?_)
 .
  subst ac;rw[if_pos rfl] at h;refine SQ ?_;obtain⟨bn,a0,h⟩:=bnd h;obtain⟨bo,a1,h⟩:=bnd h;obtain⟨_,a5,h⟩:=bnd h;obtain⟨bp,V,h⟩:=bnd h;obtain⟨bq,Y,h⟩:=bnd h;obtain⟨bc,Z,h⟩:=bnd h
  refine q0V (fun e w => ∃  (M : Mem), e = [(2, S bc)] /\ St w0 M0 M [] w /\ GlF (fun w => Lib.TabIs Tryz.prog w "internal/strconv.uint64pow10" .u64 Lib.pow10Tab) M) ?_ ?_
  .
   refine q0x (m:=12) G G H ?_;intro w H;refine TK 0 G (fun _=>q01 Tu109 G Ts9 Dc G) G (TK 6 G (fun _=>q01 Tu109 G Ts9 Dc G) G ?_);refine WA.three (i:=1) (j:=4) (k:=7) Kr G G G ?_ ?_ ?_
   .
    refine ST (XL H Ta9) G ?_;refine NA (TK 2 G (fun _=>q0d G G a0) G (TK 3 G (fun _=>q0d G G a1) G ?_));refine q0E (i:=4) (j:=7) Kr G G ?_ ?_
    .
     refine q0O (enc:=encS) xty77 ([[92],[92,92],[34],[92,34]]:List Ls) H G Kf (fun _=>G) G G (q00 G) G ?_;intro ae M w H E a3;replace u:=u.mono E;refine NA ?_;refine q0E (i:=5) (j:=7) Kr G G ?_ ?_
     .
      refine q0q (A:=[]) (B:=[.blk K (.cells #[S p0.1,S p0.2] 109)]) H (Y0a a5) (q0r _) G (a3) (q00 G) G ?_;intro a8 M w its H E hR;replace u:=u.mono E;obtain⟨J,N,rfl,O,rfl⟩:=hR;simp only[l02,l03] at H;refine NA (q0k (fuel:=0) [7,8,9,10,11] G Kr (ST (XL H Ta9) G ?_));refine q0q (A:=[.blk J (.cells N 140)]) (B:=[.blk K (.cells #[S p0.1,S p0.2] 109)]) (H.pick (L':=[.blk J (.cells N 140), .blk K (.cells #[S p0.1,S p0.2] 109)]) Kp) (Y01 V) (.left (q0r _)) G O (q00 G) G ?_;intro a6 M w its H E hR;replace u:=u.mono E;obtain⟨a7,rfl,a4,rfl⟩:=hR;simp only[l02,l03] at H;refine ST (q0d G G Y) G (ST (q0d G G Z) G (AS G G (NA (q0f Kr ?_))));exact MP ⟨_,G,(H.pick (L':=[]) Kp),u⟩
     refine ST (XL H Ta9) G ?_;refine NA (q0k (fuel:=0) [5,8,9,10,11] G Kr (q0q (A:=[]) (B:=[.blk K (.cells #[S p0.1,S p0.2] 109)]) H (Y0a a5) (q0r _) G (a3) (q00 G) G ?_));intro a8 M w its H E hR;replace u:=u.mono E;obtain⟨J,N,rfl,O,rfl⟩:=hR;simp only[l02,l03] at H;refine q0q (A:=[.blk J (.cells N 140)]) (B:=[.blk K (.cells #[S p0.1,S p0.2] 109)]) (H.pick (L':=[.blk J (.cells N 140), .blk K (.cells #[S p0.1,S p0.2] 109)]) Kp) (Y01 V) (.left (q0r _)) G O (q00 G) G ?_;intro a6 M w its H E hR;replace u:=u.mono E;obtain⟨a7,rfl,a4,rfl⟩:=hR;simp only[l02,l03] at H;refine ST (q0d G G Y) G (ST (q0d G G Z) G (AS G G (NA (q0f Kr ?_))));exact MP ⟨_,G,(H.pick (L':=[]) Kp),u⟩
    refine ST (XL H Ta9) G ?_;refine NA (q0k (fuel:=0) [4,5,8,9,10,11] G Kr (q0O (enc:=encS) xty77 ([[92],[92,92],[34],[92,34]]:List Ls) H G Kf (fun _=>G) G G (q00 G) G ?_));intro ae M w H E a3;replace u:=u.mono E;refine q0q (A:=[]) (B:=[.blk K (.cells #[S p0.1,S p0.2] 109)]) H (Y0a a5) (q0r _) G (a3) (q00 G) G ?_;intro a8 M w its H E hR;replace u:=u.mono E;obtain⟨J,N,rfl,O,rfl⟩:=hR;simp only[l02,l03] at H;refine q0q (A:=[.blk J (.cells N 140)]) (B:=[.blk K (.cells #[S p0.1,S p0.2] 109)]) (H.pick (L':=[.blk J (.cells N 140), .blk K (.cells #[S p0.1,S p0.2] 109)]) Kp) (Y01 V) (.left (q0r _)) G O (q00 G) G ?_;intro a6 M w its H E hR;replace u:=u.mono E;obtain⟨a7,rfl,a4,rfl⟩:=hR;simp only[l02,l03] at H;refine ST (q0d G G Y) G (ST (q0d G G Z) G (AS G G (NA (q0f Kr ?_))));exact MP ⟨_,G,(H.pick (L':=[]) Kp),u⟩
   .
    refine q0O (enc:=encS) xty77 ([[92],[92,92],[34],[92,34]]:List Ls) H G Kf (fun _=>G) G G (q00 G) G ?_;intro ae M w H E a3;replace u:=u.mono E;refine NA ?_;refine WA.three (i:=1) (j:=5) (k:=7) Kr G G G ?_ ?_ ?_
    .
     refine ST (XL H Ta9) G ?_;refine NA (TK 2 G (fun _=>q0d G G a0) G (TK 3 G (fun _=>q0d G G a1) G ?_));refine q0E (i:=5) (j:=7) Kr G G ?_ ?_
     .
      refine q0q (A:=[]) (B:=[.blk K (.cells #[S p0.1,S p0.2] 109)]) H (Y0a a5) (q0r _) G (a3) (q00 G) G ?_;intro a8 M w its H E hR;replace u:=u.mono E;obtain⟨J,N,rfl,O,rfl⟩:=hR;simp only[l02,l03] at H;refine NA (q0k (fuel:=0) [7,8,9,10,11] G Kr (ST (XL H Ta9) G ?_));refine q0q (A:=[.blk J (.cells N 140)]) (B:=[.blk K (.cells #[S p0.1,S p0.2] 109)]) (H.pick (L':=[.blk J (.cells N 140), .blk K (.cells #[S p0.1,S p0.2] 109)]) Kp) (Y01 V) (.left (q0r _)) G O (q00 G) G ?_;intro a6 M w its H E hR;replace u:=u.mono E;obtain⟨a7,rfl,a4,rfl⟩:=hR;simp only[l02,l03] at H;refine ST (q0d G G Y) G (ST (q0d G G Z) G (AS G G (NA (q0f Kr ?_))));exact MP ⟨_,G,(H.pick (L':=[]) Kp),u⟩
     refine ST (XL H Ta9) G ?_;refine NA (q0k (fuel:=0) [5,8,9,10,11] G Kr (q0q (A:=[]) (B:=[.blk K (.cells #[S p0.1,S p0.2] 109)]) H (Y0a a5) (q0r _) G (a3) (q00 G) G ?_));intro a8 M w its H E hR;replace u:=u.mono E;obtain⟨J,N,rfl,O,rfl⟩:=hR;simp only[l02,l03] at H;refine q0q (A:=[.blk J (.cells N 140)]) (B:=[.blk K (.cells #[S p0.1,S p0.2] 109)]) (H.pick (L':=[.blk J (.cells N 140), .blk K (.cells #[S p0.1,S p0.2] 109)]) Kp) (Y01 V) (.left (q0r _)) G O (q00 G) G ?_;intro a6 M w its H E hR;replace u:=u.mono E;obtain⟨a7,rfl,a4,rfl⟩:=hR;simp only[l02,l03] at H;refine ST (q0d G G Y) G (ST (q0d G G Z) G (AS G G (NA (q0f Kr ?_))));exact MP ⟨_,G,(H.pick (L':=[]) Kp),u⟩
    .
     refine q0q (A:=[]) (B:=[.blk K (.cells #[S p0.1,S p0.2] 109)]) H (Y0a a5) (q0r _) G (a3) (q00 G) G ?_;intro a8 M w its H E hR;replace u:=u.mono E;obtain⟨J,N,rfl,O,rfl⟩:=hR;simp only[l02,l03] at H;refine NA ?_;refine q0E (i:=1) (j:=7) Kr G G ?_ ?_
     .
      refine ST (XL H Ta9) G ?_;refine NA (TK 2 G (fun _=>q0d G G a0) G (TK 3 G (fun _=>q0d G G a1) G (q0k (fuel:=0) [7,8,9,10,11] G Kr (ST (XL H Ta9) G ?_))));refine q0q (A:=[.blk J (.cells N 140)]) (B:=[.blk K (.cells #[S p0.1,S p0.2] 109)]) (H.pick (L':=[.blk J (.cells N 140), .blk K (.cells #[S p0.1,S p0.2] 109)]) Kp) (Y01 V) (.left (q0r _)) G O (q00 G) G ?_;intro a6 M w its H E hR;replace u:=u.mono E;obtain⟨a7,rfl,a4,rfl⟩:=hR;simp only[l02,l03] at H;refine ST (q0d G G Y) G (ST (q0d G G Z) G (AS G G (NA (q0f Kr ?_))));exact MP ⟨_,G,(H.pick (L':=[]) Kp),u⟩
     refine ST (XL H Ta9) G ?_;refine NA ?_;refine q0E (i:=1) (j:=8) Kr G G ?_ ?_
     .
      refine ST (XL H Ta9) G ?_;refine NA (TK 2 G (fun _=>q0d G G a0) G (TK 3 G (fun _=>q0d G G a1) G (q0k (fuel:=0) [8,9,10,11] G Kr ?_)));refine q0q (A:=[.blk J (.cells N 140)]) (B:=[.blk K (.cells #[S p0.1,S p0.2] 109)]) (H.pick (L':=[.blk J (.cells N 140), .blk K (.cells #[S p0.1,S p0.2] 109)]) Kp) (Y01 V) (.left (q0r _)) G O (q00 G) G ?_;intro a6 M w its H E hR;replace u:=u.mono E;obtain⟨a7,rfl,a4,rfl⟩:=hR;simp only[l02,l03] at H;refine ST (q0d G G Y) G (ST (q0d G G Z) G (AS G G (NA (q0f Kr ?_))));exact MP ⟨_,G,(H.pick (L':=[]) Kp),u⟩
     refine q0q (A:=[.blk J (.cells N 140)]) (B:=[.blk K (.cells #[S p0.1,S p0.2] 109)]) (H.pick (L':=[.blk J (.cells N 140), .blk K (.cells #[S p0.1,S p0.2] 109)]) Kp) (Y01 V) (.left (q0r _)) G O (q00 G) G ?_;intro a6 M w its H E hR;replace u:=u.mono E;obtain⟨a7,rfl,a4,rfl⟩:=hR;simp only[l02,l03] at H;refine NA (q0k (fuel:=0) [1,2,3,9,10,11] G Kr (ST (XL H Ta9) G ?_));refine ST (q0d G G a0) G (ST (q0d G G a1) G (ST (q0d G G Y) G (ST (q0d G G Z) G (AS G G (NA (q0f Kr ?_))))));exact MP ⟨_,G,(H.pick (L':=[]) Kp),u⟩
    refine ST (XL H Ta9) G ?_;refine NA ?_;refine q0E (i:=1) (j:=5) Kr G G ?_ ?_
    .
     refine ST (XL H Ta9) G ?_;refine NA (TK 2 G (fun _=>q0d G G a0) G (TK 3 G (fun _=>q0d G G a1) G (q0k (fuel:=0) [5,8,9,10,11] G Kr (q0q (A:=[]) (B:=[.blk K (.cells #[S p0.1,S p0.2] 109)]) H (Y0a a5) (q0r _) G (a3) (q00 G) G ?_))));intro a8 M w its H E hR;replace u:=u.mono E;obtain⟨J,N,rfl,O,rfl⟩:=hR;simp only[l02,l03] at H;refine q0q (A:=[.blk J (.cells N 140)]) (B:=[.blk K (.cells #[S p0.1,S p0.2] 109)]) (H.pick (L':=[.blk J (.cells N 140), .blk K (.cells #[S p0.1,S p0.2] 109)]) Kp) (Y01 V) (.left (q0r _)) G O (q00 G) G ?_;intro a6 M w its H E hR;replace u:=u.mono E;obtain⟨a7,rfl,a4,rfl⟩:=hR;simp only[l02,l03] at H;refine ST (q0d G G Y) G (ST (q0d G G Z) G (AS G G (NA (q0f Kr ?_))));exact MP ⟨_,G,(H.pick (L':=[]) Kp),u⟩
    refine q0q (A:=[]) (B:=[.blk K (.cells #[S p0.1,S p0.2] 109)]) H (Y0a a5) (q0r _) G (a3) (q00 G) G ?_;intro a8 M w its H E hR;replace u:=u.mono E;obtain⟨J,N,rfl,O,rfl⟩:=hR;simp only[l02,l03] at H;refine NA ?_;refine q0E (i:=1) (j:=8) Kr G G ?_ ?_
    .
     refine ST (XL H Ta9) G ?_;refine NA (TK 2 G (fun _=>q0d G G a0) G (TK 3 G (fun _=>q0d G G a1) G (q0k (fuel:=0) [8,9,10,11] G Kr ?_)));refine q0q (A:=[.blk J (.cells N 140)]) (B:=[.blk K (.cells #[S p0.1,S p0.2] 109)]) (H.pick (L':=[.blk J (.cells N 140), .blk K (.cells #[S p0.1,S p0.2] 109)]) Kp) (Y01 V) (.left (q0r _)) G O (q00 G) G ?_;intro a6 M w its H E hR;replace u:=u.mono E;obtain⟨a7,rfl,a4,rfl⟩:=hR;simp only[l02,l03] at H;refine ST (q0d G G Y) G (ST (q0d G G Z) G (AS G G (NA (q0f Kr ?_))));exact MP ⟨_,G,(H.pick (L':=[]) Kp),u⟩
    refine q0q (A:=[.blk J (.cells N 140)]) (B:=[.blk K (.cells #[S p0.1,S p0.2] 109)]) (H.pick (L':=[.blk J (.cells N 140), .blk K (.cells #[S p0.1,S p0.2] 109)]) Kp) (Y01 V) (.left (q0r _)) G O (q00 G) G ?_;intro a6 M w its H E hR;replace u:=u.mono E;obtain⟨a7,rfl,a4,rfl⟩:=hR;simp only[l02,l03] at H;refine NA (q0k (fuel:=0) [1,2,3,9,10,11] G Kr (ST (XL H Ta9) G ?_));refine ST (q0d G G a0) G (ST (q0d G G a1) G (ST (q0d G G Y) G (ST (q0d G G Z) G (AS G G (NA (q0f Kr ?_))))));exact MP ⟨_,G,(H.pick (L':=[]) Kp),u⟩
   refine ST (XL H Ta9) G ?_;refine NA ?_;refine q0E (i:=1) (j:=4) Kr G G ?_ ?_
   .
    refine ST (XL H Ta9) G ?_;refine NA (TK 2 G (fun _=>q0d G G a0) G (TK 3 G (fun _=>q0d G G a1) G (q0k (fuel:=0) [4,5,8,9,10,11] G Kr (q0O (enc:=encS) xty77 ([[92],[92,92],[34],[92,34]]:List Ls) H G Kf (fun _=>G) G G (q00 G) G ?_))));intro ae M w H E a3;replace u:=u.mono E;refine q0q (A:=[]) (B:=[.blk K (.cells #[S p0.1,S p0.2] 109)]) H (Y0a a5) (q0r _) G (a3) (q00 G) G ?_;intro a8 M w its H E hR;replace u:=u.mono E;obtain⟨J,N,rfl,O,rfl⟩:=hR;simp only[l02,l03] at H;refine q0q (A:=[.blk J (.cells N 140)]) (B:=[.blk K (.cells #[S p0.1,S p0.2] 109)]) (H.pick (L':=[.blk J (.cells N 140), .blk K (.cells #[S p0.1,S p0.2] 109)]) Kp) (Y01 V) (.left (q0r _)) G O (q00 G) G ?_;intro a6 M w its H E hR;replace u:=u.mono E;obtain⟨a7,rfl,a4,rfl⟩:=hR;simp only[l02,l03] at H;refine ST (q0d G G Y) G (ST (q0d G G Z) G (AS G G (NA (q0f Kr ?_))));exact MP ⟨_,G,(H.pick (L':=[]) Kp),u⟩
   refine q0O (enc:=encS) xty77 ([[92],[92,92],[34],[92,34]]:List Ls) H G Kf (fun _=>G) G G (q00 G) G ?_;intro ae M w H E a3;replace u:=u.mono E;refine NA ?_;refine q0E (i:=1) (j:=5) Kr G G ?_ ?_
   .
    refine ST (XL H Ta9) G ?_;refine NA (TK 2 G (fun _=>q0d G G a0) G (TK 3 G (fun _=>q0d G G a1) G (q0k (fuel:=0) [5,8,9,10,11] G Kr (q0q (A:=[]) (B:=[.blk K (.cells #[S p0.1,S p0.2] 109)]) H (Y0a a5) (q0r _) G (a3) (q00 G) G ?_))));intro a8 M w its H E hR;replace u:=u.mono E;obtain⟨J,N,rfl,O,rfl⟩:=hR;simp only[l02,l03] at H;refine q0q (A:=[.blk J (.cells N 140)]) (B:=[.blk K (.cells #[S p0.1,S p0.2] 109)]) (H.pick (L':=[.blk J (.cells N 140), .blk K (.cells #[S p0.1,S p0.2] 109)]) Kp) (Y01 V) (.left (q0r _)) G O (q00 G) G ?_;intro a6 M w its H E hR;replace u:=u.mono E;obtain⟨a7,rfl,a4,rfl⟩:=hR;simp only[l02,l03] at H;refine ST (q0d G G Y) G (ST (q0d G G Z) G (AS G G (NA (q0f Kr ?_))));exact MP ⟨_,G,(H.pick (L':=[]) Kp),u⟩
   refine q0q (A:=[]) (B:=[.blk K (.cells #[S p0.1,S p0.2] 109)]) H (Y0a a5) (q0r _) G (a3) (q00 G) G ?_;intro a8 M w its H E hR;replace u:=u.mono E;obtain⟨J,N,rfl,O,rfl⟩:=hR;simp only[l02,l03] at H;refine NA ?_;refine q0E (i:=1) (j:=8) Kr G G ?_ ?_
   .
    refine ST (XL H Ta9) G ?_;refine NA (TK 2 G (fun _=>q0d G G a0) G (TK 3 G (fun _=>q0d G G a1) G (q0k (fuel:=0) [8,9,10,11] G Kr ?_)));refine q0q (A:=[.blk J (.cells N 140)]) (B:=[.blk K (.cells #[S p0.1,S p0.2] 109)]) (H.pick (L':=[.blk J (.cells N 140), .blk K (.cells #[S p0.1,S p0.2] 109)]) Kp) (Y01 V) (.left (q0r _)) G O (q00 G) G ?_;intro a6 M w its H E hR;replace u:=u.mono E;obtain⟨a7,rfl,a4,rfl⟩:=hR;simp only[l02,l03] at H;refine ST (q0d G G Y) G (ST (q0d G G Z) G (AS G G (NA (q0f Kr ?_))));exact MP ⟨_,G,(H.pick (L':=[]) Kp),u⟩
   refine q0q (A:=[.blk J (.cells N 140)]) (B:=[.blk K (.cells #[S p0.1,S p0.2] 109)]) (H.pick (L':=[.blk J (.cells N 140), .blk K (.cells #[S p0.1,S p0.2] 109)]) Kp) (Y01 V) (.left (q0r _)) G O (q00 G) G ?_;intro a6 M w its H E hR;replace u:=u.mono E;obtain⟨a7,rfl,a4,rfl⟩:=hR;simp only[l02,l03] at H;refine NA (q0k (fuel:=0) [1,2,3,9,10,11] G Kr (ST (XL H Ta9) G ?_));refine ST (q0d G G a0) G (ST (q0d G G a1) G (ST (q0d G G Y) G (ST (q0d G G Z) G (AS G G (NA (q0f Kr ?_))))));exact MP ⟨_,G,(H.pick (L':=[]) Kp),u⟩
  rintro e w ⟨M,rfl,H,u⟩;refine TN (RT ?_);obtain rfl:=oI h;exact q07 G G H.ext G
 subst ac;rw[if_neg l00] at h;refine SK (TN (SQ (RG (AS G G (NL (TN (SQ (SQ ?_))))))));obtain⟨a9,b6,h⟩:=bnd h;refine RG (ST (q01 Tu109 G Ts9 Dc G) G (ST (XL H Ta9) G ?_));refine q02 H (Y67 b6) G trivial (q00 G) G ?_;intro ah M w H E hR;replace u:=u.mono E;have a2:=hR;refine ST (q0o Tu77 a2 G) G (MV G G (NL (TN ?_)));obtain⟨az,U,h⟩:=bnd h
 refine q0c (fun e w => ∃ (ar : Ls) (M : Mem), e = [(3, S ar)] /\ St w0 M0 M [] w /\ GlF (fun w => Lib.TabIs Tryz.prog w "internal/strconv.uint64pow10" .u64 Lib.pow10Tab) M /\ some ar = some az) [] ?_ ?_ (trivial)
 .
  refine BL (q0l (fun m e w => ∃ (au : Ls) (ab : Int) (M : Mem), e = [(1, ptr K 0), (3, S au), (38, ah), (39, I (a9.length : Int)), (40, I ab)] /\ St w0 M0 M [.blk K (.cells #[S p0.1, S p0.2] 109)] w /\ GlF (fun w => Lib.TabIs Tryz.prog w "internal/strconv.uint64pow10" .u64 Lib.pow10Tab) M /\ Sl M encS ah a9 /\ Y1A p0 a9 m au ab = some az) FU [(1, _), (3, _), (38, _), (39, _), (40, _)] ⟨rfl, rfl, rfl, rfl, rfl, trivial⟩ ⟨_, _, _, rfl, H, u, a2, U⟩ ?_)
  rintro av e w ⟨au,ab,M,rfl,H,u,a2,U⟩;rcases av with _|av
  . rw[Y1A] at U;cases U
  rw[Y1A] at U;refine SQ (RG (ST (q0m G G) G (NL (TN (SQ ?_)))));refine CB (p:=ab<(a9.length:Int)) G (fun ad=>?_) fun ad=>?_
  .
   rw[if_pos ad] at U;refine SK (TN (SQ (BL (SQ ?_))));obtain⟨br,ax,U⟩:=bnd U;obtain⟨bi,bs,b7,b8⟩:=a2.atC ax;refine RG (MV G G (ST (q0s b7 Tu77 Ts9 G G) G (ST (q0n H G b8 Ta9) G (AS G G (AS G G (NL (TN ?_)))))));obtain⟨bt,ai,U⟩:=bnd U;obtain⟨bu,aj,U⟩:=bnd U;obtain⟨bv,aw,U⟩:=bnd U;obtain⟨bw,ak,U⟩:=bnd U;obtain⟨bx,al,U⟩:=bnd U;obtain⟨bz,am,U⟩:=bnd U;obtain⟨bd,an,U⟩:=bnd U
   refine q0V (fun e w => ∃  (M : Mem), e = [(1, ptr K 0), (3, S bd), (38, ah), (39, I (a9.length : Int)), (40, I ab)] /\ St w0 M0 M [.blk K (.cells #[S p0.1, S p0.2] 109)] w /\ GlF (fun w => Lib.TabIs Tryz.prog w "internal/strconv.uint64pow10" .u64 Lib.pow10Tab) M /\ Sl M encS ah a9) ?_ ?_
   .
    refine q0x (m:=13) G G H ?_;intro w H;refine TK 0 G (fun _=>q06 G) G (TK 1 G (fun _=>q01 Tu109 G Ts9 Dc G) G (TK 5 G (fun _=>q06 G) G (TK 9 G (fun _=>q06 G) G ?_)));refine q0E (i:=2) (j:=6) Kr G G ?_ ?_
    .
     refine ST (XL H Ta9) G ?_;refine NA (TK 3 G (fun _=>q0d G G ai) G (TK 4 G (fun _=>q0d G G aj) G (q0k (fuel:=0) [6,7,8,10,11,12] G Kr (q02 H (strconv_Itoa_ct aw) G (u) (q00 G) G ?_))));intro be M w H E hR;replace u:=u.mono E;replace a2:=a2.mono E;obtain rfl:=hR;refine ST (q0d G G ak) G (ST (q0d G G al) G (ST (q0d G G am) G (ST (q0d G G an) G (AS G G (NA (q0f Kr ?_))))));exact MP ⟨_,G,H,u,a2⟩
    refine q02 H (strconv_Itoa_ct aw) G (u) (q00 G) G ?_;intro be M w H E hR;replace u:=u.mono E;replace a2:=a2.mono E;obtain rfl:=hR;refine NA (q0k (fuel:=0) [2,3,4,7,8,10,11,12] G Kr (ST (XL H Ta9) G ?_));refine ST (q0d G G ai) G (ST (q0d G G aj) G (ST (q0d G G ak) G (ST (q0d G G al) G (ST (q0d G G am) G (ST (q0d G G an) G (AS G G (NA (q0f Kr ?_))))))));exact MP ⟨_,G,H,u,a2⟩
   rintro e w ⟨M,rfl,H,u,a2⟩;refine IB (TN ?_);obtain⟨c0,ay,U⟩:=bnd U;refine RG (ST (q0e G G ay) G (MV G G (NL ?_)));exact AG av ⟨_,_,_,G,H,u,a2,U⟩ (l06 _)
  rw[if_neg ad] at U;refine q0j (q03 (q03 (q0b ?_)));exact MN ⟨_,_,G,(H.pick (L':=[]) Kp),u,U⟩
 rintro e w ⟨ar,M,rfl,H,u,bg⟩;obtain rfl:=oI bg;refine TN (SQ (RG (MV G G (AS G G (NL (TN (RT ?_)))))));obtain rfl:=oI h;exact q07 G G H.ext G
theorem Y4w {p0 : (Ls × Ls × List (Ls × Ls))}{O : Value}{r : (Ls × (Int × Int))}(h : Y3m p0 = some r): Ct Tryz.prog 56 [Value.agg #[S p0.1, S p0.2.1, O]] (fun M => GlF (fun w => Lib.TabIs Tryz.prog w "internal/strconv.uint64pow10" .u64 Lib.pow10Tab) M /\ Tabs M /\ SlS M 2 xenc109 O p0.2.2) (fun v M => v = Value.tuple #[S r.1, Value.agg #[I r.2.1, I r.2.2]]) := by
 refine Ct.of Tryz.func56 (enters Tryz.func56 Kr G) G G G ?_;intro w0 M0 H hp;obtain⟨u,N,E⟩:=hp;unfold Y3m at h;refine SQ (RG (q0F [_,_,_] H G G (q00 G) G ?_));intro am w H;refine AS G G (q09 [_,_] H Tz28 G (q00 G) G ?_);intro U w H;refine NL (TN (SQ (SQ ?_)));obtain⟨⟨n1,n2⟩,ah,h⟩:=bnd h;try dsimp only at h
 refine RG (ST (q08 H G Km Ta105 Ts105 Kf) G ?_);refine q02 H (Y3J ah) G ⟨N,E⟩ (q00 G) G ?_;intro v9 M w H K hR;replace u:=u.mono K;replace N:=N.mono K;replace E:=E.mono K;try dsimp only at hR
 obtain rfl:=hR;refine q09 [_,_] H Tz28 G (q00 G) G ?_;intro an w H;refine q04 [_,_] H G G G Ku Ts28 G Kf Kf (q00 G) ?_;intro w H;refine NL (TN (SQ ?_));obtain⟨b4,ai,h⟩:=bnd h;refine RG (ST (q08 H G Km Ta28 Ts28 Kf) G ?_);refine q02 H (Y06 ai) G trivial (q00 G) G ?_;intro ao M w H K hR;replace u:=u.mono K;replace N:=N.mono K;replace E:=E.mono K;obtain rfl:=hR;refine NL (TN ?_);refine q0a G (fun a1=>?_) (fun a1=>?_)
 .
  subst a1;rw[if_pos rfl] at h;refine SQ (q0x (m:=3) G G H ?_);intro w H;refine TK 1 G (fun _=>q1u G) G (q0k (fuel:=0) [0,2] G Kr (ST (q08 H G Km Ta28 Ts28 Kf) G ?_));refine q04 [_,_] H G G G Ku Ts28 G Kf Kf (q00 G) ?_;intro w H;refine NA (q0f Kr (TN (RT ?_)));obtain rfl:=oI h;exact q0t G G ⟨_,G,H.loadAgg Km Ta28 Ts28 Kf⟩ H.ext G
 subst a1;rw[if_neg l00] at h;refine SK (TN (SQ ?_));obtain⟨s7,a7,h⟩:=bnd h;obtain⟨s8,a8,h⟩:=bnd h;refine RG (ST (q01 Tu105 G Ts9 Dc G) G (ST (XL H Ta9) G ?_));refine ST (q0d G G a7) G (ST (q01 Tu105 G Ts9 Dc G) G (ST (XL H Ta9) G ?_));refine ST (q0d G G a8) G (AS G G (NL (TN (SQ (SQ (RG (ST (q01 Tu105 G Ts103 Dc G) G (ST (XL H Ta103) G ?_))))))));refine ST (q0N Tu103 E G) G (MV G G (NL (TN ?_)));obtain⟨o9,J,h⟩:=bnd h
 refine q0c (fun e w => ∃ (Z : Ls) (M : Mem), e = [(3, ptr U 0), (5, S Z)] /\ St w0 M0 M [.blk U (.cells #[I 0, I 0] 28)] w /\ GlF (fun w => Lib.TabIs Tryz.prog w "internal/strconv.uint64pow10" .u64 Lib.pow10Tab) M /\ Tabs M /\ some Z = some o9) [] ?_ ?_ (trivial)
 .
  refine BL ?_
  refine q0l (fun m e w => ∃ (a2 : Ls) (a0 : Int) (M : Mem), e = [(3, ptr U 0), (5, S a2), (20, O), (21, I (p0.2.2.length : Int)), (22, I a0)] /\ St w0 M0 M [.blk U (.cells #[I 0, I 0] 28)] w /\ GlF (fun w => Lib.TabIs Tryz.prog w "internal/strconv.uint64pow10" .u64 Lib.pow10Tab) M /\ Tabs M /\ SlS M 2 xenc109 O p0.2.2 /\ Y1V p0 m a2 a0 = some o9) FU [(3, _), (5, _), (20, _), (21, _), (22, _)] ⟨rfl, rfl, rfl, rfl, rfl, trivial⟩ ⟨_, _, _, rfl, (H.pick (L' := [.blk U (.cells #[I 0, I 0] 28)]) Kp), u, N, E, J⟩ ?_
  rintro a3 e w ⟨a2,a0,M,rfl,H,u,N,E,J⟩;rcases a3 with _|a3
  . rw[Y1V] at J;cases J
  rw[Y1V] at J;refine SQ (RG (ST (q0m G G) G (NL (TN (SQ ?_)))));refine CB (p:=a0<(p0.2.2.length:Int)) G (fun V=>?_) fun V=>?_
  .
   rw[if_pos V] at J;refine SK (TN (SQ (BL (SQ ?_))));obtain⟨ap,a4,J⟩:=bnd J;obtain⟨al,aq,a9,aa⟩:=E.atC a4;refine RG (ST (q0s a9 Tu103 Ts109 G G) G (ST (q0G H G aa Ta109 Ts109 Kf) G ?_));refine q09 [_,_] H Tz109 G (q00 G) G ?_;intro ar w H;refine q04 [_,_] H G G G Ku Ts109 G Kf Kf (q00 G) ?_;intro w H;refine NL (TN ?_);obtain⟨au,ab,J⟩:=bnd J;obtain⟨av,a5,J⟩:=bnd J;refine RG (MV G G (ST (q08 H G Km Ta109 Ts109 Kf) G ?_));refine q02 H (Y6h ab) G (u) (q00 G) G ?_;intro aw M w H K hR;replace u:=u.mono K;replace N:=N.mono K;replace E:=E.mono K;obtain rfl:=hR;refine ST (q0d G G a5) G (AS G G (NL (IB (TN ?_))));obtain⟨ax,a6,J⟩:=bnd J;refine RG (ST (q0e G G a6) G (MV G G (NL ?_)));exact AG a3 ⟨_,_,_,G,(H.pick (L':=[.blk U (.cells #[I 0,I 0] 28)]) Kp),u,N,E,J⟩ (l06 _)
  rw[if_neg V] at J;refine q0j (q03 (q03 (q0b ?_)));exact MN ⟨_,_,G,H,u,N,J⟩
 rintro e w ⟨Z,M,rfl,H,u,N,ak⟩;obtain rfl:=oI ak;refine TN (SQ (SQ (RG (MV G G (ST (q0g Tu9 G) G (ST (q0C G G) G (NL (TN ?_))))))));refine CB (p:=(4000:Int)<(Z.length:Int)) G (fun Y=>?_) fun Y=>?_
 .
  rw[if_pos Y] at h;refine SQ ?_;obtain⟨⟨ay,az⟩,ac,h⟩:=bnd h;try dsimp only at h
  refine RG (q02 H (Y02 ac) G trivial (q00 G) G ?_);intro b0 M w H K hR;try dsimp only at hR
  obtain rfl:=hR;refine AS G G (q04 [_,_] H G G G Ku Ts28 G Kf Kf (q00 G) ?_);intro w H;refine NL (TN (RT ?_));obtain rfl:=oI h;exact q0t G G ⟨_,G,H.loadAgg Km Ta28 Ts28 Kf⟩ H.ext G
 rw[if_neg Y] at h;refine SK (TN (SQ ?_));obtain⟨⟨b1,b2⟩,ad,h⟩:=bnd h;try dsimp only at h
 refine RG (MV G G (q02 H (Y07 ad) G trivial (q00 G) G ?_));intro b3 M w H K hR;try dsimp only at hR
 obtain rfl:=hR;refine AS G G (q04 [_,_] H G G G Ku Ts28 G Kf Kf (q00 G) ?_);intro w H;refine NL (TN (RT ?_));obtain rfl:=oI h;exact q0t G G ⟨_,G,H.loadAgg Km Ta28 Ts28 Kf⟩ H.ext G
theorem Y6t {p0 : List (Ls × Ls)}{a0 : Value}{r : (List (Ls × Ls) × Bool)}(h : Y4E p0 = some r): Ct Tryz.prog 46 [a0] (fun M => GlF (fun w => ∃ tp p, w.var? Tryz.prog "strconv.ErrRange" = some #[.iface tp p]) M /\ GlF (fun w => ∃ tp p, w.var? Tryz.prog "strconv.ErrSyntax" = some #[.iface tp p]) M /\ GlF (fun w => ∃ m, w.cell? ⟨0, 0, none⟩ = some (.int .i64 m)) M /\ GlF (fun w => Lib.TabIs Tryz.prog w "internal/strconv.uint64pow10" .u64 Lib.pow10Tab) M /\ Tabs M /\ SlS M 2 xenc46 a0 p0) (fun v M => ∃ x0, v = Value.tuple #[x0, Value.bool r.2] /\ SlS M 2 xenc46 x0 r.1) := by
 refine Ct.of Tryz.func46 (enters Tryz.func46 Kr G) G G G ?_;intro w0 M0 H hp;obtain⟨V,Y,gM,u,N,K⟩:=hp;unfold Y4E at h;refine SQ (RG (AS G G (AS G G (NL (TN (SQ ?_))))));obtain⟨⟨⟨s1,s2,l3⟩,n4,b5⟩,ad,h⟩:=bnd h;try dsimp only at h
 refine RG (MV G G (q1l H (Y42 ad) G ⟨V,Y,gM,u,N,K⟩ (q00 G) G ?_));intro al M w its H E hR;replace u:=u.mono E;replace N:=N.mono E;replace K:=K.mono E;try dsimp only at hR
 obtain⟨J,rfl,rfl⟩:=hR;simp only[l02,l03] at H;refine MV G G (ST (q05 G G) G (ST (q05 G G) G (ST (q05 G G) G (q09 [_,_,_] H Tz105 G (q00 G) G ?_))));intro a1 w H;refine q04 [_,_,_] H G G G Ku Ts105 G Kf (by simp only[l0b,l0i,(H.rowOneS (v:=J) Km).2];rfl) (q00 G) ?_;intro w H;refine AS G G (AS G G (NL (TN (SQ ?_))));obtain⟨l8,a4,h⟩:=bnd h;refine RG (ST (q01 Tu105 G Ts103 Dc G) G (ST (XL H Ta103) G ?_));refine q0q (A:=[RowS 109 2 xenc109 J l3]) (B:=[.blk a1 (.cells #[S s1,S s2,J] 105)]) (H.pick (L':=[RowS 109 2 xenc109 J l3, .blk a1 (.cells #[S s1,S s2,J] 105)]) Kp) (Y4i a4) (.left (q0r _)) G ((fun _ _ h=>FnV.of (Y66 h) (fun _ _=>trivial))) (q00 G) G ?_;intro ae M w its H E hR;replace u:=u.mono E;replace N:=N.mono E;replace K:=K.mono E;obtain rfl:=hR;simp only[l02,l03] at H;refine ST (q01 Tu105 G Ts103 Dc G) G (q0Q [_,_,_] H G G (H.rowOneS Km) Ku Kf Ts103 (by first|decide|(simp;done)|(simp;omega)) (q00 G) ?_);intro w H;refine NL (TN (SQ ?_));obtain⟨⟨ah,⟨am,an⟩⟩,a5,h⟩:=bnd h;try dsimp only at h
 refine RG (ST (q08 H G Km Ta105 Ts105 Kf) G ?_);obtain⟨M,E,ai,H⟩:=H.freezeRowS (v:=ae) (enc:=xenc109) (t:=109) Kv (fun _=>rfl);replace u:=u.mono E;replace N:=N.mono E;replace K:=K.mono E;refine q02 H (Y4w a5) G ⟨u,N,ai⟩ (q00 G) G ?_;intro ao M w H E hR;replace K:=K.mono E;try dsimp only at hR
 obtain rfl:=hR;refine MV G G (ST (q05 G G) G (ST (q05 G G) G (q09 [_,_] H Tz28 G (q00 G) G ?_)));intro ap w H;refine AS G G (q04 [_,_] H G G G Ku Ts28 G Kf Kf (q00 G) ?_);intro w H;refine NL (TN (SQ (SQ ?_)));obtain⟨aq,a6,h⟩:=bnd h;refine RG (ST (q08 H G Km Ta28 Ts28 Kf) G ?_);refine q02 H (Y06 a6) G trivial (q00 G) G ?_;intro ar M w H E hR;replace K:=K.mono E;obtain rfl:=hR;refine NL (TN ?_);refine q0a G (fun O=>?_) (fun O=>?_)
 .
  subst O;rw[if_pos rfl] at h;refine SQ (RG (AS G G (AS G G (NL (TN (RT ?_))))));obtain rfl:=oI h;exact q0t G G G H.ext (⟨_,G,(q1a _ _ (fun _=>G))⟩)
 subst O;rw[if_neg l00] at h;refine SK (TN (SQ ?_));obtain⟨aj,a7,h⟩:=bnd h;refine RG (MV G G (q1l H (Y2e a7) G (K) (q00 G) G ?_));intro a2 M w its H E hR;obtain⟨a2,rfl,rfl⟩:=hR;simp only[l02,l03] at H;refine AS G G (NL (TN (SQ ?_)));obtain⟨a3,U,h⟩:=bnd h;obtain⟨au,Z,h⟩:=bnd h;refine RG (MV G G (MV G G (MV G G (q0z (l:=aj) H Tu22 Ts46 Km G G U (q00 G) G ?_))));intro av a8;refine ST (q01 Tu46 G Ts9 Dc G) G (WR.storeRowFC (j:=1) (a:=a3) (a':=(a3.1,ah)) H G G ⟨G,G⟩ a8 (fun _=>by repeat first|exact .head|apply Upd.tail) (fun _=>G) U Z G G Ts9 (q00 G) ?_);intro w H;refine NL (TN (SQ (RG (MV G G (AS G G (AS G G (NL (TN (RT ?_)))))))));obtain⟨M,E,a9,H⟩:=H.freezeRowS (v:=a2) (enc:=xenc46) (t:=46) Kv (fun _=>rfl);obtain rfl:=oI h;exact q0t G G G H.ext (⟨_,G,a9⟩)
theorem Y4Y {self : (Int × Int × Int) -> (List (Ls × Ls)) -> Ls -> Int -> Option ((List (Ls × Ls) × Ls × List BT38) × Bool × (Int × Int × Int))}(ih : ∀ {p0 : (Int × Int × Int)} {p1 : List (Ls × Ls)} {p2 : Ls} {p3 : Int} {N : Nat} {a3 : Value} {ad : Value} {r : ((List (Ls × Ls) × Ls × List BT38) × Bool × (Int × Int × Int))}, self p0 p1 p2 p3 = some r -> CtX Tryz.prog 22 [ptr N 0, a3, ad, I p3] [.blk N (.cells #[I p0.1, I p0.2.1, I p0.2.2] 59)] (fun M => GlF (fun w => ∃ tp p, w.var? Tryz.prog "strconv.ErrRange" = some #[.iface tp p]) M /\ GlF (fun w => ∃ tp p, w.var? Tryz.prog "strconv.ErrSyntax" = some #[.iface tp p]) M /\ GlF (fun w => ∃ m, w.cell? ⟨0, 0, none⟩ = some (.int .i64 m)) M /\ GlF (fun w => Lib.TabIs Tryz.prog w "internal/strconv.uint64pow10" .u64 Lib.pow10Tab) M /\ Tabs M /\ SlS M 2 xenc46 a3 p1 /\ Sl M encB ad p2) (fun v M its => ∃ O U V, v = Value.tuple #[Value.agg #[O, U, V], Value.bool r.2.1] /\ SlS M 2 xenc46 O r.1.1 /\ Sl M encB U r.1.2.1 /\ SlR xrl39 M V r.1.2.2 /\ its = [.blk N (.cells #[I r.2.2.1, I r.2.2.2.1, I r.2.2.2.2] 59)])){p0 : (Int × Int × Int)}{p1 : Ls}{p2 : Int}{N : Nat}{a3 : Value}{r : ((List (Ls × Ls) × Ls × List BT38) × Bool × (Int × Int × Int))}(h : Y24 self p0 p1 p2 = some r): CtX Tryz.prog 47 [ptr N 0, a3, I p2] [.blk N (.cells #[I p0.1, I p0.2.1, I p0.2.2] 59)] (fun M => GlF (fun w => ∃ tp p, w.var? Tryz.prog "strconv.ErrRange" = some #[.iface tp p]) M /\ GlF (fun w => ∃ tp p, w.var? Tryz.prog "strconv.ErrSyntax" = some #[.iface tp p]) M /\ GlF (fun w => ∃ m, w.cell? ⟨0, 0, none⟩ = some (.int .i64 m)) M /\ GlF (fun w => Lib.TabIs Tryz.prog w "internal/strconv.uint64pow10" .u64 Lib.pow10Tab) M /\ Tabs M /\ Sl M encB a3 p1) (fun v M its => ∃ O U V, v = Value.tuple #[Value.agg #[O, U, V], Value.bool r.2.1] /\ SlS M 2 xenc46 O r.1.1 /\ Sl M encB U r.1.2.1 /\ SlR xrl39 M V r.1.2.2 /\ its = [.blk N (.cells #[I r.2.2.1, I r.2.2.2.1, I r.2.2.2.2] 59)]) := by
 refine q0W Tryz.func47 (enters Tryz.func47 Kr G) G G G ?_;intro w0 M0 H hp;obtain⟨J,K,gM,E,gT,Y⟩:=hp;unfold Y24 at h;refine SQ (RG (q09 [_,_,_] H Tz39 G (q00 G) G ?_));intro ae w H;refine AS G G (NL (TN (SQ ?_)));obtain⟨⟨l1,n2,⟨n3,n4⟩⟩,aq,h⟩:=bnd h;try dsimp only at h
 refine RG (MV G G (q02 H (Y5o aq) G ⟨gM,Y⟩ (q00 G) G ?_));intro az M w H u hR;replace J:=J.mono u;replace K:=K.mono u;replace gM:=gM.mono u;replace E:=E.mono u;replace gT:=gT.mono u;replace Y:=Y.mono u;try dsimp only at hR
 obtain⟨ax,rfl,a2⟩:=hR;refine MV G G (ST (q05 G G) G (ST (q05 G G) G (ST (q05 G G) G (q09 [_,_] H Tz28 G (q00 G) G ?_))));intro aa w H;refine AS G G (AS G G (q04 [_,_] H G G G Ku Ts28 G Kf Kf (q00 G) ?_));intro w H;refine NL (TN (SQ (SQ ?_)));obtain⟨b6,ar,h⟩:=bnd h;refine RG (ST (q08 H G Km Ta28 Ts28 Kf) G ?_);refine q02 H (Y06 ar) G trivial (q00 G) G ?_;intro b0 M w H u hR;replace J:=J.mono u;replace K:=K.mono u;replace gM:=gM.mono u;replace E:=E.mono u;replace gT:=gT.mono u;replace Y:=Y.mono u;replace a2:=a2.mono u;obtain rfl:=hR;refine NL (TN ?_);refine q0a G (fun ab=>?_) (fun ab=>?_)
 .
  subst ab;rw[if_pos rfl] at h;refine SQ ?_;obtain⟨⟨n9,au⟩,ah,h⟩:=bnd h;try dsimp only at h
  refine RG (MV G G (ST (q01 Tu28 G Ts3 Dc G) G (ST (XL H Ta3) G ?_)));refine q02 H (Y02 ah) G trivial (q00 G) G ?_;intro b1 M w H u hR;try dsimp only at hR
  obtain rfl:=hR;refine FN G G Tu59 G Ts28 G G (WR.storeP [_,_,_] H G G G Ku Ts28 G G G G (q00 G) ?_);intro w H;refine NL (TN (SQ (RG (ST (q0v [Value.slice none 0 0,Value.slice none 0 0,Value.slice none 0 0] Tu39 Tz39 (xplaces39 Tu39) G G) G (q04 [_,_,_] H G G G Ku Ts39 G Kf Kf (q00 G) ?_)))));intro w H;refine AS G G (NL (TN (RT ?_)));obtain rfl:=oI h;exact q0Z (its:=[.blk N (.cells #[I p0.1,I n9,I au] 59)]) G ⟨_,G,H.loadAgg Km Ta39 Ts39 Kf⟩ G H Kp ⟨_,_,_,G,(q1a _ _ (fun _=>G)),q0U _ _,q1F,G⟩
 subst ab;rw[if_neg l00] at h;refine SK (TN (SQ (SQ (RG (MV G G (FN G G Tu59 G Ts3 G G (ST (XL H Ta3) G ?_)))))));refine ST (q0u G G) G (NL (TN ?_));refine CB (p:=p0.1=(40:Int)) G (fun a4=>?_) fun a4=>?_
 .
  rw[if_pos a4] at h;refine SQ ?_;obtain⟨⟨av,aw⟩,ai,h⟩:=bnd h;try dsimp only at h
  refine RG (MV G G (q02 H (Y02 ai) G trivial (q00 G) G ?_));intro b2 M w H u hR;try dsimp only at hR
  obtain rfl:=hR;refine FN G G Tu59 G Ts28 G G (WR.storeP [_,_,_] H G G G Ku Ts28 G G G G (q00 G) ?_);intro w H;refine NL (TN (SQ (RG (ST (q0v [Value.slice none 0 0,Value.slice none 0 0,Value.slice none 0 0] Tu39 Tz39 (xplaces39 Tu39) G G) G (q04 [_,_,_] H G G G Ku Ts39 G Kf Kf (q00 G) ?_)))));intro w H;refine AS G G (NL (TN (RT ?_)));obtain rfl:=oI h;exact q0Z (its:=[.blk N (.cells #[I p0.1,I av,I aw] 59)]) G ⟨_,G,H.loadAgg Km Ta39 Ts39 Kf⟩ G H Kp ⟨_,_,_,G,(q1a _ _ (fun _=>G)),q0U _ _,q1F,G⟩
 rw[if_neg a4] at h;refine SK (TN (SQ ?_));obtain⟨b3,a5,h⟩:=bnd h;obtain⟨⟨⟨b4,b5,b7⟩,b8,ac⟩,aj,h⟩:=bnd h;try dsimp only at h
 refine RG (MV G G (MV G G (MV G G (MV G G (ST (q1E Tu23 Ts5 (Y) G G a5) G (MV G G ?_))))));refine q0q (A:=[.blk N (.cells #[I p0.1,I p0.2.1,I p0.2.2] 59)]) (B:=[.blk aa (.cells #[I n3,I n4] 28), .blk ae (.cells #[Value.slice none 0 0,Value.slice none 0 0,Value.slice none 0 0] 39)]) (H.pick (L':=[.blk N (.cells #[I p0.1,I p0.2.1,I p0.2.2] 59), .blk aa (.cells #[I n3,I n4] 28), .blk ae (.cells #[Value.slice none 0 0,Value.slice none 0 0,Value.slice none 0 0] 39)]) Kp) (ih aj) (.left (q0r _)) G ⟨J,K,gM,E,gT,a2,(Y.subV a5)⟩ (q00 G) G ?_;intro b9 M w its H u hR;try dsimp only at hR
 obtain⟨ak,al,am,rfl,Z,a0,a1,rfl⟩:=hR;simp only[l02,l03] at H;refine ST (q05 G G) G (ST (q05 G G) G (q04 [_,_,_] H G G G Ku Ts39 G Kf (by simp only[l0b,l0i,(Z).one.2,(a0).one.2,(a1).one.2];rfl) (q00 G) ?_));intro w H;refine AS G G (NL (TN (RT ?_)));obtain rfl:=oI h;exact q0Z (its:=[.blk N (.cells #[I ac.1,I ac.2.1,I ac.2.2] 59)]) G ⟨_,G,H.loadAgg Km Ta39 Ts39 Kf⟩ G H Kp ⟨_,_,_,G,Z,a0,a1,G⟩
theorem Y4I {self : (Int × Int × Int) -> (List (Ls × Ls)) -> Ls -> Int -> Option ((List (Ls × Ls) × Ls × List BT38) × Bool × (Int × Int × Int))}(ih : ∀ {p0 : (Int × Int × Int)} {p1 : List (Ls × Ls)} {p2 : Ls} {p3 : Int} {O : Nat} {b1 : Value} {b2 : Value} {r : ((List (Ls × Ls) × Ls × List BT38) × Bool × (Int × Int × Int))}, self p0 p1 p2 p3 = some r -> CtX Tryz.prog 22 [ptr O 0, b1, b2, I p3] [.blk O (.cells #[I p0.1, I p0.2.1, I p0.2.2] 59)] (fun M => GlF (fun w => ∃ tp p, w.var? Tryz.prog "strconv.ErrRange" = some #[.iface tp p]) M /\ GlF (fun w => ∃ tp p, w.var? Tryz.prog "strconv.ErrSyntax" = some #[.iface tp p]) M /\ GlF (fun w => ∃ m, w.cell? ⟨0, 0, none⟩ = some (.int .i64 m)) M /\ GlF (fun w => Lib.TabIs Tryz.prog w "internal/strconv.uint64pow10" .u64 Lib.pow10Tab) M /\ Tabs M /\ SlS M 2 xenc46 b1 p1 /\ Sl M encB b2 p2) (fun v M its => ∃ aj ak al, v = Value.tuple #[Value.agg #[aj, ak, al], Value.bool r.2.1] /\ SlS M 2 xenc46 aj r.1.1 /\ Sl M encB ak r.1.2.1 /\ SlR xrl39 M al r.1.2.2 /\ its = [.blk O (.cells #[I r.2.2.1, I r.2.2.2.1, I r.2.2.2.2] 59)])){p0 : (Int × Int × Int)}{p1 : List (Ls × Ls)}{p2 : Ls}{p3 : Int}{O : Nat}{b1 : Value}{b2 : Value}{r : ((List (Ls × Ls) × Ls × List BT38) × Bool × (Int × Int × Int))}(h : Y2d self p0 p1 p2 p3 = some r): CtX Tryz.prog 22 [ptr O 0, b1, b2, I p3] [.blk O (.cells #[I p0.1, I p0.2.1, I p0.2.2] 59)] (fun M => GlF (fun w => ∃ tp p, w.var? Tryz.prog "strconv.ErrRange" = some #[.iface tp p]) M /\ GlF (fun w => ∃ tp p, w.var? Tryz.prog "strconv.ErrSyntax" = some #[.iface tp p]) M /\ GlF (fun w => ∃ m, w.cell? ⟨0, 0, none⟩ = some (.int .i64 m)) M /\ GlF (fun w => Lib.TabIs Tryz.prog w "internal/strconv.uint64pow10" .u64 Lib.pow10Tab) M /\ Tabs M /\ SlS M 2 xenc46 b1 p1 /\ Sl M encB b2 p2) (fun v M its => ∃ aj ak al, v = Value.tuple #[Value.agg #[aj, ak, al], Value.bool r.2.1] /\ SlS M 2 xenc46 aj r.1.1 /\ Sl M encB ak r.1.2.1 /\ SlR xrl39 M al r.1.2.2 /\ its = [.blk O (.cells #[I r.2.2.1, I r.2.2.2.1, I r.2.2.2.2] 59)]) := by
 refine q0W Tryz.func22 (enters Tryz.func22 Kr G) G G G ?_;intro w0 M0 H hp;obtain⟨J,K,V,E,Y,Z,a5⟩:=hp;unfold Y2d at h;refine SQ (RG (q09 [_,_,_] H Tz39 G (q00 G) G ?_));intro a9 w H;refine AS G G (NL (TN (SQ ?_)));obtain⟨n1,cm,h⟩:=bnd h;refine RG (MV G G (FN G G Tu59 G Ts3 G G (ST (XL H Ta3) G ?_)));refine ST (q0e G G cm) G (FN G G Tu59 G Ts3 G G (q1d [_,_,_] H G G Ku Kf Ts3 (by first|decide|(simp;done)|(simp;omega)) Kf Kf (q00 G) ?_));intro w H;refine NL (TN (SQ ?_));obtain⟨l2,cy,h⟩:=bnd h;obtain⟨l5,cz,h⟩:=bnd h;refine RG (MV G G (q1l H (Y2e cy) G (Z) (q00 G) G ?_));intro bn M w its H u hR;replace J:=J.mono u;replace K:=K.mono u;replace V:=V.mono u;replace E:=E.mono u;replace Y:=Y.mono u;replace Z:=Z.mono u;replace a5:=a5.mono u;obtain⟨bn,rfl,rfl⟩:=hR;simp only[l02,l03] at H;refine MV G G (q1l H (Y3V cz) G (a5) (q00 G) G ?_);intro bo M w its H u hR;replace J:=J.mono u;replace K:=K.mono u;replace V:=V.mono u;replace E:=E.mono u;replace Y:=Y.mono u;replace Z:=Z.mono u;replace a5:=a5.mono u;obtain⟨bo,rfl,rfl⟩:=hR;simp only[l02,l03] at H;obtain⟨M,u,a4,H⟩:=H.freezeRowSN (v:=bn) (enc:=xenc46) (t:=46) Kv (fun _=>rfl) ⟨⟨_,Km⟩,trivial⟩;replace J:=J.mono u;replace K:=K.mono u;replace V:=V.mono u;replace E:=E.mono u;replace Y:=Y.mono u;replace Z:=Z.mono u;replace a5:=a5.mono u;obtain⟨M,u,a6,H⟩:=H.freezeRowN (v:=bo) (enc:=encB) (t:=5) Kv ⟨⟨_,Km⟩,trivial⟩;replace J:=J.mono u;replace K:=K.mono u;replace V:=V.mono u;replace E:=E.mono u;replace Y:=Y.mono u;replace Z:=Z.mono u;replace a5:=a5.mono u;replace a4:=a4.mono u
 refine ST (q0v [bn,bo,Value.slice none 0 0] Tu39 Tz39 (xplaces39 Tu39) G (by obtain⟨_,_,_,hv,-⟩:=a4;rw [hv];clear hv;obtain ⟨_,_,hv,-⟩:=a6;rw [hv];clear hv;rfl)) G ?_;refine q09 [_,_,_] H Tz39 G (q00 G) G ?_;intro a3 w H;refine q04 [_,_,_] H G G G Ku Ts39 G Kf (by simp only[l0b,l0i,(a4).one.2,(a6).one.2];rfl) (q00 G) ?_;intro w H;refine NL (TN (SQ ?_));obtain⟨b3,cn,h⟩:=bnd h;refine RG (MV G G (MV G G (MV G G (q02 H (Y5r cn) G ⟨J,K,V,E,Y,Z,a5⟩ (q00 G) G ?_))));intro cf M w H u hR;replace J:=J.mono u;replace K:=K.mono u;replace V:=V.mono u;replace E:=E.mono u;replace Y:=Y.mono u;replace Z:=Z.mono u;replace a4:=a4.mono u;replace a6:=a6.mono u;have U:=hR;refine AS G G (NL (TN (SQ (SQ (RG (MV G G (ST (q1e Tu89 U G) G (ST (q0u G G) G (NL (TN ?_))))))))));refine CB (p:=(b3.length:Int)=(0:Int)) G (fun b6=>?_) fun b6=>?_
 .
  rw[if_pos b6] at h;refine SQ (RG (ST (q08 H G Km Ta39 Ts39 Kf) G ?_));refine q04 [_,_,_] H G G G Ku Ts39 G Kf (by simp only[l0b,l0i,(a4).one.2,(a6).one.2];rfl) (q00 G) ?_;intro w H;refine AS G G (NL (TN (RT ?_)));obtain rfl:=oI h;exact q0Z (its:=[.blk O (.cells #[I n1,I p0.2.1,I p0.2.2] 59)]) G ⟨_,G,H.loadAgg Km Ta39 Ts39 Kf⟩ G H Kp ⟨_,_,_,G,a4,a6,q1F,G⟩
 rw[if_neg b6] at h;refine SK (TN (SQ ?_));obtain⟨⟨de,cg⟩,co,h⟩:=bnd h;try dsimp only at h
 refine RG (MV G G (q02 H (Y6t co) G ⟨J,K,V,E,Y,Z⟩ (q00 G) G ?_));intro df M w H u hR;replace J:=J.mono u;replace K:=K.mono u;replace V:=V.mono u;replace E:=E.mono u;replace Y:=Y.mono u;replace a4:=a4.mono u;replace a6:=a6.mono u;replace U:=U.mono u;try dsimp only at hR
 obtain⟨bc,rfl,ay⟩:=hR;refine MV G G (ST (q05 G G) G (ST (q05 G G) G (AS G G (AS G G (NL (TN (SQ (SQ (RG (MV G G (ST (q0y G) G (NL (TN ?_)))))))))))));refine q0a G (fun a7=>?_) (fun a7=>?_)
 .
  replace a7:cg=false:=by simpa using a7
  subst a7;rw[if_neg l00] at h;refine SQ (RG (ST (q08 H G Km Ta39 Ts39 Kf) G ?_));refine q04 [_,_,_] H G G G Ku Ts39 G Kf (by simp only[l0b,l0i,(a4).one.2,(a6).one.2];rfl) (q00 G) ?_;intro w H;refine AS G G (NL (TN (RT ?_)));obtain rfl:=oI h;exact q0Z (its:=[.blk O (.cells #[I n1,I p0.2.1,I p0.2.2] 59)]) G ⟨_,G,H.loadAgg Km Ta39 Ts39 Kf⟩ G H Kp ⟨_,_,_,G,a4,a6,q1F,G⟩
 replace a7:cg=true:=by simpa using a7
 subst a7;rw[if_pos rfl] at h;refine SK (TN (SQ (RG (MV G G (ST (q0v [bc,Value.slice none 0 0,Value.slice none 0 0] Tu39 Tz39 (xplaces39 Tu39) G (by obtain⟨_,_,_,hv,-⟩:=ay;rw [hv];clear hv;rfl)) G ?_)))));refine q04 [_,_,_] H G G G Ku Ts39 G Kf (by simp only[l0b,l0i,(ay).one.2];rfl) (q00 G) ?_;intro w H;refine NL (TN (SQ (SQ (RG (MV G G (ST (q1e Tu89 U G) G (MV G G (NL (TN ?_)))))))));obtain⟨ch,N,h⟩:=bnd h
 refine q0c (fun e w => ∃ (bp : List (Ls × Ls)) (bq : Value) (br : Ls) (bs : Value) (bt : List BT38) (bu : Value) (bv : List (Ls × Ls)) (bw : Value) (bx : Ls) (bz : Value) (c0 : List BT38) (b4 : Value) (c1 : List (Hd × Hd × Hd)) (bd : Int) (be : Int) (bg : Int) (M : Mem), e = [(8, ptr a9 0), (10, ptr a3 0)] /\ StX (feet [.blk O (.cells #[I p0.1, I p0.2.1, I p0.2.2] 59)]) w0 M0 M [.blk a9 (.cells #[bq, bs, bu] 39), .blk a3 (.cells #[bw, bz, b4] 39), RowS 39 xrl39.k xrl39.enc b4 c1, .blk O (.cells #[I bd, I be, I bg] 59)] w /\ GlF (fun w => ∃ tp p, w.var? Tryz.prog "strconv.ErrRange" = some #[.iface tp p]) M /\ GlF (fun w => ∃ tp p, w.var? Tryz.prog "strconv.ErrSyntax" = some #[.iface tp p]) M /\ GlF (fun w => ∃ m, w.cell? ⟨0, 0, none⟩ = some (.int .i64 m)) M /\ GlF (fun w => Lib.TabIs Tryz.prog w "internal/strconv.uint64pow10" .u64 Lib.pow10Tab) M /\ Tabs M /\ SlS M 2 xenc46 bq bp /\ Sl M encB bs br /\ SlR xrl39 M bu bt /\ SlS M 2 xenc46 bw bv /\ Sl M encB bz bx /\ RelL xrl39 M c1 c0 /\ some (.inl (bp, br, bt, bv, bx, c0, bd, be, bg)) = some ch) [] ?_ ?_ (trivial)
 .
  refine BL ?_;replace H:=H.newRowS 39 xrl39.k xrl39.enc;first|have c2:RelL xrl39 M [] []:=RelL.nil|have c2:RelL xrl39 M0 [] []:=RelL.nil
  refine q0l (fun m e w => ∃ (ar : Int) (au : Int) (av : Int) (c3 : List (Ls × Ls)) (am : Value) (c4 : Ls) (an : Value) (c5 : List BT38) (ao : Value) (c6 : List (Ls × Ls)) (ap : Value) (c7 : Ls) (aq : Value) (bh : List BT38) (aa : Value) (aw : List (Hd × Hd × Hd)) (bi : Int) (M : Mem), e = [(0, ptr O 0), (3, I p3), (8, ptr a9 0), (10, ptr a3 0), (48, cf), (49, I (b3.length : Int)), (50, I bi)] /\ StX (feet [.blk O (.cells #[I p0.1, I p0.2.1, I p0.2.2] 59)]) w0 M0 M [.blk O (.cells #[I ar, I au, I av] 59), .blk a9 (.cells #[am, an, ao] 39), .blk a3 (.cells #[ap, aq, aa] 39), RowS 39 xrl39.k xrl39.enc aa aw] w /\ GlF (fun w => ∃ tp p, w.var? Tryz.prog "strconv.ErrRange" = some #[.iface tp p]) M /\ GlF (fun w => ∃ tp p, w.var? Tryz.prog "strconv.ErrSyntax" = some #[.iface tp p]) M /\ GlF (fun w => ∃ m, w.cell? ⟨0, 0, none⟩ = some (.int .i64 m)) M /\ GlF (fun w => Lib.TabIs Tryz.prog w "internal/strconv.uint64pow10" .u64 Lib.pow10Tab) M /\ Tabs M /\ SlS M 2 xenc46 am c3 /\ Sl M encB an c4 /\ SlR xrl39 M ao c5 /\ SlS M 2 xenc46 ap c6 /\ Sl M encB aq c7 /\ RelL xrl39 M aw bh /\ SlR xrl23 M cf b3 /\ Y0q self p3 b3 m ar au av c3 c4 c5 c6 c7 bh bi = some ch) FU [(0, _), (3, _), (8, _), (10, _), (48, _), (49, _), (50, _)] ⟨rfl, rfl, rfl, rfl, rfl, rfl, rfl, trivial⟩ ⟨_, _, _, _, _, _, _, _, _, _, _, _, _, _, _, _, _, _, rfl, (H.pick (L' := [.blk O (.cells #[I n1, I p0.2.1, I p0.2.2] 59), .blk a9 (.cells #[Value.slice none 0 0, Value.slice none 0 0, Value.slice none 0 0] 39), .blk a3 (.cells #[bc, Value.slice none 0 0, (Value.slice none 0 0)] 39), RowS 39 xrl39.k xrl39.enc (Value.slice none 0 0) ([] : List (Hd × Hd × Hd))]) Kp), J, K, V, E, Y, (q1a _ _ (fun _ => rfl)), q0U _ _, q1F, ay, q0U _ _, c2, U, N⟩ ?_
  rintro c8 e w ⟨ar,au,av,c3,am,c4,an,c5,ao,c6,ap,c7,aq,bh,aa,aw,bi,M,rfl,H,J,K,V,E,Y,ab,ac,ad,ae,ah,ai,U,N⟩;rcases c8 with _|c8
  . rw[Y0q] at N;cases N
  rw[Y0q] at N;refine SQ (RG (ST (q0m G G) G (NL (TN (SQ ?_)))));refine CB (p:=bi<(b3.length:Int)) G (fun b7=>?_) fun b7=>?_
  .
   rw[if_pos b7] at N;refine SK (TN (SQ (BL (SQ ?_))));obtain⟨d0,ca,N⟩:=bnd N;obtain⟨d9,dh,cb,cp,cq,b8⟩:=U.atC ca;replace b8:Sl _ encB (hv cb) d0:=b8;have c9:=b8;refine RG (ST (q0s cp Tu89 Ts23 G G) G (ST (q0n H G (cq.at (j:=0) G) Ta23) G (AS G G (NL (TN (SQ ?_))))));obtain⟨di,cc,N⟩:=bnd N;obtain⟨⟨⟨d1,d2,d3⟩,ci,ax⟩,cr,N⟩:=bnd N;try dsimp only at N
   refine RG (MV G G (MV G G (MV G G (ST (q0e G G cc) G ?_))));refine q0q (A:=[.blk O (.cells #[I ar,I au,I av] 59)]) (B:=[.blk a9 (.cells #[am,an,ao] 39), .blk a3 (.cells #[ap,aq,aa] 39),RowS 39 xrl39.k xrl39.enc aa aw]) (H.pick (L':=[.blk O (.cells #[I ar,I au,I av] 59), .blk a9 (.cells #[am,an,ao] 39), .blk a3 (.cells #[ap,aq,aa] 39),RowS 39 xrl39.k xrl39.enc aa aw]) Kp) (Y4Y @ih cr) (.left (q0r _)) G ⟨J,K,V,E,Y,c9⟩ (q00 G) G ?_;intro dj M w its H u hR;replace J:=J.mono u;replace K:=K.mono u;replace V:=V.mono u;replace E:=E.mono u;replace Y:=Y.mono u;replace ai:=ai.mono u;replace U:=U.mono u;replace ab:=ab.mono u;replace ac:=ac.mono u;replace ad:=ad.mono u;replace ae:=ae.mono u;replace ah:=ah.mono u;try dsimp only at hR
   obtain⟨cu,cv,cw,rfl,a0,a1,a2,rfl⟩:=hR;simp only[l02,l03] at H;refine MV G G (ST (q05 G G) G (ST (q05 G G) G (q09 [_,_,_] H Tz39 G (q00 G) G ?_)));intro da w H;refine q04 [_,_,_] H G G G Ku Ts39 G Kf (by simp only[l0b,l0i,(a0).one.2,(a1).one.2,(a2).one.2];rfl) (q00 G) ?_;intro w H;refine AS G G (NL (TN (SQ (SQ (RG (MV G G (ST (q0y G) G (NL (TN ?_)))))))));refine q0a G (fun a8=>?_) (fun a8=>?_)
   .
    replace a8:ci=false:=by simpa using a8
    subst a8;rw[if_neg l00] at N;refine SQ (RG (ST (q0v [Value.slice none 0 0,Value.slice none 0 0,Value.slice none 0 0] Tu39 Tz39 (xplaces39 Tu39) G G) G (q04 [_,_,_] H G G G Ku Ts39 G Kf Kf (q00 G) ?_)));intro w H;refine AS G G (NL (TN (RT ?_)));obtain rfl:=oI N;try dsimp only at h
    obtain rfl:=oI h;exact q0Z (its:=[.blk O (.cells #[I ax.1,I ax.2.1,I ax.2.2] 59)]) G ⟨_,G,H.loadAgg Km Ta39 Ts39 Kf⟩ G H Kp ⟨_,_,_,G,(q1a _ _ (fun _=>G)),q0U _ _,q1F,G⟩
   replace a8:ci=true:=by simpa using a8
   subst a8;rw[if_pos rfl] at N;refine SK (TN ?_);obtain⟨dk,cd,N⟩:=bnd N;refine RG (ST (q01 Tu39 G Ts37 Dc G) G (ST (XL H Ta37) G ?_));refine ST (q08 H G Km Ta39 Ts39 Kf) G ?_;have Hn:=H;obtain⟨d4,rfl⟩:=a0.hd;have H:=Hn;have Hn:=H;obtain⟨d5,rfl⟩:=a1.hd;have H:=Hn;have Hn:=H;obtain⟨d6,rfl⟩:=a2.hd;have H:=Hn;refine q1t (enc:=xrl39.enc) xty37 ([(d4,d5,d6)]:List (Hd × Hd × Hd)) H (fun _=>G) G Kr G G G (q00 G) G ?_;intro dl M w H u b9;replace J:=J.mono u;replace K:=K.mono u;replace V:=V.mono u;replace E:=E.mono u;replace Y:=Y.mono u;replace ai:=ai.mono u;replace U:=U.mono u;replace a0:=a0.mono u;replace a1:=a1.mono u;replace a2:=a2.mono u;replace ab:=ab.mono u;replace ac:=ac.mono u;replace ad:=ad.mono u;replace ae:=ae.mono u;replace ah:=ah.mono u;replace b9:=SlR.of (R:=xrl39) (l:=([(BT38.of (d1,d2,d3))]:List BT38)) b9 ⟨(rmk38 ⟨a0,a1,a2⟩),trivial⟩;refine WR.appRC (R:=xrl39) (l:=bh) xty37 G H ai G (fun _=>by repeat first|exact .head|apply Upd.tail) G (b9) cd (q00 G) G ?_;intro cj d7 w ct H;refine ST (q01 Tu39 G Ts37 Dc G) G (q0Q [_,_,_] H G G (H.rowOneS Km) Ku Kf Ts37 (by first|decide|(simp;done)|(simp;omega)) (q00 G) ?_);intro w H;refine NL (IB (TN ?_));obtain⟨dm,ce,N⟩:=bnd N;refine RG (ST (q0e G G ce) G (MV G G (NL ?_)));exact AG c8 ⟨_,_,_,_,_,_,_,_,_,_,_,_,_,_,_,_,_,_,G,(H.pick (L':=[.blk O (.cells #[I ax.1,I ax.2.1,I ax.2.2] 59), .blk a9 (.cells #[am,an,ao] 39), .blk a3 (.cells #[ap,aq,cj] 39),RowS 39 xrl39.k xrl39.enc cj d7]) Kp),J,K,V,E,Y,ab,ac,ad,ae,ah,ct,U,N⟩ (l06 _)
  rw[if_neg b7] at N;refine q0j (q03 (q03 (q0b ?_)));exact MN ⟨_,_,_,_,_,_,_,_,_,_,_,_,_,_,_,_,_,G,(H.pick (L':=[.blk a9 (.cells #[am,an,ao] 39), .blk a3 (.cells #[ap,aq,aa] 39),RowS 39 xrl39.k xrl39.enc aa aw, .blk O (.cells #[I ar,I au,I av] 59)]) Kp),J,K,V,E,Y,ab,ac,ad,ae,ah,ai,N⟩
 rintro e w ⟨bp,bq,br,bs,bt,bu,bv,bw,bx,bz,c0,b4,c1,bd,be,bg,M,rfl,H,J,K,V,E,Y,db,dc,dd,az,b0,ba,d8⟩;obtain rfl:=oI d8;try dsimp only at h
 refine TN (SQ (RG (ST (q08 H G Km Ta39 Ts39 Kf) G ?_)));refine q04 [_,_,_] H G G G Ku Ts39 G Kf (by simp only[l0b,l0i,(az).one.2,(b0).one.2,(H.rowOneS (v:=b4) Km).2];rfl) (q00 G) ?_;intro w H;refine AS G G (NL (TN (RT ?_)));obtain⟨M,u,bb,H⟩:=H.freezeRowSN (v:=b4) (enc:=xrl39.enc) (t:=39) Kv (fun _=>rfl) ⟨⟨_,Km⟩,trivial⟩;replace ba:=ba.mono u;replace az:=az.mono u;replace b0:=b0.mono u;replace bb:=SlR.of (R:=xrl39) bb ba;obtain rfl:=oI h;exact q0Z (its:=[.blk O (.cells #[I bd,I be,I bg] 59)]) G ⟨_,G,H.loadAgg Km Ta39 Ts39 Kf⟩ G H Kp ⟨_,_,_,G,az,b0,bb,G⟩
theorem Y3D : ∀ (m : Nat) {p0 : (Int × Int × Int)} {U : List (Ls × Ls)} {V : Ls} {Y : Int} {u : Nat} {N : Value} {O : Value} {r : ((List (Ls × Ls) × Ls × List BT38) × Bool × (Int × Int × Int))}, Y0y m p0 U V Y = some r -> CtX Tryz.prog 22 [ptr u 0, N, O, I Y] [.blk u (.cells #[I p0.1, I p0.2.1, I p0.2.2] 59)] (fun M => GlF (fun w => ∃ tp p, w.var? Tryz.prog "strconv.ErrRange" = some #[.iface tp p]) M /\ GlF (fun w => ∃ tp p, w.var? Tryz.prog "strconv.ErrSyntax" = some #[.iface tp p]) M /\ GlF (fun w => ∃ m, w.cell? ⟨0, 0, none⟩ = some (.int .i64 m)) M /\ GlF (fun w => Lib.TabIs Tryz.prog w "internal/strconv.uint64pow10" .u64 Lib.pow10Tab) M /\ Tabs M /\ SlS M 2 xenc46 N U /\ Sl M encB O V) (fun v M its => ∃ E J K, v = Value.tuple #[Value.agg #[E, J, K], Value.bool r.2.1] /\ SlS M 2 xenc46 E r.1.1 /\ Sl M encB J r.1.2.1 /\ SlR xrl39 M K r.1.2.2 /\ its = [.blk u (.cells #[I r.2.2.1, I r.2.2.2.1, I r.2.2.2.2] 59)])
 | 0,_,_,_,_,_,_,_,_,h=>by rw[Y0y] at h;cases h
 | m+1,_,_,_,_,_,_,_,_,h=>Y4I (fun h=>Y3D m h) (by rw[Y0y] at h;exact h)
theorem Y4Z {p0 : (Int × Int × Int)}{U : List (Ls × Ls)}{V : Ls}{Y : Int}{u : Nat}{N : Value}{O : Value}{r : ((List (Ls × Ls) × Ls × List BT38) × Bool × (Int × Int × Int))}(h : Y3n p0 U V Y = some r): CtX Tryz.prog 22 [ptr u 0, N, O, I Y] [.blk u (.cells #[I p0.1, I p0.2.1, I p0.2.2] 59)] (fun M => GlF (fun w => ∃ tp p, w.var? Tryz.prog "strconv.ErrRange" = some #[.iface tp p]) M /\ GlF (fun w => ∃ tp p, w.var? Tryz.prog "strconv.ErrSyntax" = some #[.iface tp p]) M /\ GlF (fun w => ∃ m, w.cell? ⟨0, 0, none⟩ = some (.int .i64 m)) M /\ GlF (fun w => Lib.TabIs Tryz.prog w "internal/strconv.uint64pow10" .u64 Lib.pow10Tab) M /\ Tabs M /\ SlS M 2 xenc46 N U /\ Sl M encB O V) (fun v M its => ∃ E J K, v = Value.tuple #[Value.agg #[E, J, K], Value.bool r.2.1] /\ SlS M 2 xenc46 E r.1.1 /\ Sl M encB J r.1.2.1 /\ SlR xrl39 M K r.1.2.2 /\ its = [.blk u (.cells #[I r.2.2.1, I r.2.2.2.1, I r.2.2.2.2] 59)]) := Y3D FU h
theorem Y6i {p0 : (List (Ls × Ls) × Ls × List BT38)}{a1 : Value}{a2 : Value}{a3 : Value}{r : Int}(h : Y3H p0 = some r): Ct Tryz.prog 88 [Value.agg #[a1, a2, a3]] (fun M => GlF (fun w => ∃ tp p, w.var? Tryz.prog "strconv.ErrRange" = some #[.iface tp p]) M /\ GlF (fun w => ∃ tp p, w.var? Tryz.prog "strconv.ErrSyntax" = some #[.iface tp p]) M /\ GlF (fun w => ∃ m, w.cell? ⟨0, 0, none⟩ = some (.int .i64 m)) M /\ GlF (fun w => Lib.TabIs Tryz.prog w "internal/strconv.uint64pow10" .u64 Lib.pow10Tab) M /\ Tabs M /\ SlS M 2 xenc46 a1 p0.1 /\ Sl M encB a2 p0.2.1 /\ SlR xrl39 M a3 p0.2.2) (fun v M => v = I r) := by
 refine Ct.of Tryz.func88 (enters Tryz.func88 Kr G) G G G ?_;intro w0 M0 H hp;obtain⟨E,J,Z,u,V,N,Y,a0⟩:=hp;unfold Y3H at h;refine SQ (RG (q0F [_,_,_] H G G (q00 G) G ?_));intro a9 w H;refine AS G G (NL (TN (SQ ?_)));obtain⟨⟨⟨s1,s2,l3⟩,n4,b5⟩,ar,h⟩:=bnd h;try dsimp only at h
 refine RG (ST (q01 Tu39 G Ts22 Dc G) G (ST (XL H Ta22) G ?_));refine q1l H (Y42 ar) G ⟨E,J,Z,u,V,N⟩ (q00 G) G ?_;intro b7 M w its H K hR;replace E:=E.mono K;replace J:=J.mono K;replace Z:=Z.mono K;replace u:=u.mono K;replace V:=V.mono K;replace N:=N.mono K;replace Y:=Y.mono K;replace a0:=a0.mono K;try dsimp only at hR
 obtain⟨O,rfl,rfl⟩:=hR;simp only[l02,l03] at H;refine MV G G (ST (q05 G G) G (ST (q05 G G) G (ST (q05 G G) G (q09 [_,_,_] H Tz105 G (q00 G) G ?_))));intro aa w H;refine q04 [_,_,_] H G G G Ku Ts105 G Kf (by simp only[l0b,l0i,(H.rowOneS (v:=O) Km).2];rfl) (q00 G) ?_;intro w H;refine AS G G (AS G G (NL (TN (SQ (SQ ?_)))));obtain⟨o8,e9,h⟩:=bnd h
 refine q0c (fun e w => ∃ (ad : Bool) (M : Mem), e = [(1, ptr a9 0), (3, ptr aa 0), (4, I n4), (31, Value.bool ad)] /\ St w0 M0 M [.blk a9 (.cells #[a1, a2, a3] 39), .blk aa (.cells #[S s1, S s2, O] 105), RowS 109 2 xenc109 O l3] w /\ GlF (fun w => ∃ tp p, w.var? Tryz.prog "strconv.ErrRange" = some #[.iface tp p]) M /\ GlF (fun w => ∃ tp p, w.var? Tryz.prog "strconv.ErrSyntax" = some #[.iface tp p]) M /\ GlF (fun w => ∃ m, w.cell? ⟨0, 0, none⟩ = some (.int .i64 m)) M /\ GlF (fun w => Lib.TabIs Tryz.prog w "internal/strconv.uint64pow10" .u64 Lib.pow10Tab) M /\ Tabs M /\ SlS M 2 xenc46 a1 p0.1 /\ Sl M encB a2 p0.2.1 /\ SlR xrl39 M a3 p0.2.2 /\ some ad = some o8) [] ?_ ?_ (trivial)
 .
  refine RG (ST (q01 Tu39 G Ts23 Dc G) G (ST (XL H Ta23) G ?_));refine ST (q0o Tu23 Y G) G ?_;by_cases a6:(0:Int)<(p0.2.1.length:Int)
  .
   rw[if_pos a6] at e9;refine DT a6 (q0C G G) G (MV G G (GT G G G (GT G G G (PT G G G (MV G G (q0i 4 G G (PT G G G (NL ?_))))))));exact MN ⟨_,_,G,(H.pick (L':=[.blk a9 (.cells #[a1,a2,a3] 39), .blk aa (.cells #[S s1,S s2,O] 105),RowS 109 2 xenc109 O l3]) Kp),E,J,Z,u,V,N,Y,a0,e9⟩
  rw[if_neg a6] at e9;refine DF a6 (q0C G G) G (MV G G (SG (q06 G) G G G (SG (q0y G) G G G (PF G G G (MV G G ?_)))));rcases b5 with _|_
  .
   rw[if_neg l00] at e9;refine q0i 4 G G (PT G G G (NL ?_));exact MN ⟨_,_,G,(H.pick (L':=[.blk a9 (.cells #[a1,a2,a3] 39), .blk aa (.cells #[S s1,S s2,O] 105),RowS 109 2 xenc109 O l3]) Kp),E,J,Z,u,V,N,Y,a0,e9⟩
  rw[if_pos rfl] at e9;obtain⟨b8,ak,e9⟩:=bnd e9;refine SG (q01 Tu105 G Ts9 Dc G) G G G (SG (XL H Ta9) G G G ?_);refine q02 H (Y18 ak) G trivial (q0h G G G) G ?_;intro b9 M w H K hR;replace E:=E.mono K;replace J:=J.mono K;replace Z:=Z.mono K;replace u:=u.mono K;replace V:=V.mono K;replace N:=N.mono K;replace Y:=Y.mono K;replace a0:=a0.mono K;obtain rfl:=hR;refine SG (q0y G) G G G (PF G G G (NL ?_));exact MN ⟨_,_,G,(H.pick (L':=[.blk a9 (.cells #[a1,a2,a3] 39), .blk aa (.cells #[S s1,S s2,O] 105),RowS 109 2 xenc109 O l3]) Kp),E,J,Z,u,V,N,Y,a0,e9⟩
 rintro e w ⟨ad,M,rfl,H,E,J,Z,u,V,N,Y,a0,au⟩;obtain rfl:=oI au;refine TN ?_;refine q0a G (fun ab=>?_) (fun ab=>?_)
 .
  subst ab;rw[if_pos rfl] at h;refine SQ (RG (AS G G (NL (TN (RT ?_)))));obtain rfl:=oI h;exact q07 G G H.ext G
 subst ab;rw[if_neg l00] at h;refine SK (TN (SQ ?_));obtain⟨⟨ba,av,⟨bb,bc⟩⟩,al,h⟩:=bnd h;try dsimp only at h
 refine RG (ST (q08 H G Km Ta105 Ts105 Kf) G ?_);obtain⟨M,K,a4,H⟩:=H.freezeRowS (v:=O) (enc:=xenc109) (t:=109) Kv (fun _=>rfl);replace E:=E.mono K;replace J:=J.mono K;replace Z:=Z.mono K;replace u:=u.mono K;replace V:=V.mono K;replace N:=N.mono K;refine q02 H (Y5p al) G ⟨V,a4⟩ (q00 G) G ?_;intro bd M w H K hR;replace E:=E.mono K;replace J:=J.mono K;replace Z:=Z.mono K;replace u:=u.mono K;replace V:=V.mono K;replace N:=N.mono K;replace a4:=a4.mono K;try dsimp only at hR
 obtain rfl:=hR;refine MV G G (ST (q05 G G) G (ST (q05 G G) G (ST (q05 G G) G (q09 [_,_] H Tz28 G (q00 G) G ?_))));intro be w H;refine AS G G (AS G G (q04 [_,_] H G G G Ku Ts28 G Kf Kf (q00 G) ?_));intro w H;refine NL (TN (SQ ?_));obtain⟨⟨aw,⟨bg,bh⟩⟩,am,h⟩:=bnd h;try dsimp only at h
 refine RG (ST (q08 H G Km Ta105 Ts105 Kf) G ?_);refine q02 H (Y4w am) G ⟨u,V,a4⟩ (q00 G) G ?_;intro bi M w H K hR;replace E:=E.mono K;replace J:=J.mono K;replace Z:=Z.mono K;replace u:=u.mono K;replace V:=V.mono K;replace a4:=a4.mono K;replace N:=N.mono K;try dsimp only at hR
 obtain rfl:=hR;refine MV G G (ST (q05 G G) G (ST (q05 G G) G (q09 [_,_] H Tz28 G (q00 G) G ?_)));intro b4 w H;refine AS G G (q04 [_,_] H G G G Ku Ts28 G Kf Kf (q00 G) ?_);intro w H;refine NL (TN (SQ (SQ ?_)));obtain⟨ax,U,h⟩:=bnd h
 refine q0c (fun e w => ∃ (ae : Bool) (M : Mem), e = [(68, Value.bool ae)] /\ St w0 M0 M [] w /\ GlF (fun w => ∃ tp p, w.var? Tryz.prog "strconv.ErrRange" = some #[.iface tp p]) M /\ GlF (fun w => ∃ tp p, w.var? Tryz.prog "strconv.ErrSyntax" = some #[.iface tp p]) M /\ GlF (fun w => ∃ m, w.cell? ⟨0, 0, none⟩ = some (.int .i64 m)) M /\ GlF (fun w => Lib.TabIs Tryz.prog w "internal/strconv.uint64pow10" .u64 Lib.pow10Tab) M /\ Tabs M /\ some ae = some ax) [] ?_ ?_ (trivial)
 .
  refine RG (MV G G (MV G G ?_));rcases av with _|_
  .
   rw[if_neg l00] at U;refine SG (q01 Tu105 G Ts103 Dc G) G G G (SG (XL H Ta103) G G G ?_);refine SG (q0N Tu103 a4 G) G G G ?_;by_cases a7:(60:Int)<=(l3.length:Int)
   .
    rw[if_pos a7] at U;refine DU a7 (q0R G G) G G G (PF G G G (MV G G (GT G G G (GT G G G (PT G G G (MV G G (q0i 8 G G (PT G G G (MV G G (q0i 3 G G (PT G G G (NL ?_))))))))))));exact MN ⟨_,_,G,(H.pick (L':=[]) Kp),E,J,Z,u,V,U⟩
   rw[if_neg a7] at U;obtain⟨ay,an,U⟩:=bnd U;refine DG a7 (q0R G G) G G G (PF G G G (MV G G (SG (q08 H G Km Ta28 Ts28 Kf) G G G ?_)));refine q02 H (Y06 an) G trivial (q0h G G G) G ?_;intro bj M w H K hR;replace E:=E.mono K;replace J:=J.mono K;replace Z:=Z.mono K;replace u:=u.mono K;replace V:=V.mono K;replace N:=N.mono K;obtain rfl:=hR;refine PF G G G (MV G G ?_);rcases ay with _|_
   .
    rw[if_neg l00] at U;obtain⟨az,aj,U⟩:=bnd U;obtain⟨b6,bm,ao,ap⟩:=N.atC aj;refine SG (q06 G) G G G (SG (q01 Tu39 G Ts22 Dc G) G G G (SG (XL H Ta22) G G G ?_));refine SG (q06 G) G G G (SG (q0s ao Tu22 Ts46 G G) G G G (SG (q01 Tu46 G Ts9 Dc G) G G G (SG (q0n H G (ap.at (j:=1) G) Ta9) G G G ?_)));by_cases a8:aw=az.2
    .
     rw[if_pos a8] at U;refine q0D (v' := .bool false) (q1m G G) (congrArg Value.bool (by rw[decide_eq_true a8];rfl)) (q0h G G G) G G ?_;refine PF G G G (MV G G (SG (q06 G) G G G (SG (q0g Tu9 G) G G G (SG (q0C G G) G G G (PF G G G (NL ?_))))));exact MN ⟨_,_,G,(H.pick (L':=[]) Kp),E,J,Z,u,V,U⟩
    rw[if_neg a8] at U;refine q0D (v' := .bool true) (q1m G G) (congrArg Value.bool (by rw[decide_eq_false a8];rfl)) (q0h G G G) G G ?_;refine PF G G G (MV G G (q0i 3 G G (PT G G G (NL ?_))));exact MN ⟨_,_,G,(H.pick (L':=[]) Kp),E,J,Z,u,V,U⟩
   rw[if_pos rfl] at U;refine q0i 8 G G (PT G G G (MV G G (q0i 3 G G (PT G G G (NL ?_)))));exact MN ⟨_,_,G,(H.pick (L':=[]) Kp),E,J,Z,u,V,U⟩
  rw[if_pos rfl] at U;refine q0i 4 G G (PT G G G (MV G G (GT G G G (GT G G G (PT G G G (MV G G (q0i 8 G G (PT G G G (MV G G (q0i 3 G G (PT G G G (NL ?_))))))))))));exact MN ⟨_,_,G,(H.pick (L':=[]) Kp),E,J,Z,u,V,U⟩
 rintro e w ⟨ae,M,rfl,H,E,J,Z,u,V,b0⟩;obtain rfl:=oI b0;refine TN ?_;refine q0a G (fun ac=>?_) (fun ac=>?_)
 .
  subst ac;rw[if_pos rfl] at h;refine SQ (RG (AS G G (NL (TN (RT ?_)))));obtain rfl:=oI h;exact q07 G G H.ext G
 subst ac;rw[if_neg l00] at h;refine SK (TN (SQ (RG (AS G G (NL (TN (RT ?_)))))));obtain rfl:=oI h;exact q07 G G H.ext G
end Go.Proofs.YtkgohbecojnfaaaGreatDoor
end
section
namespace Go.Proofs.YtkgohbecojnfaaaGreatDoor
open Go Go.RowKit Go.Ph Go.Ph.Pl Go.Ph.Pf
theorem Y6j {p0 : (List (Ls × Ls) × Ls × List BT38 × Int)}{a2 : Value}{a3 : Value}{a4 : Value}{r : Int}(h : Y25 p0 = some r): Ct Tryz.prog 49 [Value.agg #[a2, a3, a4, I p0.2.2.2]] (fun M => GlF (fun w => ∃ tp p, w.var? Tryz.prog "strconv.ErrRange" = some #[.iface tp p]) M /\ GlF (fun w => ∃ tp p, w.var? Tryz.prog "strconv.ErrSyntax" = some #[.iface tp p]) M /\ GlF (fun w => ∃ m, w.cell? ⟨0, 0, none⟩ = some (.int .i64 m)) M /\ GlF (fun w => Lib.TabIs Tryz.prog w "internal/strconv.uint64pow10" .u64 Lib.pow10Tab) M /\ Tabs M /\ SlS M 2 xenc46 a2 p0.1 /\ Sl M encB a3 p0.2.1 /\ SlR xrl39 M a4 p0.2.2.1) (fun v M => v = I r) := by
 refine Ct.of Tryz.func49 (enters Tryz.func49 Kr G) G G G ?_;intro w0 M0 H hp;obtain⟨J,K,Y,E,Z,O,N,U⟩:=hp;unfold Y25 at h;refine SQ (RG (q0F [_,_,_,_] H G G (q00 G) G ?_));intro ah w H;refine AS G G (NL (TN (SQ (RG (ST (q01 Tu98 G Ts39 Dc G) G (ST (Ex.loadAggP (us:=[_,_,_]) H G Km Ta39 Ts39 G G) G ?_))))));refine q09 [_,_,_] H Tz39 G (q00 G) G ?_;intro ai w H;refine q04 [_,_,_] H G G G Ku Ts39 G Kf (by simp only[l0b,l0i,(O).one.2,(N).one.2,(U).one.2];rfl) (q00 G) ?_;intro w H;refine NL (TN (SQ (SQ ?_)));obtain⟨⟨n1,n2⟩,ab,h⟩:=bnd h;try dsimp only at h
 refine RG (ST (q01 Tu39 G Ts22 Dc G) G (ST (XL H Ta22) G ?_));refine q02 H (Y4o ab) G (O) (q00 G) G ?_;intro aj M w H u hR;replace J:=J.mono u;replace K:=K.mono u;replace Y:=Y.mono u;replace E:=E.mono u;replace Z:=Z.mono u;replace O:=O.mono u;replace N:=N.mono u;replace U:=U.mono u;try dsimp only at hR
 obtain rfl:=hR;refine q09 [_,_] H Tz28 G (q00 G) G ?_;intro ak w H;refine q04 [_,_] H G G G Ku Ts28 G Kf Kf (q00 G) ?_;intro w H;refine NL (TN (SQ ?_));obtain⟨b4,ac,h⟩:=bnd h;refine RG (ST (q08 H G Km Ta28 Ts28 Kf) G ?_);refine q02 H (Y06 ac) G trivial (q00 G) G ?_;intro al M w H u hR;replace J:=J.mono u;replace K:=K.mono u;replace Y:=Y.mono u;replace E:=E.mono u;replace Z:=Z.mono u;replace O:=O.mono u;replace N:=N.mono u;replace U:=U.mono u;obtain rfl:=hR;refine NL (TN ?_);refine q0a G (fun a5=>?_) (fun a5=>?_)
 .
  subst a5;rw[if_pos rfl] at h;refine SQ (RG (ST (q01 Tu28 G Ts3 Dc G) G (ST (XL H Ta3) G ?_)));refine AS G G (NL (TN (RT ?_)));obtain rfl:=oI h;exact q07 G G H.ext G
 subst a5;rw[if_neg l00] at h;refine SK (TN (SQ (SQ (RG (ST (q01 Tu39 G Ts37 Dc G) G (ST (XL H Ta37) G ?_))))));refine ST (q1e Tu37 U G) G (ST (q0C G G) G (NL (TN ?_)));refine CB (p:=(0:Int)<(p0.2.2.1.length:Int)) G (fun a6=>?_) fun a6=>?_
 .
  rw[if_pos a6] at h;refine SQ ?_;obtain⟨n8,ad,h⟩:=bnd h;refine RG (ST (q08 H G Km Ta39 Ts39 Kf) G ?_);refine q02 H (Y6i ad) G ⟨J,K,Y,E,Z,O,N,U⟩ (q00 G) G ?_;intro am M w H u hR;obtain rfl:=hR;refine AS G G (NL (TN (RT ?_)));obtain rfl:=oI h;exact q07 G G H.ext G
 rw[if_neg a6] at h;refine SK (TN (SQ (SQ (RG (ST (q01 Tu39 G Ts23 Dc G) G (ST (XL H Ta23) G ?_))))));refine ST (q0o Tu23 N G) G (ST (q0C G G) G (NL (TN ?_)));refine CB (p:=(12000:Int)<(p0.2.1.length:Int)) G (fun a0=>?_) fun a0=>?_
 .
  rw[if_pos a0] at h;refine SQ (RG (AS G G (NL (TN (RT ?_)))));obtain rfl:=oI h;exact q07 G G H.ext G
 rw[if_neg a0] at h;refine SK (TN (SQ (SQ ?_)));obtain⟨a8,a9,h⟩:=bnd h;refine RG (ST (q01 Tu39 G Ts23 Dc G) G (ST (XL H Ta23) G ?_));refine q02 H (Y5C a9) G (N) (q00 G) G ?_;intro an M w H u hR;replace J:=J.mono u;replace K:=K.mono u;replace Y:=Y.mono u;replace E:=E.mono u;replace Z:=Z.mono u;replace O:=O.mono u;replace N:=N.mono u;obtain rfl:=hR;refine AS G G (NL (TN (SQ (RG (MV G G (ST (q1j G G) G (NL (TN ?_))))))));refine q0a G (fun V=>?_) (fun V=>?_)
 .
  replace V :¬(a8=(0:Int)):=of_not_decide V;rw[if_neg V] at h;refine SQ (RG (MV G G (AS G G (NL (TN (RT ?_))))));obtain rfl:=oI h;exact q07 G G H.ext G
 replace V:a8=(0:Int):=of_not_decide' V;rw[if_pos V] at h;refine SK (TN (SQ (SQ ?_)));obtain⟨ae,aa,h⟩:=bnd h;refine RG (ST (q01 Tu39 G Ts22 Dc G) G (ST (XL H Ta22) G ?_));refine ST (q01 Tu39 G Ts23 Dc G) G (ST (XL H Ta23) G ?_);refine ST (q01 Tu98 G Ts3 Dc G) G (ST (XL H Ta3) G ?_);refine q02 H (Y5r aa) G ⟨J,K,Y,E,Z,O,N⟩ (q00 G) G ?_;intro ao M w H u hR;have a7:=hR;refine ST (q1e Tu89 a7 G) G (ST (q0C G G) G (NL (TN ?_)));refine CB (p:=(0:Int)<(ae.length:Int)) G (fun a1=>?_) fun a1=>?_
 .
  rw[if_pos a1] at h;refine SQ (RG (AS G G (NL (TN (RT ?_)))));obtain rfl:=oI h;exact q07 G G H.ext G
 rw[if_neg a1] at h;refine SK (TN (SQ (RG (AS G G (NL (TN (RT ?_)))))));obtain rfl:=oI h;exact q07 G G H.ext G
theorem Y4J {p0 : (List (Ls × Ls) × Ls × List BT38)}{V : Value}{Y : Value}{Z : Value}{r : (Int × Int)}(h : Y1W p0 = some r): Ct Tryz.prog 23 [Value.agg #[V, Y, Z]] (fun M => GlF (fun w => ∃ tp p, w.var? Tryz.prog "strconv.ErrRange" = some #[.iface tp p]) M /\ GlF (fun w => ∃ tp p, w.var? Tryz.prog "strconv.ErrSyntax" = some #[.iface tp p]) M /\ GlF (fun w => ∃ m, w.cell? ⟨0, 0, none⟩ = some (.int .i64 m)) M /\ GlF (fun w => Lib.TabIs Tryz.prog w "internal/strconv.uint64pow10" .u64 Lib.pow10Tab) M /\ Tabs M /\ SlS M 2 xenc46 V p0.1 /\ Sl M encB Y p0.2.1 /\ SlR xrl39 M Z p0.2.2) (fun v M => v = Value.agg #[I r.1, I r.2]) := by
 refine Ct.ofM Tryz.func23 (enters Tryz.func23 Kr G) G G G ?_;intro w0 M0 H hp;obtain⟨E,J,gM,u,gT,N,O,U⟩:=hp;unfold Y1W at h;refine SQ (RG (q0F [_,_,_] H G G (q00 G) G ?_));intro a5 w H;refine q09 [_,_] H Tz28 G (q00 G) G ?_;intro a2 w H;refine NL (TN (SQ (RG (q09 [_] H Tz4 G (q00 G) G ?_))));intro a6 w H;refine q04 [_] H G G G Ku Ts4 G Kf Kf (q00 G) ?_;intro w H;refine NL (TN (SQ (SQ ?_)));obtain⟨⟨l2,l3,l4⟩,b9,h⟩:=bnd h;try dsimp only at h
 refine RG (ST (q08 H G Km Ta39 Ts39 Kf) G ?_);refine q02 H (Y4L b9) G ⟨N,O,U⟩ (q00 G) G ?_;intro bu M w H K hR;replace E:=E.mono K;replace J:=J.mono K;replace gM:=gM.mono K;replace u:=u.mono K;replace gT:=gT.mono K;replace N:=N.mono K;replace O:=O.mono K;replace U:=U.mono K;try dsimp only at hR
 obtain⟨b0,x10_0_0c_0,x10_0_0c_1,x10_0_0c_2,rfl,aq,f10_0_0c_0,f10_0_0c_1,f10_0_0c_2⟩:=hR;refine NL (TN (BL ?_));obtain⟨ba,bb,h⟩:=bnd h
 refine WC.rangeW (A := []) (L := [.blk a5 (.cells #[V, Y, Z] 39), .blk a2 (.cells #[I 0, I 0] 28), .blk a6 (.cells #[Value.bool false] 4)]) (B := []) (H.pick (L' := [.blk a5 (.cells #[V, Y, Z] 39), .blk a2 (.cells #[I 0, I 0] 28), .blk a6 (.cells #[Value.bool false] 4)]) Kp) rfl Y4e (.left (.left (.left (q0r _)))) ⟨aq, f10_0_0c_0, f10_0_0c_1, f10_0_0c_2⟩ rfl rfl (fun s L M => ∃ (n6 : Int) (n7 : Int) (b8 : Bool) (aa : Nat), s = ((n6, n7, b8), aa) /\ L = [.blk a5 (.cells #[V, Y, Z] 39), .blk a2 (.cells #[I n6, I n7] 28), .blk a6 (.cells #[Value.bool b8] 4)] /\ GlF (fun w => ∃ tp p, w.var? Tryz.prog "strconv.ErrRange" = some #[.iface tp p]) M /\ GlF (fun w => ∃ tp p, w.var? Tryz.prog "strconv.ErrSyntax" = some #[.iface tp p]) M /\ GlF (fun w => ∃ m, w.cell? ⟨0, 0, none⟩ = some (.int .i64 m)) M /\ GlF (fun w => Lib.TabIs Tryz.prog w "internal/strconv.uint64pow10" .u64 Lib.pow10Tab) M /\ Tabs M /\ SlS M 2 xenc46 V p0.1 /\ Sl M encB Y p0.2.1 /\ SlR xrl39 M Z p0.2.2) (fun s => exE [.ret] s.2) exStop (fun s => exE_stop _ s) (Y20 ) ((0, 0, false), 0) ba bb (by rintro s L M M' ⟨n6, n7, b8, aa, rfl, rfl, E, J, gM, u, gT, N, O, U⟩ K; exact ⟨_, _, _, _, rfl, rfl, E.mono K, J.mono K, gM.mono K, u.mono K, gT.mono K, N.mono K, O.mono K, U.mono K⟩) rfl ⟨_, _, _, _, rfl, rfl, E, J, gM, u, gT, N, O, U⟩ ?_ ?_ ?_
 .
  rintro ab ah ak s ⟨bc,⟨bv,bw,bx,bd⟩⟩ bz c0 c1 L be Mb9 hE a3 ⟨n6,n7,b8,aa,rfl,rfl,E,J,gM,u,gT,N,O,U⟩ ⟨xZ9_0_0,xZ9_0_1,xZ9_0_2,rfl,rfl,fZ9_0_0,fZ9_0_1,fZ9_0_2⟩ H;unfold Y20 at a3;try dsimp only at a3
  refine SQ (RG (AS G G (NL (TN (RG (q09 [_,_,_,_] H Tz98 G (q00 G) G ?_))))));intro c2 w H;refine q04 [_,_,_,_] H G G G Ku Ts98 G Kf (by simp only[l0b,l0i,(fZ9_0_0).one.2,(fZ9_0_1).one.2,(fZ9_0_2).one.2];rfl) (q00 G) ?_;intro w H;refine NL (WQ.begin ak H Ku ?_);intro w H;refine BL (SQ (SQ (RG (MV G G (ST (q0R G G) G (NL (TN ?_)))))));refine CB (p:=(40:Int)<=bc) G (fun al=>?_) fun al=>?_
  .
   rw[if_pos al] at a3;refine SQ ?_;obtain⟨⟨bg,bh⟩,b1,a3⟩:=bnd a3;try dsimp only at a3
   refine RG (q02 H (Y02 b1) G trivial (q00 G) G ?_);intro c3 M w H K hR;replace E:=E.mono K;replace J:=J.mono K;replace gM:=gM.mono K;replace u:=u.mono K;replace gT:=gT.mono K;replace N:=N.mono K;replace O:=O.mono K;replace U:=U.mono K;try dsimp only at hR
   obtain rfl:=hR;refine q04 [_,_] H G G G Ku Ts28 G Kf Kf (q00 G) ?_;intro w H;refine NL (TN (RT ?_));obtain rfl:=oI a3;exact WQ.rsRet ak (H.pick (L':=[.blk ab (.loop (ah .busy none)), .blk a5 (.cells #[V,Y,Z] 39), .blk a2 (.cells #[I bg,I bh] 28), .blk a6 (.cells #[Value.bool b8] 4)]) Kp) G ⟨_,_,_,_,G,G,E,J,gM,u,gT,N,O,U⟩
  rw[if_neg al] at a3;refine SK (TN ?_);obtain⟨bi,an,a3⟩:=bnd a3
  refine q0c (fun e w => ∃ (ao : Bool) (M : Mem), e = [(1, ptr a5 0), (2, ptr a2 0), (3, ptr a6 0)] /\ StX (feet (.blk ab (.loop (ah .ready none)) :: [.blk a5 (.cells #[V, Y, Z] 39), .blk a2 (.cells #[I n6, I n7] 28), .blk a6 (.cells #[Value.bool b8] 4)])) be Mb9 M [.blk a5 (.cells #[V, Y, Z] 39), .blk a2 (.cells #[I n6, I n7] 28), .blk a6 (.cells #[Value.bool ao] 4), .blk ab (.loop (ah .busy none))] w /\ GlF (fun w => ∃ tp p, w.var? Tryz.prog "strconv.ErrRange" = some #[.iface tp p]) M /\ GlF (fun w => ∃ tp p, w.var? Tryz.prog "strconv.ErrSyntax" = some #[.iface tp p]) M /\ GlF (fun w => ∃ m, w.cell? ⟨0, 0, none⟩ = some (.int .i64 m)) M /\ GlF (fun w => Lib.TabIs Tryz.prog w "internal/strconv.uint64pow10" .u64 Lib.pow10Tab) M /\ Tabs M /\ SlS M 2 xenc46 V p0.1 /\ Sl M encB Y p0.2.1 /\ SlR xrl39 M Z p0.2.2 /\ some ao = some bi) [] ?_ ?_ (trivial)
  .
   refine RG (ST (XL H Ta4) G ?_);refine MV G G ?_;rcases b8 with _|_
   .
    rw[if_neg l00] at an;refine SG (q01 Tu98 G Ts3 Dc G) G G G (SG (XL H Ta3) G G G ?_);refine SG (q0C G G) G G G (PF G G G (q04 [_] H G G G Ku Ts4 G Kf Kf (q00 G) ?_));intro w H;refine NL ?_;exact MN ⟨_,_,G,(H.pick (L':=[.blk a5 (.cells #[V,Y,Z] 39), .blk a2 (.cells #[I n6,I n7] 28), .blk a6 (.cells #[Value.bool (decide ((8:Int)<bd))] 4), .blk ab (.loop (ah .busy none))]) Kp),E,J,gM,u,gT,N,O,U,an⟩
   rw[if_pos rfl] at an;refine q0i 3 G G (PT G G G (q04 [_] H G G G Ku Ts4 G Kf Kf (q00 G) ?_));intro w H;refine NL ?_;exact MN ⟨_,_,G,(H.pick (L':=[.blk a5 (.cells #[V,Y,Z] 39), .blk a2 (.cells #[I n6,I n7] 28), .blk a6 (.cells #[Value.bool true] 4), .blk ab (.loop (ah .busy none))]) Kp),E,J,gM,u,gT,N,O,U,an⟩
  rintro e w ⟨ao,M,rfl,H,E,J,gM,u,gT,N,O,U,bj⟩;obtain rfl:=oI bj;refine IB ?_;obtain rfl:=oI a3;exact WQ.rsOn ak (H.pick (L':=[.blk ab (.loop (ah .busy none)), .blk a5 (.cells #[V,Y,Z] 39), .blk a2 (.cells #[I n6,I n7] 28), .blk a6 (.cells #[Value.bool ao] 4)]) Kp) G ⟨_,_,_,_,G,G,E,J,gM,u,gT,N,O,U⟩
 .
  rintro Dm9 w M L H K hE ⟨n6,n7,b8,aa,rfl,rfl,E,J,gM,u,gT,N,O,U⟩;simp only[l02,l03,l0f] at H;try dsimp only at h
  obtain rfl:=exE_none hE;rw[if_pos rfl] at h;refine IB (TN (SQ (SQ (RG (ST (XL H Ta4) G ?_)))));refine NL (TN ?_);refine q0a G (fun am=>?_) (fun am=>?_)
  .
   subst am;rw[if_pos rfl] at h;refine SQ ?_;obtain⟨⟨c4,c5⟩,b2,h⟩:=bnd h;try dsimp only at h
   refine RG (q02 H (Y02 b2) G trivial (q00 G) G ?_);intro c6 M w H K hR;try dsimp only at hR
   obtain rfl:=hR;refine q04 [_,_] H G G G Ku Ts28 G Kf Kf (q00 G) ?_;intro w H;refine NL (TN (RT ?_));obtain rfl:=oI h;exact WQ.nret1 G H Kv (fun w H=>⟨_,G,H.loadAgg Km Ta28 Ts28 Kf⟩) G
  subst am;rw[if_neg l00] at h;refine SK (TN (SQ (SQ ?_)));obtain⟨⟨c7,c8,c9⟩,b3,h⟩:=bnd h;try dsimp only at h
  refine RG (ST (q08 H G Km Ta39 Ts39 Kf) G ?_);refine q02 H (Y4L b3) G ⟨N,O,U⟩ (q00 G) G ?_;intro ca M w H K hR;replace E:=E.mono K;replace J:=J.mono K;replace gM:=gM.mono K;replace u:=u.mono K;replace gT:=gT.mono K;try dsimp only at hR
  obtain⟨b4,x25_0_0c_0,x25_0_0c_1,x25_0_0c_2,rfl,ar,f25_0_0c_0,f25_0_0c_1,f25_0_0c_2⟩:=hR;refine NL (TN (BL ?_));obtain⟨bm,bn,h⟩:=bnd h
  refine WC.rangeW (A := []) (L := [.blk a2 (.cells #[I n6, I n7] 28)]) (B := [.blk Dm9 (.deferred (some []))]) (H.pick (L' := [.blk a2 (.cells #[I n6, I n7] 28), .blk Dm9 (.deferred (some []))]) Kp) rfl Y4e (.left (q0r _)) ⟨ar, f25_0_0c_0, f25_0_0c_1, f25_0_0c_2⟩ rfl rfl (fun s L M => ∃ (ad : Int) (ae : Int) (ac : Nat), s = ((ad, ae), ac) /\ L = [.blk a2 (.cells #[I ad, I ae] 28)] /\ GlF (fun w => ∃ tp p, w.var? Tryz.prog "strconv.ErrRange" = some #[.iface tp p]) M /\ GlF (fun w => ∃ tp p, w.var? Tryz.prog "strconv.ErrSyntax" = some #[.iface tp p]) M /\ GlF (fun w => ∃ m, w.cell? ⟨0, 0, none⟩ = some (.int .i64 m)) M /\ GlF (fun w => Lib.TabIs Tryz.prog w "internal/strconv.uint64pow10" .u64 Lib.pow10Tab) M /\ Tabs M) (fun s => exE [.ret] s.2) exStop (fun s => exE_stop _ s) (Y0R ) ((n6, n7), 0) bm bn (by rintro s L M M' ⟨ad, ae, ac, rfl, rfl, E, J, gM, u, gT⟩ K; exact ⟨_, _, _, rfl, rfl, E.mono K, J.mono K, gM.mono K, u.mono K, gT.mono K⟩) rfl ⟨_, _, _, rfl, rfl, E, J, gM, u, gT⟩ ?_ ?_ ?_
  .
   rintro ap au aj s ⟨cb,⟨cc,cd,ce,cf⟩⟩ bq br bs L bt Mb38 hE a4 ⟨ad,ae,ac,rfl,rfl,E,J,gM,u,gT⟩ ⟨xZ38_0_0,xZ38_0_1,xZ38_0_2,rfl,rfl,fZ38_0_0,fZ38_0_1,fZ38_0_2⟩ H;unfold Y0R at a4;try dsimp only at a4
   refine SQ (RG (AS G G (NL (TN (RG (q09 [_,_,_,_] H Tz98 G (q00 G) G ?_))))));intro cg w H;refine q04 [_,_,_,_] H G G G Ku Ts98 G Kf (by simp only[l0b,l0i,(fZ38_0_0).one.2,(fZ38_0_1).one.2,(fZ38_0_2).one.2];rfl) (q00 G) ?_;intro w H;refine NL (WQ.begin aj H Ku ?_);intro w H;refine BL (SQ ?_);obtain⟨ay,b5,a4⟩:=bnd a4;refine RG (ST (q08 H G Km Tryz.isAgg98 Ts98 Kf) G ?_);refine q02 H (Y6j b5) G ⟨E,J,gM,u,gT,fZ38_0_0,fZ38_0_1,fZ38_0_2⟩ (q00 G) G ?_;intro ch M w H K hR;replace E:=E.mono K;replace J:=J.mono K;replace gM:=gM.mono K;replace u:=u.mono K;replace gT:=gT.mono K;obtain rfl:=hR;refine AS G G (NL (TN (SQ (RG (MV G G (ST (q1j G G) G (NL (TN ?_))))))));refine q0a G (fun a7=>?_) (fun a7=>?_)
   .
    replace a7 :¬(ay=(0:Int)):=of_not_decide a7;rw[if_neg a7] at a4;refine SQ ?_;obtain⟨⟨bo,bp⟩,b6,a4⟩:=bnd a4;try dsimp only at a4
    refine RG (MV G G (MV G G (q02 H (Y02 b6) G trivial (q00 G) G ?_)));intro ci M w H K hR;replace E:=E.mono K;replace J:=J.mono K;replace gM:=gM.mono K;replace u:=u.mono K;replace gT:=gT.mono K;try dsimp only at hR
    obtain rfl:=hR;refine q04 [_,_] H G G G Ku Ts28 G Kf Kf (q00 G) ?_;intro w H;refine NL (TN (RT ?_));obtain rfl:=oI a4;exact WQ.rsRet aj (H.pick (L':=[.blk ap (.loop (au .busy none)), .blk a2 (.cells #[I bo,I bp] 28)]) Kp) G ⟨_,_,_,G,G,E,J,gM,u,gT⟩
   replace a7:ay=(0:Int):=of_not_decide' a7;rw[if_pos a7] at a4;refine SK (IB ?_);obtain rfl:=oI a4;exact WQ.rsOn aj (H.pick (L':=[.blk ap (.loop (au .busy none)), .blk a2 (.cells #[I ad,I ae] 28)]) Kp) G ⟨_,_,_,G,G,E,J,gM,u,gT⟩
  .
   rintro Dm38 w M L H K hE ⟨ad,ae,ac,rfl,rfl,E,J,gM,u,gT⟩;simp only[l02,l03,l0f] at H;try dsimp only at h
   obtain rfl:=exE_none hE;rw[if_pos rfl] at h;refine IB (TN (SQ ?_));obtain⟨⟨cj,ck⟩,b7,h⟩:=bnd h;try dsimp only at h
   refine RG (q02 H (Y07 b7) G trivial (q00 G) G ?_);intro cm M w H K hR;try dsimp only at hR
   obtain rfl:=hR;refine q04 [_,_] H G G G Ku Ts28 G Kf Kf (q00 G) ?_;intro w H;refine NL (TN (RT ?_));obtain rfl:=oI h;exact WQ.mmret1 G H Kv Kv (fun w H=>⟨_,G,H.loadAgg Km Ta28 Ts28 Kf⟩) G
  rintro Dm38 w M L c H K hE ⟨ad,ae,ac,rfl,rfl,E,J,gM,u,gT⟩;simp only[l02,l03,l0f] at H;try dsimp only at h
  by_cases av:ac=1
  .
   subst av;obtain rfl:=oI hE;rw[if_neg Dc,if_pos rfl] at h;refine RT ?_;obtain rfl:=oI h;exact WQ.mmret1 G H Kv Kv (fun w H=>⟨_,G,H.loadAgg Km Ta28 Ts28 Kf⟩) G
  have aw:=av;rw[if_neg (exE_ne hE),if_neg aw] at h;cases h
 rintro Dm9 w M L c H K hE ⟨n6,n7,b8,aa,rfl,rfl,E,J,gM,u,gT,N,O,U⟩;simp only[l02,l03,l0f] at H;try dsimp only at h
 by_cases az:aa=1
 .
  subst az;obtain rfl:=oI hE;rw[if_neg Dc,if_pos rfl] at h;refine RT ?_;obtain rfl:=oI h;exact WQ.nret1 G H Kv (fun w H=>⟨_,G,H.loadAgg Km Ta28 Ts28 Kf⟩) G
 have ax:=az;rw[if_neg (exE_ne hE),if_neg ax] at h;cases h
theorem Y4x {p0 : (List (Ls × Ls) × Ls)}{a7 : Value}{a8 : Value}{r : ((List (Ls × Ls) × Ls × List BT38) × (Int × Int))}(h : Y2X p0 = some r): Ct Tryz.prog 9 [Value.agg #[a7, a8]] (fun M => GlF (fun w => ∃ tp p, w.var? Tryz.prog "strconv.ErrRange" = some #[.iface tp p]) M /\ GlF (fun w => ∃ tp p, w.var? Tryz.prog "strconv.ErrSyntax" = some #[.iface tp p]) M /\ GlF (fun w => ∃ m, w.cell? ⟨0, 0, none⟩ = some (.int .i64 m)) M /\ GlF (fun w => Lib.TabIs Tryz.prog w "internal/strconv.uint64pow10" .u64 Lib.pow10Tab) M /\ Tabs M /\ SlS M 2 xenc46 a7 p0.1 /\ Sl M encB a8 p0.2) (fun v M => ∃ ab ac ad, v = Value.tuple #[Value.agg #[ab, ac, ad], Value.agg #[I r.2.1, I r.2.2]] /\ SlS M 2 xenc46 ab r.1.1 /\ Sl M encB ac r.1.2.1 /\ SlR xrl39 M ad r.1.2.2) := by
 refine Ct.of Tryz.func9 (enters Tryz.func9 Kr G) G G G ?_;intro w0 M0 H hp;obtain⟨E,J,V,u,Y,a1,a2⟩:=hp;unfold Y2X at h;refine SQ (RG (q0F [_,_] H G G (q00 G) G ?_));intro an w H;refine q09 [_,_,_] H Tz39 G (q00 G) G ?_;intro Z w H;refine q09 [_,_] H Tz28 G (q00 G) G ?_;intro a0 w H;refine NL (TN (SQ (SQ ?_)));obtain⟨⟨n1,n2⟩,ax,h⟩:=bnd h;try dsimp only at h
 refine RG (ST (q08 H G Km Ta25 Ts25 Kf) G ?_);refine q02 H (Y2D ax) G ⟨a1,a2⟩ (q00 G) G ?_;intro b3 M w H K hR;replace E:=E.mono K;replace J:=J.mono K;replace V:=V.mono K;replace u:=u.mono K;replace Y:=Y.mono K;replace a1:=a1.mono K;replace a2:=a2.mono K;try dsimp only at hR
 obtain rfl:=hR;refine q09 [_,_] H Tz28 G (q00 G) G ?_;intro ao w H;refine q04 [_,_] H G G G Ku Ts28 G Kf Kf (q00 G) ?_;intro w H;refine NL (TN (SQ ?_));obtain⟨b4,ay,h⟩:=bnd h;refine RG (ST (q08 H G Km Ta28 Ts28 Kf) G ?_);refine q02 H (Y06 ay) G trivial (q00 G) G ?_;intro b5 M w H K hR;replace E:=E.mono K;replace J:=J.mono K;replace V:=V.mono K;replace u:=u.mono K;replace Y:=Y.mono K;replace a1:=a1.mono K;replace a2:=a2.mono K;obtain rfl:=hR;refine NL (TN ?_);refine q0a G (fun ai=>?_) (fun ai=>?_)
 .
  subst ai;rw[if_pos rfl] at h;refine SQ ?_
  refine q0V (fun e w => ∃  (M : Mem), e = [(2, ptr Z 0), (3, ptr a0 0)] /\ St w0 M0 M [.blk Z (.cells #[Value.slice none 0 0, Value.slice none 0 0, Value.slice none 0 0] 39), .blk a0 (.cells #[I n1, I n2] 28)] w /\ GlF (fun w => ∃ tp p, w.var? Tryz.prog "strconv.ErrRange" = some #[.iface tp p]) M /\ GlF (fun w => ∃ tp p, w.var? Tryz.prog "strconv.ErrSyntax" = some #[.iface tp p]) M /\ GlF (fun w => ∃ m, w.cell? ⟨0, 0, none⟩ = some (.int .i64 m)) M /\ GlF (fun w => Lib.TabIs Tryz.prog w "internal/strconv.uint64pow10" .u64 Lib.pow10Tab) M /\ Tabs M) ?_ ?_
  .
   refine q0x (m:=4) G G H ?_;intro w H;refine TK 0 G (fun _=>q0v [Value.slice none 0 0,Value.slice none 0 0,Value.slice none 0 0] Tu39 Tz39 (xplaces39 Tu39) G G) G ?_;refine q0E (i:=1) (j:=2) Kr G G ?_ ?_
   .
    refine ST (q08 H G Km Ta28 Ts28 Kf) G ?_;refine NA (q0k (fuel:=0) [2,3] G Kr (q04 [_,_,_] H G G G Ku Ts39 G Kf Kf (q00 G) ?_));intro w H;refine q04 [_,_] H G G G Ku Ts28 G Kf Kf (q00 G) ?_;intro w H;refine NA (q0f Kr ?_);exact MP ⟨_,G,(H.pick (L':=[.blk Z (.cells #[Value.slice none 0 0,Value.slice none 0 0,Value.slice none 0 0] 39), .blk a0 (.cells #[I n1,I n2] 28)]) Kp),E,J,V,u,Y⟩
   refine q04 [_,_,_] H G G G Ku Ts39 G Kf Kf (q00 G) ?_;intro w H;refine NA (q0k (fuel:=0) [1,3] G Kr (ST (q08 H G Km Ta28 Ts28 Kf) G ?_));refine q04 [_,_] H G G G Ku Ts28 G Kf Kf (q00 G) ?_;intro w H;refine NA (q0f Kr ?_);exact MP ⟨_,G,(H.pick (L':=[.blk Z (.cells #[Value.slice none 0 0,Value.slice none 0 0,Value.slice none 0 0] 39), .blk a0 (.cells #[I n1,I n2] 28)]) Kp),E,J,V,u,Y⟩
  rintro e w ⟨M,rfl,H,E,J,V,u,Y⟩;refine TN (RT ?_);obtain rfl:=oI h;exact q0t G ⟨_,G,H.loadAgg Km Ta39 Ts39 Kf⟩ ⟨_,G,H.loadAgg Km Ta28 Ts28 Kf⟩ H.ext (⟨_,_,_,G,(q1a _ _ (fun _=>G)),q0U _ _,q1F⟩)
 subst ai;rw[if_neg l00] at h;refine SK (TN (SQ (RG (ST (q0v [I 0,I 0,I 0] Tu59 Tryz.zeroValue59 (xplaces59 Tu59) G G) G (q0F [_,_,_] H G G (q00 G) G ?_)))));intro aj w H;refine AS G G (NL (TN (SQ ?_)));obtain⟨⟨⟨l7,l8,l9⟩,ap,a9⟩,ar,h⟩:=bnd h;try dsimp only at h
 refine RG (MV G G (ST (q01 Tu25 G Ts22 Dc G) G (ST (XL H Ta22) G ?_)));refine ST (q01 Tu25 G Ts23 Dc G) G (ST (XL H Ta23) G ?_);refine q0q (A:=[.blk aj (.cells #[I 0,I 0,I 0] 59)]) (B:=[.blk ao (.cells #[I n1,I n2] 28), .blk a0 (.cells #[I 0,I 0] 28), .blk Z (.cells #[Value.slice none 0 0,Value.slice none 0 0,Value.slice none 0 0] 39), .blk an (.cells #[a7,a8] 25)]) (H.pick (L':=[.blk aj (.cells #[I 0,I 0,I 0] 59), .blk ao (.cells #[I n1,I n2] 28), .blk a0 (.cells #[I 0,I 0] 28), .blk Z (.cells #[Value.slice none 0 0,Value.slice none 0 0,Value.slice none 0 0] 39), .blk an (.cells #[a7,a8] 25)]) Kp) (Y4Z ar) (.left (q0r _)) G ⟨E,J,V,u,Y,a1,a2⟩ (q00 G) G ?_;intro b6 M w its H K hR;replace E:=E.mono K;replace J:=J.mono K;replace V:=V.mono K;replace u:=u.mono K;replace Y:=Y.mono K;try dsimp only at hR
 obtain⟨a3,a4,a5,rfl,N,O,U,rfl⟩:=hR;simp only[l02,l03] at H;refine MV G G (ST (q05 G G) G (ST (q05 G G) G (q09 [_,_,_] H Tz39 G (q00 G) G ?_)));intro b7 w H;refine q04 [_,_,_] H G G G Ku Ts39 G Kf (by simp only[l0b,l0i,(N).one.2,(O).one.2,(U).one.2];rfl) (q00 G) ?_;intro w H;refine AS G G (NL (TN (SQ (SQ (RG (MV G G (ST (q0y G) G (NL (TN ?_)))))))));refine q0a G (fun a6=>?_) (fun a6=>?_)
 .
  replace a6:ap=false:=by simpa using a6
  subst a6;rw[if_neg l00] at h;refine SQ ?_
  refine q0V (fun e w => ∃  (M : Mem), e = [(2, ptr Z 0), (3, ptr a0 0)] /\ St w0 M0 M [.blk Z (.cells #[Value.slice none 0 0, Value.slice none 0 0, Value.slice none 0 0] 39), .blk a0 (.cells #[I a9.2.1, I a9.2.2] 28)] w /\ GlF (fun w => ∃ tp p, w.var? Tryz.prog "strconv.ErrRange" = some #[.iface tp p]) M /\ GlF (fun w => ∃ tp p, w.var? Tryz.prog "strconv.ErrSyntax" = some #[.iface tp p]) M /\ GlF (fun w => ∃ m, w.cell? ⟨0, 0, none⟩ = some (.int .i64 m)) M /\ GlF (fun w => Lib.TabIs Tryz.prog w "internal/strconv.uint64pow10" .u64 Lib.pow10Tab) M /\ Tabs M) ?_ ?_
  .
   refine q0x (m:=7) G G H ?_;intro w H;refine TK 0 G (fun _=>q0v [Value.slice none 0 0,Value.slice none 0 0,Value.slice none 0 0] Tu39 Tz39 (xplaces39 Tu39) G G) G (TK 1 G (fun _=>q06 G) G (TK 2 G (fun _=>q0S G) G (TK 3 G (fun _=>q01 Tu59 G Ts28 Dc G) G ?_)));refine q0E (i:=4) (j:=5) Kr G G ?_ ?_
   .
    refine ST (Ex.loadAggP (us:=[_,_]) H G Km Ta28 Ts28 G G) G ?_;refine NA (q0k (fuel:=0) [5,6] G Kr (q04 [_,_,_] H G G G Ku Ts39 G Kf Kf (q00 G) ?_));intro w H;refine q04 [_,_] H G G G Ku Ts28 G Kf Kf (q00 G) ?_;intro w H;refine NA (q0f Kr ?_);exact MP ⟨_,G,(H.pick (L':=[.blk Z (.cells #[Value.slice none 0 0,Value.slice none 0 0,Value.slice none 0 0] 39), .blk a0 (.cells #[I a9.2.1,I a9.2.2] 28)]) Kp),E,J,V,u,Y⟩
   refine q04 [_,_,_] H G G G Ku Ts39 G Kf Kf (q00 G) ?_;intro w H;refine NA (q0k (fuel:=0) [4,6] G Kr (ST (Ex.loadAggP (us:=[_,_]) H G Km Ta28 Ts28 G G) G ?_));refine q04 [_,_] H G G G Ku Ts28 G Kf Kf (q00 G) ?_;intro w H;refine NA (q0f Kr ?_);exact MP ⟨_,G,(H.pick (L':=[.blk Z (.cells #[Value.slice none 0 0,Value.slice none 0 0,Value.slice none 0 0] 39), .blk a0 (.cells #[I a9.2.1,I a9.2.2] 28)]) Kp),E,J,V,u,Y⟩
  rintro e w ⟨M,rfl,H,E,J,V,u,Y⟩;refine TN (RT ?_);obtain rfl:=oI h;exact q0t G ⟨_,G,H.loadAgg Km Ta39 Ts39 Kf⟩ ⟨_,G,H.loadAgg Km Ta28 Ts28 Kf⟩ H.ext (⟨_,_,_,G,(q1a _ _ (fun _=>G)),q0U _ _,q1F⟩)
 replace a6:ap=true:=by simpa using a6
 subst a6;rw[if_pos rfl] at h;refine SK (TN (SQ (SQ ?_)));obtain⟨⟨b8,b9⟩,au,h⟩:=bnd h;try dsimp only at h
 refine RG (ST (q08 H G Km Ta39 Ts39 Kf) G ?_);refine q02 H (Y4J au) G ⟨E,J,V,u,Y,N,O,U⟩ (q00 G) G ?_;intro ba M w H K hR;replace E:=E.mono K;replace J:=J.mono K;replace V:=V.mono K;replace u:=u.mono K;replace Y:=Y.mono K;replace N:=N.mono K;replace O:=O.mono K;replace U:=U.mono K;try dsimp only at hR
 obtain rfl:=hR;refine q09 [_,_] H Tz28 G (q00 G) G ?_;intro bb w H;refine q04 [_,_] H G G G Ku Ts28 G Kf Kf (q00 G) ?_;intro w H;refine NL (TN (SQ ?_));obtain⟨bc,av,h⟩:=bnd h;refine RG (ST (q08 H G Km Ta28 Ts28 Kf) G ?_);refine q02 H (Y06 av) G trivial (q00 G) G ?_;intro bd M w H K hR;replace E:=E.mono K;replace J:=J.mono K;replace V:=V.mono K;replace u:=u.mono K;replace Y:=Y.mono K;replace N:=N.mono K;replace O:=O.mono K;replace U:=U.mono K;obtain rfl:=hR;refine NL (TN ?_);refine q0a G (fun aa=>?_) (fun aa=>?_)
 .
  subst aa;rw[if_pos rfl] at h;refine SQ ?_;obtain⟨⟨be,bg⟩,aw,h⟩:=bnd h;try dsimp only at h
  refine RG (ST (q0v [Value.slice none 0 0,Value.slice none 0 0,Value.slice none 0 0] Tu39 Tz39 (xplaces39 Tu39) G G) G (ST (q01 Tu28 G Ts3 Dc G) G (ST (XL H Ta3) G ?_)));refine q02 H (Y02 aw) G trivial (q00 G) G ?_;intro bh M w H K hR;try dsimp only at hR
  obtain rfl:=hR;refine q04 [_,_,_] H G G G Ku Ts39 G Kf Kf (q00 G) ?_;intro w H;refine q04 [_,_] H G G G Ku Ts28 G Kf Kf (q00 G) ?_;intro w H;refine NL (TN (RT ?_));obtain rfl:=oI h;exact q0t G ⟨_,G,H.loadAgg Km Ta39 Ts39 Kf⟩ ⟨_,G,H.loadAgg Km Ta28 Ts28 Kf⟩ H.ext (⟨_,_,_,G,(q1a _ _ (fun _=>G)),q0U _ _,q1F⟩)
 subst aa;rw[if_neg l00] at h;refine SK (TN (SQ ?_));obtain⟨⟨ak,al⟩,am,h⟩:=bnd h;try dsimp only at h
 refine q0V (fun e w => ∃  (M : Mem), e = [(2, ptr Z 0), (3, ptr a0 0)] /\ St w0 M0 M [.blk Z (.cells #[a3, a4, a5] 39), .blk a0 (.cells #[I ak, I al] 28)] w /\ GlF (fun w => ∃ tp p, w.var? Tryz.prog "strconv.ErrRange" = some #[.iface tp p]) M /\ GlF (fun w => ∃ tp p, w.var? Tryz.prog "strconv.ErrSyntax" = some #[.iface tp p]) M /\ GlF (fun w => ∃ m, w.cell? ⟨0, 0, none⟩ = some (.int .i64 m)) M /\ GlF (fun w => Lib.TabIs Tryz.prog w "internal/strconv.uint64pow10" .u64 Lib.pow10Tab) M /\ Tabs M /\ SlS M 2 xenc46 a3 l7 /\ Sl M encB a4 l8 /\ SlR xrl39 M a5 l9) ?_ ?_
 .
  refine q0x (m:=4) G G H ?_;intro w H;refine q0E (i:=0) (j:=1) Kr G G ?_ ?_
  .
   refine ST (q08 H G Km Ta39 Ts39 Kf) G ?_;refine NA (q0k (fuel:=0) [1,2,3] G Kr (q02 H (Y07 am) G trivial (q00 G) G ?_));intro az M w H K hR;replace E:=E.mono K;replace J:=J.mono K;replace V:=V.mono K;replace u:=u.mono K;replace Y:=Y.mono K;replace N:=N.mono K;replace O:=O.mono K;replace U:=U.mono K;try dsimp only at hR
   obtain rfl:=hR;refine q04 [_,_,_] H G G G Ku Ts39 G Kf (by simp only[l0b,l0i,(N).one.2,(O).one.2,(U).one.2];rfl) (q00 G) ?_;intro w H;refine q04 [_,_] H G G G Ku Ts28 G Kf Kf (q00 G) ?_;intro w H;refine NA (q0f Kr ?_);exact MP ⟨_,G,(H.pick (L':=[.blk Z (.cells #[a3,a4,a5] 39), .blk a0 (.cells #[I ak,I al] 28)]) Kp),E,J,V,u,Y,N,O,U⟩
  refine q02 H (Y07 am) G trivial (q00 G) G ?_;intro az M w H K hR;replace E:=E.mono K;replace J:=J.mono K;replace V:=V.mono K;replace u:=u.mono K;replace Y:=Y.mono K;replace N:=N.mono K;replace O:=O.mono K;replace U:=U.mono K;try dsimp only at hR
  obtain rfl:=hR;refine NA (q0k (fuel:=0) [0,2,3] G Kr (ST (q08 H G Km Ta39 Ts39 Kf) G ?_));refine q04 [_,_,_] H G G G Ku Ts39 G Kf (by simp only[l0b,l0i,(N).one.2,(O).one.2,(U).one.2];rfl) (q00 G) ?_;intro w H;refine q04 [_,_] H G G G Ku Ts28 G Kf Kf (q00 G) ?_;intro w H;refine NA (q0f Kr ?_);exact MP ⟨_,G,(H.pick (L':=[.blk Z (.cells #[a3,a4,a5] 39), .blk a0 (.cells #[I ak,I al] 28)]) Kp),E,J,V,u,Y,N,O,U⟩
 rintro e w ⟨M,rfl,H,E,J,V,u,Y,N,O,U⟩;refine TN (RT ?_);obtain rfl:=oI h;exact q0t G ⟨_,G,H.loadAgg Km Ta39 Ts39 Kf⟩ ⟨_,G,H.loadAgg Km Ta28 Ts28 Kf⟩ H.ext (⟨_,_,_,G,N,O,U⟩)
theorem Y6u {p0:(List (Ls × Ls) × Ls × List BT38)}{K:Value}{N:Value}{O:Value}{r:(List (Ls × Ls) × Ls × List BT38)}(h:Y5b p0=some r):Ct Tryz.prog 29 [Value.agg #[K,N,O]] (fun M=>SlS M 2 xenc46 K p0.1/\Sl M encB N p0.2.1/\SlR xrl39 M O p0.2.2) (fun v M =>∃U x0_0c_0 x0_0c_1 x0_0c_2,v=(Value.func (.func 57) #[] #[ptr U 0])/\PtM M U (.cells #[x0_0c_0,x0_0c_1,x0_0c_2] 39)/\SlS M 2 xenc46 x0_0c_0 r.1/\Sl M encB x0_0c_1 r.2.1/\SlR xrl39 M x0_0c_2 r.2.2):=by
 refine Ct.of Tryz.func29 (enters Tryz.func29 Kr G) G G G ?_;intro w0 M0 H hp;obtain⟨u,E,J⟩:=hp;unfold Y5b at h;refine SQ (RG (q0F [_,_,_] H G G (q00 G) G ?_));intro Y w H;refine AS G G (NL (TN (SQ (RG ?_))));obtain⟨M,V,Z,H⟩:=H.freezeVar (b:=Y) Kv;replace u:=u.mono V;replace E:=E.mono V;replace J:=J.mono V;refine ST (q1s G) G (AS G G (NL (TN (RT ?_))));obtain rfl:=oI h;exact q07 G G H.ext (⟨_,_,_,_,G,Z,u,E,J⟩)
theorem Y4y {p0:Ls}{K:Ls}{r:Ls}(h:Y0T p0 K=some r):Ct Tryz.prog 134 [S p0,S K] (fun M=>True) (fun v M=>v=S r):=by
 refine Ct.of Tryz.func134 (enters Tryz.func134 Kr G) G G G ?_;intro U M0 H hp;unfold Y0T at h;refine SQ (RG (AS G G (NL (TN (SQ (SQ ?_))))));obtain⟨V,N,h⟩:=bnd h;refine RG (MV G G (MV G G (q02 H (Y2w N) G trivial (q00 G) G ?_)));intro Y M w H O hR;obtain rfl:=hR;refine NL (TN ?_);refine q0a G (fun u=>?_) (fun u=>?_)
 .
  subst u;rw[if_pos rfl] at h;refine SQ ?_;obtain⟨Z,E,h⟩:=bnd h;obtain⟨s5,J,h⟩:=bnd h;refine RG (MV G G (MV G G (ST (q0g Tu9 G) G (MV G G (ST (q0g Tu9 G) G (ST (q0K G G E) G (ST (q1y Tu9 G G J) G (AS G G (NL (TN (RT ?_)))))))))));obtain rfl:=oI h;exact q07 G G H.ext G
 subst u;rw[if_neg l00] at h;refine SK (TN (SQ (RG (MV G G (AS G G (NL (TN (RT ?_))))))));obtain rfl:=oI h;exact q07 G G H.ext G
theorem Y58 {p0:Ls}{u:Ls}{r:Ls}(h:Y1r p0 u=some r):Ct Tryz.prog 96 [S p0,S u] (fun M=>True) (fun v M=>v=S r):=by
 refine Ct.of Tryz.func96 (enters Tryz.func96 Kr G) G G G ?_;intro K M0 H hp;unfold Y1r at h;refine SQ (RG (AS G G (NL (TN (SQ ?_)))));obtain⟨N,E,h⟩:=bnd h;refine RG (MV G G (MV G G (q02 H (Y4y E) G trivial (q00 G) G ?_)));intro O M w H J hR;obtain rfl:=hR;refine AS G G (NL (TN (RT ?_)));obtain rfl:=oI h;exact q07 G G H.ext G
theorem Y31 {p0:Ls}{r:Ls}(h:Y1F p0=some r):Ct Tryz.prog 59 [S p0] (fun M=>True) (fun v M=>v=S r):=by
 refine Ct.of Tryz.func59 (enters Tryz.func59 Kr G) G G G ?_;intro w0 M0 H hp;unfold Y1F at h;refine SQ (RG (AS G G (NL (TN (SQ (RG (AS G G (NL (TN (SQ (SQ (RG (MV G G (ST (q0g Tu9 G) G (MV G G (NL (TN ?_)))))))))))))))));obtain⟨o1,u,h⟩:=bnd h;refine q0c (fun e w =>∃(l4:Ls) (v5:Value) (M:Mem),e=[(3,v5)]/\St w0 M0 M [RowI 5 encB v5 l4] w/\some l4=some o1) [] ?_ ?_ (trivial)
 .
  refine BL ?_;replace H:=H.newRow 5 encB;refine q0l (fun m e w =>∃(N:Ls) (O:Value) (K:Int) (M:Mem),e=[(0,S p0),(3,O),(8,I (p0.length:Int)),(9,I K)]/\St w0 M0 M [RowI 5 encB O N] w/\Y0k p0 m N K=some o1) FU [(0,_),(3,_),(8,_),(9,_)] ⟨rfl,rfl,rfl,rfl,trivial⟩ ⟨_,_,_,_,rfl,H,u⟩ ?_;rintro a0 e w ⟨N,O,K,M,rfl,H,u⟩;rcases a0 with _|a0
  . rw[Y0k] at u;cases u
  rw[Y0k] at u;refine SQ (RG (ST (q0m G G) G (NL (TN (SQ ?_)))));refine CB (p:=K<(p0.length:Int)) G (fun V=>?_) fun V=>?_
  .
   rw[if_pos V] at u;refine SK (TN (SQ (BL (SQ (RG (MV G G (AS G G (NL (TN (SQ ?_))))))))));obtain⟨au,a7,u⟩:=bnd u;refine RG (MV G G (MV G G (ST (q0p Tu9 G G a7) G (AS G G (NL (TN (SQ (SQ ?_))))))));obtain⟨av,ae,u⟩:=bnd u;refine RG (MV G G (q02 H (Y2H ae) G trivial (q00 G) G ?_));intro aw M w H a4 hR;obtain rfl:=hR;refine NL (TN ?_);obtain⟨ac,E,u⟩:=bnd u;refine q0c (fun e w =>∃(a1:UInt8) (M:Mem),e=[(0,S p0),(3,O),(5,encB a1),(8,I (p0.length:Int)),(9,I K)]/\St w0 M0 M [RowI 5 encB O N] w/\some (.inl a1)=some ac) [(1,fun e w =>∃  (M:Mem),e=[(0,S p0),(3,O),(8,I (p0.length:Int)),(9,I K)]/\St w0 M0 M [RowI 5 encB O N] w/\some (.inr ())=some ac)] ?_ ?_ (⟨?_,trivial⟩)
   .
    refine q0a G (fun Y=>?_) (fun Y=>?_)
    .
     subst Y;rw[if_pos rfl] at E;refine SQ (RG (AS G G (NL (TN (SQ (RG (MV G G (ST (q1w (l:=N) Tu23 H Km G) G ?_))))))));refine AS G G (NL (TN (SQ ?_)));obtain⟨am,J,E⟩:=bnd E;refine q0c (fun e w =>∃(a5:Bool) (M:Mem),e=[(0,S p0),(3,O),(5,encB 32),(8,I (p0.length:Int)),(9,I K),(28,Value.bool a5)]/\St w0 M0 M [RowI 5 encB O N] w/\some a5=some am) [] ?_ ?_ (trivial)
     .
      by_cases U:(0:Int)<(N.length:Int)
      .
       rw[if_pos U] at J;obtain⟨ax,a8,J⟩:=bnd J;obtain⟨an,a2,J⟩:=bnd J;refine RG (MV G G (DT U (q0C G G) G (MV G G (SG (q06 G) G G G (SG (q06 G) G G G (SG (q0K G G a8) G G G (WR.idxRowC (l:=N) H Tu23 Ts5 Km G G a2 (q0h G G G) G ?_)))))));intro ay ah;refine SG (Ex.loadRowC H G ah Km a2 Ta5) G G G ?_;refine SG (q0L (c:=an) (d:=32) G G) G G G (PT G G G (NL ?_));exact MN ⟨_,_,G,H,J⟩
      rw[if_neg U] at J;refine RG (MV G G (DF U (q0C G G) G (MV G G (q0i 6 G G (PF G G G (NL ?_))))));exact MN ⟨_,_,G,H,J⟩
     rintro e w ⟨a5,M,rfl,H,ao⟩;obtain rfl:=oI ao;refine TN ?_;refine q0a G (fun Z=>?_) (fun Z=>?_)
     .
      subst Z;rw[if_pos rfl] at E;refine q0j ?_;exact WQ.meetX G [(0,_),(3,_),(8,_),(9,_)] ⟨G,G,G,G,trivial⟩ ⟨_,G,H,E⟩
     subst Z;rw[if_neg l00] at E;refine SK ?_;exact MN ⟨_,_,G,H,E⟩
    subst Y;rw[if_neg l00] at E;refine SK ?_;exact MN ⟨_,_,G,H,E⟩
   .
    rintro e w ⟨a1,M,rfl,H,ap⟩;obtain rfl:=oI ap;try dsimp only at u
    refine TN ?_;obtain⟨az,a9,u⟩:=bnd u;refine RG (MV G G (MV G G (q0O (enc:=encB) xty23 ([a1]:Ls) H G Kf (fun _=>G) G G (q00 G) G ?_)));intro b0 M w H a4 ai;refine q0H (l:=N) xty23 G (fun _=>G) H G (fun _=>by repeat first|exact .head|apply Upd.tail) G (ai) a9 (q00 G) G ?_;intro b1 w H;refine AS G G (NL (IB (TN ?_)));obtain⟨b2,aa,u⟩:=bnd u;refine RG (ST (q0e G G aa) G (MV G G (NL ?_)));exact AG a0 ⟨_,_,_,_,G,H,u⟩ (l06 _)
   rintro e w ⟨M,rfl,H,aq⟩;obtain rfl:=oI aq;try dsimp only at u
   refine q03 (q0b (TN ?_));obtain⟨b3,ab,u⟩:=bnd u;refine RG (ST (q0e G G ab) G (MV G G (NL ?_)));exact AG a0 ⟨_,_,_,_,G,H,u⟩ (l06 _)
  rw[if_neg V] at u;refine q0j (q03 (q03 (q0b ?_)));exact MN ⟨_,_,_,G,H,u⟩
 rintro e w ⟨l4,v5,M,rfl,H,ar⟩;obtain rfl:=oI ar;refine TN (SQ ?_);obtain⟨b4,aj,h⟩:=bnd h;refine RG (MV G G ?_);obtain⟨M,a4,ak,H⟩:=H.freezeRow (v:=v5) (enc:=encB) (t:=5) Kv;refine ST (q0Y Tu23 Tu5 Tu9 H (ak) G) G (q02 H (Y58 aj) G trivial (q00 G) G ?_);intro b5 M w H a4 hR;obtain rfl:=hR;refine AS G G (NL (TN (RT ?_)));obtain rfl:=oI h;exact q07 G G H.ext G
theorem Y5F {p0:(Ls × Ls)}{r:Ls}(h:Y2Y p0=some r):Ct Tryz.prog 31 [Value.agg #[S p0.1,S p0.2]] (fun M=>True) (fun v M=>v=S r):=by
 refine Ct.of Tryz.func31 (enters Tryz.func31 Kr G) G G G ?_;intro U M0 H hp;unfold Y2Y at h;refine SQ (RG (q0F [_,_] H G G (q00 G) G ?_));intro a0 w H;refine AS G G (NL (TN (SQ ?_)));obtain⟨s1,N,h⟩:=bnd h;obtain⟨s3,u,h⟩:=bnd h;obtain⟨s4,O,h⟩:=bnd h;obtain⟨s6,E,h⟩:=bnd h;obtain⟨V,J,h⟩:=bnd h;refine q0V (fun e w =>∃  (M:Mem),e=[(2,S V)]/\St U M0 M [] w) ?_ ?_
 .
  refine q0x (m:=10) G G H ?_;intro w H;refine TK 0 G (fun _=>q01 Tu46 G Ts9 Dc G) G (TK 4 G (fun _=>q01 Tu46 G Ts9 Dc G) G (q1i (i:=1) [5] G Kr Kr Kr (XL H Ta9) (q00 G) G G (fun _ _=>G) ?_));refine q0E (i:=2) (j:=5) Kr G G ?_ ?_
  .
   refine q02 H (Y3K N) G trivial (q00 G) G ?_;intro Y M w H K hR;obtain rfl:=hR;refine NA (TK 3 G (fun _=>q0d G G u) G (q0k (fuel:=0) [5,6,7,8,9] G Kr (ST (XL H Ta9) G ?_)));refine q02 H (Y31 O) G trivial (q00 G) G ?_;intro Z M w H K hR;obtain rfl:=hR;refine ST (q0d G G E) G (ST (q0d G G J) G (AS G G (NA (q0f Kr ?_))));exact MP ⟨_,G,(H.pick (L':=[]) Kp)⟩
  refine ST (XL H Ta9) G ?_;refine NA (ON 2 Kr G (q02 H (Y3K N) G trivial (q00 G) G ?_));intro Y M w H K hR;obtain rfl:=hR;refine NA (TK 3 G (fun _=>q0d G G u) G (q0k (fuel:=0) [6,7,8,9] G Kr (q02 H (Y31 O) G trivial (q00 G) G ?_)));intro Z M w H K hR;obtain rfl:=hR;refine ST (q0d G G E) G (ST (q0d G G J) G (AS G G (NA (q0f Kr ?_))));exact MP ⟨_,G,(H.pick (L':=[]) Kp)⟩
 rintro e w ⟨M,rfl,H⟩;refine TN (RT ?_);obtain rfl:=oI h;exact q07 G G H.ext G
theorem view_Content_ct {p0:(List (Ls × Ls) × Ls × List BT38)}{N:Value}{O:Value}{U:Value}{r:Ls}(h:view_Content p0=some r):Ct Tryz.prog 33 [Value.agg #[N,O,U]] (fun M=>SlS M 2 xenc46 N p0.1/\Sl M encB O p0.2.1/\SlR xrl39 M U p0.2.2) (fun v M=>Sl M encB v r):=by
 refine Ct.of Tryz.func33 (enters Tryz.func33 Kr G) G G G ?_;intro w0 M0 H hp;obtain⟨u,E,J⟩:=hp;unfold view_Content at h;refine SQ (RG (q0F [_,_,_] H G G (q00 G) G ?_));intro a0 w H;refine AS G G (NL (TN (SQ (SQ (RG (ST (q01 Tu39 G Ts22 Dc G) G (ST (XL H Ta22) G ?_)))))));refine ST (q0N Tu22 u G) G (MV G G (NL (TN ?_)));obtain⟨o1,K,h⟩:=bnd h;refine q0c (fun e w =>∃  (M:Mem),e=[(1,ptr a0 0)]/\St w0 M0 M [.blk a0 (.cells #[N,O,U] 39)] w/\SlS M 2 xenc46 N p0.1/\Sl M encB O p0.2.1/\SlR xrl39 M U p0.2.2/\some (.inl ())=some o1) [] ?_ ?_ (trivial)
 .
  refine BL (q0l (fun m e w =>∃(n3:Int) (M:Mem),e=[(1,ptr a0 0),(10,N),(11,I (p0.1.length:Int)),(12,I n3)]/\St w0 M0 M [.blk a0 (.cells #[N,O,U] 39)] w/\SlS M 2 xenc46 N p0.1/\Sl M encB O p0.2.1/\SlR xrl39 M U p0.2.2/\view_Content_L1 p0 m n3=some o1) FU [(1,_),(10,_),(11,_),(12,_)] ⟨rfl,rfl,rfl,rfl,trivial⟩ ⟨_,_,rfl,H,u,E,J,K⟩ ?_);rintro m4 e w ⟨n3,M,rfl,H,u,E,J,K⟩;rcases m4 with _|m4
  . rw[view_Content_L1] at K;cases K
  rw[view_Content_L1] at K;refine SQ (RG (ST (q0m G G) G (NL (TN (SQ ?_)))));refine CB (p:=n3<(p0.1.length:Int)) G (fun a1=>?_) fun a1=>?_
  .
   rw[if_pos a1] at K;refine SK (TN (SQ (BL (SQ ?_))));obtain⟨a6,aa,K⟩:=bnd K;obtain⟨ao,ap,ab,ac⟩:=u.atC aa;refine RG (ST (q0s ab Tu22 Ts46 G G) G (ST (q0G H G ac Ta46 Ts46 Kf) G ?_));refine q09 [_,_] H Tz46 G (q00 G) G ?_;intro aq w H;refine q04 [_,_] H G G G Ku Ts46 G Kf Kf (q00 G) ?_;intro w H;refine NL (TN (SQ (SQ ?_)));obtain⟨b7,ak,K⟩:=bnd K;refine RG (ST (q01 Tu46 G Ts9 Dc G) G (ST (XL H Ta9) G ?_));refine q02 H (Y18 ak) G trivial (q00 G) G ?_;intro ar M w H Y hR;replace u:=u.mono Y;replace E:=E.mono Y;replace J:=J.mono Y;obtain rfl:=hR;refine ST (q0y G) G (NL (TN ?_));refine q0a G (fun Z=>?_) (fun Z=>?_)
   .
    replace Z:b7=false:=by simpa using Z
    subst Z;rw[if_neg l00] at K;refine q0j (q03 (q0b (TN ?_)));obtain⟨au,a4,K⟩:=bnd K;refine RG (ST (q0e G G a4) G (MV G G (NL ?_)));exact AG m4 ⟨_,_,G,(H.pick (L':=[.blk a0 (.cells #[N,O,U] 39)]) Kp),u,E,J,K⟩ (l06 _)
   replace Z:b7=true:=by simpa using Z
   subst Z;rw[if_pos rfl] at K;refine SK (TN (SQ ?_));obtain⟨⟨av,⟨a9,aw⟩⟩,ad,K⟩:=bnd K;try dsimp only at K
   refine RG (ST (q01 Tu39 G Ts23 Dc G) G (ST (XL H Ta23) G ?_));refine ST (q01 Tu46 G Ts9 Dc G) G (ST (XL H Ta9) G ?_);refine q02 H (transfer_Decode_ct ad) G (E) (q00 G) G ?_;intro ax M w H Y hR;replace u:=u.mono Y;replace E:=E.mono Y;replace J:=J.mono Y;try dsimp only at hR
   obtain⟨am,rfl,a5⟩:=hR;refine MV G G (ST (q05 G G) G (ST (q05 G G) G (q09 [_,_] H Tz28 G (q00 G) G ?_)));intro ay w H;refine AS G G (q04 [_,_] H G G G Ku Ts28 G Kf Kf (q00 G) ?_);intro w H;refine NL (TN (SQ (RG (ST (q01 Tu28 G Ts3 Dc G) G (ST (XL H Ta3) G ?_)))));refine ST (q1j G G) G (NL (TN ?_));refine q0a G (fun V=>?_) (fun V=>?_)
   .
    replace V :¬(a9=(18:Int)):=of_not_decide V;rw[if_neg V] at K;refine SQ (RG (MV G G (AS G G (NL (TN (RT ?_))))));obtain rfl:=oI K;try dsimp only at h
    obtain rfl:=oI h;exact q07 G G H.ext a5
   replace V:a9=(18:Int):=of_not_decide' V;rw[if_pos V] at K;refine SK (IB (TN ?_));obtain⟨az,a7,K⟩:=bnd K;refine RG (ST (q0e G G a7) G (MV G G (NL ?_)));exact AG m4 ⟨_,_,G,(H.pick (L':=[.blk a0 (.cells #[N,O,U] 39)]) Kp),u,E,J,K⟩ (l06 _)
  rw[if_neg a1] at K;refine q0j (q03 (q03 (q0b ?_)));exact MN ⟨_,G,H,u,E,J,K⟩
 rintro e w ⟨M,rfl,H,u,E,J,al⟩;obtain rfl:=oI al;try dsimp only at h
 refine TN (SQ ?_);obtain⟨⟨b0,⟨b1,b2⟩⟩,ae,h⟩:=bnd h;try dsimp only at h
 refine RG (ST (q01 Tu39 G Ts23 Dc G) G (ST (XL H Ta23) G ?_));refine q02 H (transfer_Decode_ct ae) G (E) (q00 G) G ?_;intro b3 M w H Y hR;try dsimp only at hR
 obtain⟨an,rfl,a8⟩:=hR;refine MV G G (ST (q05 G G) G (ST (q05 G G) G (q09 [_,_] H Tz28 G (q00 G) G ?_)));intro b4 w H;refine AS G G (q04 [_,_] H G G G Ku Ts28 G Kf Kf (q00 G) ?_);intro w H;refine NL (TN (SQ (RG (MV G G (AS G G (NL (TN (RT ?_))))))));obtain rfl:=oI h;exact q07 G G H.ext a8
theorem Y5z {p1:Ls}{p2:Ls}{p3:Int}{a1:Nat}{U:Value}{V:Nat}{ai:Value}{a2:Nat}:ItR Tryz.prog 135 [ptr a1 0,ptr V 0,ptr a2 0] [.blk a1 (.cells #[U] 23), .blk V (.cells #[ai] 23), .blk a2 (.cells #[I p3] 3)] (fun M=>GlF (fun w =>∃m,w.cell? ⟨0,0,none⟩=some (.int .i64 m)) M/\Sl M encB U p1/\Sl M encB ai p2) (fun v M x=>Sl M encB v x) (Y3i p1 p2 p3):=by
 refine ItR.of Tryz.func135 (enters Tryz.func135 Kr G) G G G ?_;intro lid σ Y Z C hY s0 r L0 w0 M0 h hzz H hp;simp only[l02,l03] at H;obtain⟨gM,J,ax⟩:=hp;unfold Y3i at h;refine SQ (SQ (RG (ST (XL H Ta23) G ?_)));refine ST (q0o Tu23 J G) G (ST (q0u G G) G (NL (TN ?_)));refine CB (p:=(p1.length:Int)=(0:Int)) G (fun a7=>?_) fun a7=>?_
 .
  rw[if_pos a7] at h;cases h
 rw[if_neg a7] at h;refine SK (TN (SQ ?_));obtain⟨o2,u,h⟩:=bnd h;refine q0c (fun e w =>∃(l4:Ls) (v5:Value) (s7:σ) (Lc:List Ph.Item) (M:Mem),e=[(0,(yv lid)),(2,ptr V 0)]/\StX C w0 M0 M (.blk V (.cells #[v5] 23) :: .blk a1 (.cells #[U] 23) :: .blk a2 (.cells #[I p3] 3)::Lc) w/\GlF (fun w =>∃m,w.cell? ⟨0,0,none⟩=some (.int .i64 m)) M/\Sl M encB v5 l4/\Sl M encB U p1/\ZH Z s7 Lc M/\some (.inl (l4,s7))=some o2) [] ?_ ?_ (trivial)
 .
  refine BL (q0l (fun m e w =>∃(l8:Ls) (v9:Value) (a8:σ) (Lc:List Ph.Item) (M:Mem),e=[(0,(yv lid)),(1,ptr a1 0),(2,ptr V 0),(3,ptr a2 0)]/\StX C w0 M0 M (.blk a1 (.cells #[U] 23) :: .blk V (.cells #[v9] 23) :: .blk a2 (.cells #[I p3] 3)::Lc) w/\GlF (fun w =>∃m,w.cell? ⟨0,0,none⟩=some (.int .i64 m)) M/\Sl M encB U p1/\Sl M encB v9 l8/\ZH Z a8 Lc M/\Y0J Y p1 p3 m l8 a8=some o2) FU [(0,_),(1,_),(2,_),(3,_)] ⟨rfl,rfl,rfl,rfl,trivial⟩ ⟨_,_,_,_,_,rfl,H,gM,J,ax,hzz,u⟩ ?_);rintro a9 e w ⟨l8,v9,a8,Lc,M,rfl,H,gM,J,E,hzz,u⟩;rcases a9 with _|a9
  . rw[Y0J] at u;cases u
  rw[Y0J] at u;refine BL (SQ ?_);obtain⟨az,ao,u⟩:=bnd u;refine RG (ST (XL H Ta23) G ?_);refine ST (XL H Ta23) G ?_;refine q02 H (Y5k ao) G ⟨gM,E,J⟩ (q00 G) G ?_;intro b1 M w H N hR;replace gM:=gM.mono N;replace hzz:=hzz.mono N;replace J:=J.mono N;replace E:=E.mono N;obtain rfl:=hR;refine AS G G (NL (TN (SQ (SQ (RG (MV G G (ST (q0m G G) G (NL (TN ?_)))))))));refine CB (p:=az<(0:Int)) G (fun a4=>?_) fun a4=>?_
  .
   rw[if_pos a4] at u;refine q0j (q03 (q1r G (q03 (q0b ?_))));exact MN ⟨_,_,_,_,_,G,(H.pick (L':=(.blk V (.cells #[v9] 23) :: .blk a1 (.cells #[U] 23) :: .blk a2 (.cells #[I p3] 3)::Lc)) (by repeat(first|refine Pick.cons Kv ?_|exact q1A (by repeat(first|exact List.Sublist.refl _|apply List.Sublist.cons))))),gM,E,J,hzz,u⟩
  rw[if_neg a4] at u;refine SK (TN (SQ ?_));obtain⟨b2,ac,u⟩:=bnd u;obtain⟨b3,O,u⟩:=bnd u;refine RG (ST (XL H Ta23) G ?_);refine MV G G (ST (XL H Ta3) G ?_);refine ST (q0e G G ac) G (ST (q1K Tu23 Ts5 (E) G G O) G (AS G G (NL (TN (SQ (SQ ?_))))));obtain⟨b4,ad,u⟩:=bnd u;obtain⟨⟨b5,aj⟩,ap,u⟩:=bnd u;try dsimp only at u
  refine RG (MV G G (MV G G (MV G G (ST (q0o Tu23 (E.subV O) G) G (MV G G (ST (q0o Tu23 (E.subV O) G) G (WR.slice3C Tu23 Ts5 ((E.subV O)) G G G ad (q00 G) G ?_)))))));intro b6 aq;refine WR.yieldR H (.right (.right (.right (q1p _)))) hY hzz ap G G (aq) (q00 G) G ?_;intro w M Lc H N hzz;simp only[l02,l03] at H;replace gM:=gM.mono N;replace E:=E.mono N;replace J:=J.mono N;refine ST (q0y G) G (NL (TN ?_));refine q0a G (fun K=>?_) (fun K=>?_)
  .
   replace K:aj=false:=by simpa using K
   subst K;rw[if_neg l00] at u;refine RT ?_;obtain rfl:=oI u;try dsimp only at h
   obtain rfl:=oI h;exact WQ.retZ G H (by repeat(first|exact List.Sublist.refl _|apply List.Sublist.cons)) hzz G
  replace K:aj=true:=by simpa using K
  subst K;rw[if_pos rfl] at u;refine SK (TN ?_);obtain⟨b7,ae,u⟩:=bnd u;obtain⟨b8,a3,u⟩:=bnd u;refine RG (ST (XL H Ta23) G ?_);refine MV G G (ST (XL H Ta23) G ?_);refine ST (q0o Tu23 J G) G (ST (q0e G G ae) G (ST (q1E Tu23 Ts5 (E) G G a3) G (q0Q [_] H G G ((E.subV a3).one) Ku Kf Ts23 (by first|decide|(simp;done)|(simp;omega)) (q00 G) ?_)));intro w H;refine NL (IB ?_);exact AG a9 ⟨_,_,_,_,_,G,H,gM,J,(E.subV a3),hzz,u⟩ (l06 _)
 rintro e w ⟨l4,v5,s7,Lc,M,rfl,H,gM,aa,J,hzz,b0⟩;obtain rfl:=oI b0;try dsimp only at h
 refine TN ?_;obtain⟨b9,ah,h⟩:=bnd h;obtain⟨⟨ba,bb⟩,ar,h⟩:=bnd h;try dsimp only at h
 refine RG (MV G G (ST (XL H Ta23) G ?_));refine ST (XL H Ta23) G ?_;refine ST (q0o Tu23 aa G) G (ST (XL H Ta23) G ?_);refine ST (q0o Tu23 aa G) G (WR.slice3C Tu23 Ts5 (aa) G G G ah (q00 G) G ?_);intro bc au;refine WR.yieldR H (.right (.right (.right (q1p _)))) hY hzz ar G G (au) (q00 G) G ?_;intro w M Lc H N hzz;simp only[l02,l03] at H;refine NL ?_;obtain rfl:=oI h;exact WQ.endZ G H (by repeat(first|exact List.Sublist.refl _|apply List.Sublist.cons)) hzz G
theorem Y5O {p0:Ls}{a1:Value}{r:Ls}(h:Y2G p0=some r):Ct Tryz.prog 32 [a1] (fun M=>GlF (fun w =>∃m,w.cell? ⟨0,0,none⟩=some (.int .i64 m)) M/\Sl M encB a1 p0) (fun v M=>Sl M encB v r):=by
 refine Ct.ofM Tryz.func32 (enters Tryz.func32 Kr G) G G G ?_;intro w0 M0 H hp;obtain⟨K,N⟩:=hp;unfold Y2G at h;refine SQ (RG (AS G G (NL (TN (SQ (RG (q09 [_] H Tz23 G (q00 G) G ?_)))))));intro a2 w H;refine NL (TN (SQ (RG (q09 [_] H Tz3 G (q00 G) G ?_))));intro a3 w H;refine q04 [_] H G G G Ku Ts3 G Kf Kf (q00 G) ?_;intro w H;refine NL (TN (SQ (SQ (RG (MV G G (WR.litC xty23 Tu5 ([13,10]:Ls) H G Kf G G (q00 G) G (fun _=>q00 G) G ?_))))));intro v9 M w H u a4;replace K:=K.mono u;replace N:=N.mono u;refine q0q (A:=[]) (B:=[.blk a3 (.cells #[I 0] 3), .blk a2 (.cells #[Value.slice none 0 0] 23)]) H (Y5K (N).cells1 (a4).cells1) (q0r _) G trivial (q00 G) G ?_;intro an M w its H u hR;replace K:=K.mono u;replace N:=N.mono u;replace a4:=a4.mono u;obtain⟨O,U,V,rfl,rfl⟩:=hR;simp only[l02,l03] at H;refine NL (TN (BL ?_));replace H:=H.newRow 5 encB;obtain⟨o7,e8,h⟩:=bnd h;refine WC.rangeR (A:=[.blk O (.cells #[v9] 23), .blk U (.cells #[a1] 23), .blk V (.cells #[I 0] 3)]) (L:=[.blk a2 (.cells #[(Value.slice none 0 0)] 23),RowI 5 encB (Value.slice none 0 0) [], .blk a3 (.cells #[I 0] 3)]) (B:=[]) (H.pick (L':=[.blk O (.cells #[v9] 23), .blk U (.cells #[a1] 23), .blk V (.cells #[I 0] 3), .blk a2 (.cells #[(Value.slice none 0 0)] 23),RowI 5 encB (Value.slice none 0 0) [], .blk a3 (.cells #[I 0] 3)]) Kp) rfl Y5z (.left (.left (.left (.left (.left (.left (q0r _))))))) ⟨K,a4,N⟩ rfl (fun s L M =>∃(l2:Ls) (Y:Value) (n4:Int),s=(l2,n4)/\L=[.blk a2 (.cells #[Y] 23),RowI 5 encB Y l2, .blk a3 (.cells #[I n4] 3)]/\GlF (fun w =>∃m,w.cell? ⟨0,0,none⟩=some (.int .i64 m)) M) (fun _=>none) goOn (fun _=>rfl) (Y1x) ([],0) o7 e8 (by rintro s L M M' ⟨l2,Y,n4,rfl,rfl,K⟩ u;exact ⟨_,_,_,rfl,rfl,K.mono u⟩) rfl ⟨_,_,_,rfl,rfl,K⟩ ?_ ?_ ?_
 .
  rintro am ao Z s ap aq ar L au Mb5 hE J ⟨l2,Y,n4,rfl,rfl,K⟩ hs5x H;unfold Y1x at J;try dsimp only at J
  refine RG (AS G G (NL (WQ.begin Z H Ku ?_)));intro w H;refine BL (SQ ?_);obtain⟨aa,ab,J⟩:=bnd J;refine RG (MV G G (ST (q0Y Tu23 Tu5 Tu9 H (hs5x) G) G (q02 H (Y31 ab) G trivial (q00 G) G ?_)));intro av M w H u hR;replace K:=K.mono u;obtain rfl:=hR;refine AS G G (NL (TN (SQ (SQ (RG (MV G G (ST (q0B G G) G (NL (TN ?_)))))))));refine CB (p:=aa=[]) G (fun a0=>?_) fun a0=>?_
  .
   rw[if_pos a0] at J;refine SQ ?_;obtain⟨aw,a6,J⟩:=bnd J;refine RG (ST (XL H Ta3) G ?_);refine ST (q0e G G a6) G (q04 [_] H G G G Ku Ts3 G Kf Kf (q00 G) ?_);intro w H;refine NL (TN (q0j (q03 (q0b ?_))));obtain rfl:=oI J;exact WQ.rsOn Z H G ⟨_,_,_,G,G,K⟩
  rw[if_neg a0] at J;refine SK (TN (SQ ?_));obtain⟨ah,ac,J⟩:=bnd J;obtain⟨ai,a7,J⟩:=bnd J;obtain⟨aj,a8,J⟩:=bnd J;obtain⟨ax,a9,J⟩:=bnd J;refine WC.sub (e':=[(3,_),(4,_),(6,_)]) ⟨G,G,G,trivial⟩ (q0x (m:=8) G G H ?_);intro w H;refine WA.conf (c:=6) [(19,Y,[]),(20,I n4,[]),(21,S ah,[1]),(22,S aa,[]),(23,S ai,[2,3]),(24,S aj,[4])] G G Kr G G H ⟨⟨_,G,fun E w M H u Qk kk=>?_⟩,⟨_,G,fun E w M H u Qk kk=>?_⟩,⟨_,G,fun E w M H u Qk kk=>?_⟩,⟨_,G,fun E w M H u Qk kk=>?_⟩,⟨_,G,fun E w M H u Qk kk=>?_⟩,⟨_,G,fun E w M H u Qk kk=>?_⟩,trivial⟩ ?_
  .
   refine ST (XL H Ta23) G ?_;exact q1k (kk _ _ H (Mem.le.refl _))
  .
   refine ST (XL H Ta3) G ?_;exact q1k (kk _ _ H (Mem.le.refl _))
  .
   refine q02 H (Y5I ac) G trivial (q00 G) G ?_;intro ay M w H u hR;obtain rfl:=hR;exact q1k (kk _ _ H u)
  .
   refine MV G G ?_;exact q1k (kk _ _ H (Mem.le.refl _))
  .
   refine ST (q0d G G a7) G ?_;exact q1k (kk _ _ H (Mem.le.refl _))
  .
   refine ST (q0d G G a8) G ?_;exact q1k (kk _ _ H (Mem.le.refl _))
  intro w M H u;replace K:=K.mono u;refine q0k (fuel:=0) [6,7] G Kr (q1D (l:=l2) xty23 Tu9 H G (fun _=>by repeat first|exact .head|apply Upd.tail) G a9 (q00 G) G ?_);intro az w H;refine q0Q [_] H G G (H.rowOne Km) Ku Kf Ts23 (by first|decide|(simp;done)|(simp;omega)) (q00 G) ?_;intro w H;refine NA (q0f Kr (TN (RG (q04 [_] H G G G Ku Ts3 G Kf Kf (q00 G) ?_))));intro w H;refine NL (IB ?_);obtain rfl:=oI J;exact WQ.rsOn Z H G ⟨_,_,_,G,G,K⟩
 .
  rintro Dm5 w M L H u hE ⟨l2,Y,n4,rfl,rfl,K⟩;simp only[l02,l03,l0f] at H;try dsimp only at h
  refine IB (TN (SQ (RG (ST (XL H Ta23) G ?_))));refine AS G G (NL (TN (RT ?_)));obtain⟨M,u,ad,H⟩:=H.freezeRow (v:=Y) (enc:=encB) (t:=5) Kv;obtain rfl:=oI h;exact WQ.nret1 G H Kv (fun w H=>G) ad
 intro Dm w M L c H u hE;cases hE
theorem Y2x {p0 : (List (Ls × Ls) × Ls)}{aq : Value}{ar : Value}{r : (Ls × (Int × Int))}(h : Y12 p0 = some r): Ct Tryz.prog 12 [Value.agg #[aq, ar]] (fun M => GlF (fun w => ∃ tp p, w.var? Tryz.prog "strconv.ErrRange" = some #[.iface tp p]) M /\ GlF (fun w => ∃ tp p, w.var? Tryz.prog "strconv.ErrSyntax" = some #[.iface tp p]) M /\ GlF (fun w => ∃ m, w.cell? ⟨0, 0, none⟩ = some (.int .i64 m)) M /\ GlF (fun w => Lib.TabIs Tryz.prog w "internal/strconv.uint64pow10" .u64 Lib.pow10Tab) M /\ Tabs M /\ SlS M 2 xenc46 aq p0.1 /\ Sl M encB ar p0.2) (fun v M => ∃ x0, v = Value.tuple #[x0, Value.agg #[I r.2.1, I r.2.2]] /\ Sl M encB x0 r.1) := by
 refine Ct.ofM Tryz.func12 (enters Tryz.func12 Kr G) G G G ?_;intro w0 M0 H hp;obtain⟨E,J,O,u,U,b6,b8⟩:=hp;unfold Y12 at h;refine SQ (RG (q0F [_,_] H G G (q00 G) G ?_));intro cx w H;refine AS G G (q09 [_,_] H Tz28 G (q00 G) G ?_);intro Y w H;refine NL (TN (SQ ?_));obtain⟨⟨⟨l1,l2,l3⟩,⟨n4,n5⟩⟩,ca,h⟩:=bnd h;try dsimp only at h
 refine RG (ST (q08 H G Km Ta25 Ts25 Kf) G ?_);refine q02 H (Y4x ca) G ⟨E,J,O,u,U,b6,b8⟩ (q00 G) G ?_;intro cy M w H K hR;replace E:=E.mono K;replace J:=J.mono K;replace O:=O.mono K;replace u:=u.mono K;replace U:=U.mono K;try dsimp only at hR
 obtain⟨c6,c7,c8,rfl,a7,a8,a9⟩:=hR;refine MV G G (ST (q05 G G) G (ST (q05 G G) G (q09 [_,_,_] H Tz39 G (q00 G) G ?_)));intro cz w H;refine q09 [_,_] H Tz28 G (q00 G) G ?_;intro d0 w H;refine q04 [_,_,_] H G G G Ku Ts39 G Kf (by simp only[l0b,l0i,(a7).one.2,(a8).one.2,(a9).one.2];rfl) (q00 G) ?_;intro w H;refine q04 [_,_] H G G G Ku Ts28 G Kf Kf (q00 G) ?_;intro w H;refine NL (TN (SQ (SQ ?_)));obtain⟨b7,cb,h⟩:=bnd h;refine RG (ST (q08 H G Km Ta28 Ts28 Kf) G ?_);refine q02 H (Y06 cb) G trivial (q00 G) G ?_;intro d1 M w H K hR;replace E:=E.mono K;replace J:=J.mono K;replace O:=O.mono K;replace u:=u.mono K;replace U:=U.mono K;replace a7:=a7.mono K;replace a8:=a8.mono K;replace a9:=a9.mono K;obtain rfl:=hR;refine NL (TN ?_);refine q0a G (fun az=>?_) (fun az=>?_)
 .
  subst az;rw[if_pos rfl] at h;refine SQ (q0x (m:=3) G G H ?_);intro w H;refine TK 1 G (fun _=>q1u G) G (q0k (fuel:=0) [0,2] G Kr (ST (q08 H G Km Ta28 Ts28 Kf) G ?_));refine q04 [_,_] H G G G Ku Ts28 G Kf Kf (q00 G) ?_;intro w H;refine NA (q0f Kr (TN (RT ?_)));obtain rfl:=oI h;exact WQ.mret2 G G ⟨_,G,H.loadAgg Km Ta28 Ts28 Kf⟩ H.ext (⟨_,G,q0U _ _⟩)
 subst az;rw[if_neg l00] at h;refine SK (TN (SQ (RG (q09 [_] H Tz23 G (q00 G) G ?_))));intro a2 w H;refine NL (TN (SQ (SQ ?_)));obtain⟨⟨d2,d3,d4⟩,bs,h⟩:=bnd h;try dsimp only at h
 refine RG (ST (q08 H G Km Ta39 Ts39 Kf) G ?_);refine q02 H (Y6u bs) G ⟨a7,a8,a9⟩ (q00 G) G ?_;intro d5 M w H K hR;replace E:=E.mono K;replace J:=J.mono K;replace O:=O.mono K;replace u:=u.mono K;replace U:=U.mono K;try dsimp only at hR
 obtain⟨bt,x23_0_0c_0,x23_0_0c_1,x23_0_0c_2,rfl,ay,f23_0_0c_0,f23_0_0c_1,f23_0_0c_2⟩:=hR;refine NL (TN (BL ?_));replace H:=H.newRow 5 encB;obtain⟨cc,cd,h⟩:=bnd h
 refine WC.rangeW (A := []) (L := [.blk Y (.cells #[I 0, I 0] 28), .blk a2 (.cells #[(Value.slice none 0 0)] 23), RowI 5 encB (Value.slice none 0 0) []]) (B := []) (H.pick (L' := [.blk Y (.cells #[I 0, I 0] 28), .blk a2 (.cells #[(Value.slice none 0 0)] 23), RowI 5 encB (Value.slice none 0 0) []]) Kp) rfl Y60 (.left (.left (.left (q0r _)))) ⟨ay, f23_0_0c_0, f23_0_0c_1, f23_0_0c_2⟩ rfl rfl (fun s L M => ∃ (a1 : Ls) (N : Value), a1 = s /\ L = [.blk Y (.cells #[I 0, I 0] 28), .blk a2 (.cells #[N] 23), RowI 5 encB N a1] /\ GlF (fun w => ∃ tp p, w.var? Tryz.prog "strconv.ErrRange" = some #[.iface tp p]) M /\ GlF (fun w => ∃ tp p, w.var? Tryz.prog "strconv.ErrSyntax" = some #[.iface tp p]) M /\ GlF (fun w => ∃ m, w.cell? ⟨0, 0, none⟩ = some (.int .i64 m)) M /\ GlF (fun w => Lib.TabIs Tryz.prog w "internal/strconv.uint64pow10" .u64 Lib.pow10Tab) M /\ Tabs M) (fun _ => none) goOn (fun _ => rfl) (Y0o ) [] cc cd (by rintro s L M M' ⟨a1, N, rfl, rfl, E, J, O, u, U⟩ K; exact ⟨_, _, rfl, rfl, E.mono K, J.mono K, O.mono K, u.mono K, U.mono K⟩) rfl ⟨_, _, rfl, rfl, E, J, O, u, U⟩ ?_ ?_ ?_
 .
  rintro Z a3 au s ⟨d6,⟨aa,av,al⟩⟩ ct cu cv L aj Mb18 hE V ⟨a1,N,rfl,rfl,E,J,O,u,U⟩ ⟨xZ18_0_0,xZ18_0_1,xZ18_0_2,rfl,rfl,fZ18_0_0,fZ18_0_1,fZ18_0_2⟩ H;unfold Y0o at V;try dsimp only at V
  refine RG (q09 [_,_,_] H Tz39 G (q00 G) G ?_);intro a5 w H;refine q04 [_,_,_] H G G G Ku Ts39 G Kf (by simp only[l0b,l0i,(fZ18_0_0).one.2,(fZ18_0_1).one.2,(fZ18_0_2).one.2];rfl) (q00 G) ?_;intro w H;refine NL (WQ.begin au H Ku ?_);intro w H;refine BL (SQ (RG (AS G G (AS G G (NL (TN (SQ (SQ (RG (ST (q01 Tu39 G Ts22 Dc G) G (ST (XL H Ta22) G ?_)))))))))));refine ST (q0N Tu22 fZ18_0_0 G) G (MV G G (NL (TN ?_)));obtain⟨bq,a0,V⟩:=bnd V
  refine q0c (fun e w => ∃ (aw : Ls) (ah : Value) (M : Mem), e = [(3, ptr Y 0), (6, ptr a2 0), (8, ptr a5 0), (9, ah), (10, Value.slice none 0 0)] /\ StX (feet (.blk Z (.loop (a3 .ready none)) :: [.blk Y (.cells #[I 0, I 0] 28), .blk a2 (.cells #[N] 23), RowI 5 encB N a1])) aj Mb18 M [.blk Y (.cells #[I 0, I 0] 28), .blk a2 (.cells #[N] 23), RowI 5 encB N a1, .blk a5 (.cells #[xZ18_0_0, xZ18_0_1, xZ18_0_2] 39), RowI 5 encB ah aw, .blk Z (.loop (a3 .busy none))] w /\ GlF (fun w => ∃ tp p, w.var? Tryz.prog "strconv.ErrRange" = some #[.iface tp p]) M /\ GlF (fun w => ∃ tp p, w.var? Tryz.prog "strconv.ErrSyntax" = some #[.iface tp p]) M /\ GlF (fun w => ∃ m, w.cell? ⟨0, 0, none⟩ = some (.int .i64 m)) M /\ GlF (fun w => Lib.TabIs Tryz.prog w "internal/strconv.uint64pow10" .u64 Lib.pow10Tab) M /\ Tabs M /\ SlS M 2 xenc46 xZ18_0_0 aa /\ Sl M encB xZ18_0_1 av /\ SlR xrl39 M xZ18_0_2 al /\ some aw = some bq) [] ?_ ?_ (trivial)
  .
   refine BL ?_;replace H:=H.newRow 5 encB
   refine q0l (fun m e w => ∃ (ab : Ls) (ac : Value) (am : Int) (M : Mem), e = [(3, ptr Y 0), (6, ptr a2 0), (8, ptr a5 0), (9, ac), (10, Value.slice none 0 0), (27, xZ18_0_0), (28, I (aa.length : Int)), (29, I am)] /\ StX (feet (.blk Z (.loop (a3 .ready none)) :: [.blk Y (.cells #[I 0, I 0] 28), .blk a2 (.cells #[N] 23), RowI 5 encB N a1])) aj Mb18 M [.blk Y (.cells #[I 0, I 0] 28), .blk a2 (.cells #[N] 23), RowI 5 encB N a1, .blk a5 (.cells #[xZ18_0_0, xZ18_0_1, xZ18_0_2] 39), RowI 5 encB ac ab, .blk Z (.loop (a3 .busy none))] w /\ GlF (fun w => ∃ tp p, w.var? Tryz.prog "strconv.ErrRange" = some #[.iface tp p]) M /\ GlF (fun w => ∃ tp p, w.var? Tryz.prog "strconv.ErrSyntax" = some #[.iface tp p]) M /\ GlF (fun w => ∃ m, w.cell? ⟨0, 0, none⟩ = some (.int .i64 m)) M /\ GlF (fun w => Lib.TabIs Tryz.prog w "internal/strconv.uint64pow10" .u64 Lib.pow10Tab) M /\ Tabs M /\ SlS M 2 xenc46 xZ18_0_0 aa /\ Sl M encB xZ18_0_1 av /\ SlR xrl39 M xZ18_0_2 al /\ Y0v aa m ab am = some bq) FU [(3, _), (6, _), (8, _), (9, _), (10, _), (27, _), (28, _), (29, _)] ⟨rfl, rfl, rfl, rfl, rfl, rfl, rfl, rfl, trivial⟩ ⟨_, _, _, _, rfl, (H.pick (L' := [.blk Y (.cells #[I 0, I 0] 28), .blk a2 (.cells #[N] 23), RowI 5 encB N a1, .blk a5 (.cells #[xZ18_0_0, xZ18_0_1, xZ18_0_2] 39), RowI 5 encB (Value.slice none 0 0) [], .blk Z (.loop (a3 .busy none))]) Kp), E, J, O, u, U, fZ18_0_0, fZ18_0_1, fZ18_0_2, a0⟩ ?_
   rintro ax e w ⟨ab,ac,am,M,rfl,H,E,J,O,u,U,fZ18_0_0,fZ18_0_1,fZ18_0_2,a0⟩;rcases ax with _|ax
   . rw[Y0v] at a0;cases a0
   rw[Y0v] at a0;refine SQ (RG (ST (q0m G G) G (NL (TN (SQ ?_)))));refine CB (p:=am<(aa.length:Int)) G (fun an=>?_) fun an=>?_
   .
    rw[if_pos an] at a0;refine SK (TN (SQ (BL (SQ ?_))));obtain⟨ai,b9,a0⟩:=bnd a0;obtain⟨cw,d7,bu,bv⟩:=fZ18_0_0.atC b9;refine RG (ST (q0s bu Tu22 Ts46 G G) G (ST (q0G H G bv Ta46 Ts46 Kf) G ?_));refine q09 [_,_] H Tz46 G (q00 G) G ?_;intro ak w H;refine q04 [_,_] H G G G Ku Ts46 G Kf Kf (q00 G) ?_;intro w H;refine NL (TN (SQ ?_));obtain⟨ce,ad,a0⟩:=bnd a0
    refine q0c (fun e w => ∃ (b0 : Bool) (M : Mem), e = [(3, ptr Y 0), (6, ptr a2 0), (8, ptr a5 0), (9, ac), (10, Value.slice none 0 0), (12, ptr ak 0), (27, xZ18_0_0), (28, I (aa.length : Int)), (29, I am), (42, Value.bool b0)] /\ StX (feet (.blk Z (.loop (a3 .ready none)) :: [.blk Y (.cells #[I 0, I 0] 28), .blk a2 (.cells #[N] 23), RowI 5 encB N a1])) aj Mb18 M [.blk Y (.cells #[I 0, I 0] 28), .blk a2 (.cells #[N] 23), RowI 5 encB N a1, .blk a5 (.cells #[xZ18_0_0, xZ18_0_1, xZ18_0_2] 39), RowI 5 encB ac ab, .blk ak (.cells #[S ai.1, S ai.2] 46), .blk Z (.loop (a3 .busy none))] w /\ GlF (fun w => ∃ tp p, w.var? Tryz.prog "strconv.ErrRange" = some #[.iface tp p]) M /\ GlF (fun w => ∃ tp p, w.var? Tryz.prog "strconv.ErrSyntax" = some #[.iface tp p]) M /\ GlF (fun w => ∃ m, w.cell? ⟨0, 0, none⟩ = some (.int .i64 m)) M /\ GlF (fun w => Lib.TabIs Tryz.prog w "internal/strconv.uint64pow10" .u64 Lib.pow10Tab) M /\ Tabs M /\ SlS M 2 xenc46 xZ18_0_0 aa /\ Sl M encB xZ18_0_1 av /\ SlR xrl39 M xZ18_0_2 al /\ some b0 = some ce) [] ?_ ?_ (trivial)
    .
     obtain⟨cf,bw,ad⟩:=bnd ad;refine RG (ST (q01 Tu46 G Ts9 Dc G) G (ST (XL H Ta9) G ?_));refine q02 H (Y18 bw) G trivial (q00 G) G ?_;intro d8 M w H K hR;replace E:=E.mono K;replace J:=J.mono K;replace O:=O.mono K;replace u:=u.mono K;replace U:=U.mono K;replace fZ18_0_0:=fZ18_0_0.mono K;replace fZ18_0_1:=fZ18_0_1.mono K;replace fZ18_0_2:=fZ18_0_2.mono K;obtain rfl:=hR;refine ST (q0y G) G (MV G G ?_);rcases cf with _|_
     .
      rw[if_neg l00] at ad;obtain⟨d9,bx,ad⟩:=bnd ad;refine SG (q01 Tu46 G Ts9 Dc G) G G G (SG (XL H Ta9) G G G ?_);refine q02 H (Y18 bx) G trivial (q0h G G G) G ?_;intro da M w H K hR;replace E:=E.mono K;replace J:=J.mono K;replace O:=O.mono K;replace u:=u.mono K;replace U:=U.mono K;replace fZ18_0_0:=fZ18_0_0.mono K;replace fZ18_0_1:=fZ18_0_1.mono K;replace fZ18_0_2:=fZ18_0_2.mono K;obtain rfl:=hR;refine SG (q0y G) G G G (PT G G G (NL ?_));exact MN ⟨_,_,G,(H.pick (L':=[.blk Y (.cells #[I 0,I 0] 28), .blk a2 (.cells #[N] 23),RowI 5 encB N a1, .blk a5 (.cells #[xZ18_0_0,xZ18_0_1,xZ18_0_2] 39),RowI 5 encB ac ab, .blk ak (.cells #[S ai.1,S ai.2] 46), .blk Z (.loop (a3 .busy none))]) Kp),E,J,O,u,U,fZ18_0_0,fZ18_0_1,fZ18_0_2,ad⟩
     rw[if_pos rfl] at ad;refine q0i 4 G G (PF G G G (NL ?_));exact MN ⟨_,_,G,(H.pick (L':=[.blk Y (.cells #[I 0,I 0] 28), .blk a2 (.cells #[N] 23),RowI 5 encB N a1, .blk a5 (.cells #[xZ18_0_0,xZ18_0_1,xZ18_0_2] 39),RowI 5 encB ac ab, .blk ak (.cells #[S ai.1,S ai.2] 46), .blk Z (.loop (a3 .busy none))]) Kp),E,J,O,u,U,fZ18_0_0,fZ18_0_1,fZ18_0_2,ad⟩
    rintro e w ⟨b0,M,rfl,H,E,J,O,u,U,fZ18_0_0,fZ18_0_1,fZ18_0_2,cg⟩;obtain rfl:=oI cg;refine TN ?_;refine q0a G (fun ao=>?_) (fun ao=>?_)
    .
     subst ao;rw[if_pos rfl] at a0;obtain⟨db,bz,a0⟩:=bnd a0;obtain⟨ch,ba,a0⟩:=bnd a0;refine RG (MV G G (ST (q08 H G Km Ta46 Ts46 Kf) G ?_));refine q02 H (Y5F bz) G trivial (q00 G) G ?_;intro dc M w H K hR;replace E:=E.mono K;replace J:=J.mono K;replace O:=O.mono K;replace u:=u.mono K;replace U:=U.mono K;replace fZ18_0_0:=fZ18_0_0.mono K;replace fZ18_0_1:=fZ18_0_1.mono K;replace fZ18_0_2:=fZ18_0_2.mono K;obtain rfl:=hR;refine q1D (l:=ab) xty23 Tu9 H G (fun _=>by repeat first|exact .head|apply Upd.tail) G ba (q00 G) G ?_;intro ci w H;refine AS G G (NL (IB (TN ?_)));obtain⟨dd,bb,a0⟩:=bnd a0;refine RG (ST (q0e G G bb) G (MV G G (NL ?_)));exact AG ax ⟨_,_,_,_,G,(H.pick (L':=[.blk Y (.cells #[I 0,I 0] 28), .blk a2 (.cells #[N] 23),RowI 5 encB N a1, .blk a5 (.cells #[xZ18_0_0,xZ18_0_1,xZ18_0_2] 39),RowI 5 encB ci ch, .blk Z (.loop (a3 .busy none))]) Kp),E,J,O,u,U,fZ18_0_0,fZ18_0_1,fZ18_0_2,a0⟩ (l06 _)
    subst ao;rw[if_neg l00] at a0;refine SK (IB (TN ?_));obtain⟨de,bc,a0⟩:=bnd a0;refine RG (ST (q0e G G bc) G (MV G G (NL ?_)));exact AG ax ⟨_,_,_,_,G,(H.pick (L':=[.blk Y (.cells #[I 0,I 0] 28), .blk a2 (.cells #[N] 23),RowI 5 encB N a1, .blk a5 (.cells #[xZ18_0_0,xZ18_0_1,xZ18_0_2] 39),RowI 5 encB ac ab, .blk Z (.loop (a3 .busy none))]) Kp),E,J,O,u,U,fZ18_0_0,fZ18_0_1,fZ18_0_2,a0⟩ (l06 _)
   rw[if_neg an] at a0;refine q0j (q03 (q03 (q0b ?_)));exact MN ⟨_,_,_,G,H,E,J,O,u,U,fZ18_0_0,fZ18_0_1,fZ18_0_2,a0⟩
  rintro e w ⟨aw,ah,M,rfl,H,E,J,O,u,U,fZ18_0_0,fZ18_0_1,fZ18_0_2,cj⟩;obtain rfl:=oI cj;refine TN (SQ (SQ (RG (ST (q01 Tu39 G Ts37 Dc G) G (ST (XL H Ta37) G ?_)))));refine ST (q1e Tu37 fZ18_0_2 G) G (ST (q0u G G) G (NL (TN ?_)));obtain⟨ck,ae,V⟩:=bnd V
  refine q0c (fun e w => ∃ (b1 : Ls) (b2 : Value) (M : Mem), e = [(3, ptr Y 0), (6, ptr a2 0), (8, ptr a5 0), (9, ah), (10, b2)] /\ StX (feet (.blk Z (.loop (a3 .ready none)) :: [.blk Y (.cells #[I 0, I 0] 28), .blk a2 (.cells #[N] 23), RowI 5 encB N a1])) aj Mb18 M [.blk Y (.cells #[I 0, I 0] 28), .blk a2 (.cells #[N] 23), RowI 5 encB N a1, .blk a5 (.cells #[xZ18_0_0, xZ18_0_1, xZ18_0_2] 39), RowI 5 encB ah aw, .blk Z (.loop (a3 .busy none))] w /\ GlF (fun w => ∃ tp p, w.var? Tryz.prog "strconv.ErrRange" = some #[.iface tp p]) M /\ GlF (fun w => ∃ tp p, w.var? Tryz.prog "strconv.ErrSyntax" = some #[.iface tp p]) M /\ GlF (fun w => ∃ m, w.cell? ⟨0, 0, none⟩ = some (.int .i64 m)) M /\ GlF (fun w => Lib.TabIs Tryz.prog w "internal/strconv.uint64pow10" .u64 Lib.pow10Tab) M /\ Tabs M /\ SlS M 2 xenc46 xZ18_0_0 aa /\ Sl M encB xZ18_0_1 av /\ SlR xrl39 M xZ18_0_2 al /\ Sl M encB b2 b1 /\ some b1 = some ck) [] ?_ ?_ (trivial)
  .
   refine CB (p:=(al.length:Int)=(0:Int)) G (fun ap=>?_) fun ap=>?_
   .
    rw[if_pos ap] at ae;obtain⟨df,c0,ae⟩:=bnd ae;obtain⟨dh,c1,ae⟩:=bnd ae;refine RG (ST (q08 H G Km Ta39 Ts39 Kf) G ?_);refine q02 H (view_Content_ct c0) G ⟨fZ18_0_0,fZ18_0_1,fZ18_0_2⟩ (q00 G) G ?_;intro di M w H K hR;replace E:=E.mono K;replace J:=J.mono K;replace O:=O.mono K;replace u:=u.mono K;replace U:=U.mono K;replace fZ18_0_2:=fZ18_0_2.mono K;replace fZ18_0_0:=fZ18_0_0.mono K;replace fZ18_0_1:=fZ18_0_1.mono K;have bd:=hR;refine q02 H (Y5O c1) G ⟨O,bd⟩ (q00 G) G ?_;intro dj M w H K hR;replace E:=E.mono K;replace J:=J.mono K;replace O:=O.mono K;replace u:=u.mono K;replace U:=U.mono K;replace fZ18_0_2:=fZ18_0_2.mono K;replace fZ18_0_0:=fZ18_0_0.mono K;replace fZ18_0_1:=fZ18_0_1.mono K;have be:=hR;refine AS G G (NL ?_);exact MN ⟨_,_,_,G,H,E,J,O,u,U,fZ18_0_0,fZ18_0_1,fZ18_0_2,be,ae⟩
   rw[if_neg ap] at ae;refine SK ?_;exact MN ⟨_,_,_,G,H,E,J,O,u,U,fZ18_0_0,fZ18_0_1,fZ18_0_2,q0U _ _,ae⟩
  rintro e w ⟨b1,b2,M,rfl,H,E,J,O,u,U,fZ18_0_0,fZ18_0_1,fZ18_0_2,a4,cm⟩;obtain rfl:=oI cm;refine TN (SQ ?_);obtain⟨M,K,a6,H⟩:=H.freezeRowR (v:=ah) (enc:=encB) (t:=5) Kv ⟨⟨_,Km⟩,⟨_,Km⟩,⟨_,Km⟩,Km,trivial⟩;replace E:=E.mono K;replace J:=J.mono K;replace O:=O.mono K;replace u:=u.mono K;replace U:=U.mono K;replace a4:=a4.mono K;replace fZ18_0_2:=fZ18_0_2.mono K;obtain⟨dk,c2,V⟩:=bnd V;obtain⟨dl,bg,V⟩:=bnd V;obtain⟨dm,c3,V⟩:=bnd V;obtain⟨dn,bh,V⟩:=bnd V;obtain⟨dp,bi,V⟩:=bnd V;obtain⟨dq,c4,V⟩:=bnd V;obtain⟨ds,bj,V⟩:=bnd V;obtain⟨dt,bm,V⟩:=bnd V;refine RG (ST (q01 Tu39 G Ts37 Dc G) G (ST (XL H Ta37) G ?_));refine ST (q1e Tu37 fZ18_0_2 G) G (q02 H (strconv_Itoa_ct c2) G (u) (q00 G) G ?_);intro du M w H K hR;replace E:=E.mono K;replace J:=J.mono K;replace O:=O.mono K;replace u:=u.mono K;replace U:=U.mono K;replace a6:=a6.mono K;replace a4:=a4.mono K;obtain rfl:=hR;refine ST (q0d G G bg) G (MV G G (ST (q0o Tu23 a6 G) G (q02 H (strconv_Itoa_ct c3) G (u) (q00 G) G ?_)));intro dw M w H K hR;replace E:=E.mono K;replace J:=J.mono K;replace O:=O.mono K;replace u:=u.mono K;replace U:=U.mono K;replace a6:=a6.mono K;replace a4:=a4.mono K;obtain rfl:=hR;refine ST (q0d G G bh) G (ST (q0d G G bi) G (MV G G (ST (q0o Tu23 a4 G) G (q02 H (strconv_Itoa_ct c4) G (u) (q00 G) G ?_))));intro dx M w H K hR;replace E:=E.mono K;replace J:=J.mono K;replace O:=O.mono K;replace u:=u.mono K;replace U:=U.mono K;replace a6:=a6.mono K;replace a4:=a4.mono K;obtain rfl:=hR;refine ST (q0d G G bj) G (ST (q0d G G bm) G (AS G G (NL (TN ?_))));obtain⟨cn,bn,V⟩:=bnd V;obtain⟨co,bo,V⟩:=bnd V
  obtain⟨cp,bp,V⟩:=bnd V;refine RG (ST (XL H Ta23) G ?_);refine MV G G (q1D (l:=a1) xty23 Tu9 H G (fun _=>by repeat first|exact .head|apply Upd.tail) G bn (q00 G) G ?_);intro dy w H;refine MV G G (q0H (l:=cn) xty23 G (fun _=>G) H G (fun _=>by repeat first|exact .head|apply Upd.tail) G (a6) bo (q00 G) G ?_);intro dz w H;refine MV G G (q0H (l:=co) xty23 G (fun _=>G) H G (fun _=>by repeat first|exact .head|apply Upd.tail) G (a4) bp (q00 G) G ?_);intro br w H;refine q0Q [_] H G G (H.rowOne Km) Ku Kf Ts23 (by first|decide|(simp;done)|(simp;omega)) (q00 G) ?_;intro w H;refine NL (IB ?_);obtain rfl:=oI V;exact WQ.rsOn au (H.pick (L':=[.blk Z (.loop (a3 .busy none)), .blk Y (.cells #[I 0,I 0] 28), .blk a2 (.cells #[br] 23),RowI 5 encB br cp]) Kp) G ⟨_,_,G,G,E,J,O,u,U⟩
 .
  rintro Dm18 w M L H K hE ⟨a1,N,rfl,rfl,E,J,O,u,U⟩;simp only[l02,l03,l0f] at H;try dsimp only at h
  refine IB (TN (SQ ?_));obtain⟨⟨b3,b4⟩,b5,h⟩:=bnd h;try dsimp only at h
  refine q0V (fun e w => ∃  (M : Mem), e = [(2, N), (3, ptr Y 0)] /\ St w0 M0 M [RowI 5 encB N a1, .blk Y (.cells #[I b3, I b4] 28), .blk Dm18 (.deferred (some []))] w /\ GlF (fun w => ∃ tp p, w.var? Tryz.prog "strconv.ErrRange" = some #[.iface tp p]) M /\ GlF (fun w => ∃ tp p, w.var? Tryz.prog "strconv.ErrSyntax" = some #[.iface tp p]) M /\ GlF (fun w => ∃ m, w.cell? ⟨0, 0, none⟩ = some (.int .i64 m)) M /\ GlF (fun w => Lib.TabIs Tryz.prog w "internal/strconv.uint64pow10" .u64 Lib.pow10Tab) M /\ Tabs M) ?_ ?_
  .
   refine q0x (m:=4) G G H ?_;intro w H;refine q0E (i:=0) (j:=1) Kr G G ?_ ?_
   .
    refine ST (XL H Ta23) G ?_;refine NA (q0k (fuel:=0) [1,2,3] G Kr (q02 H (Y07 b5) G trivial (q00 G) G ?_));intro cq M w H K hR;replace E:=E.mono K;replace J:=J.mono K;replace O:=O.mono K;replace u:=u.mono K;replace U:=U.mono K;try dsimp only at hR
    obtain rfl:=hR;refine AS G G (q04 [_,_] H G G G Ku Ts28 G Kf Kf (q00 G) ?_);intro w H;refine NA (q0f Kr ?_);exact MP ⟨_,G,(H.pick (L':=[RowI 5 encB N a1, .blk Y (.cells #[I b3,I b4] 28), .blk Dm18 (.deferred (some []))]) Kp),E,J,O,u,U⟩
   refine q02 H (Y07 b5) G trivial (q00 G) G ?_;intro cq M w H K hR;replace E:=E.mono K;replace J:=J.mono K;replace O:=O.mono K;replace u:=u.mono K;replace U:=U.mono K;try dsimp only at hR
   obtain rfl:=hR;refine NA (q0k (fuel:=0) [0,2,3] G Kr (ST (XL H Ta23) G ?_));refine AS G G (q04 [_,_] H G G G Ku Ts28 G Kf Kf (q00 G) ?_);intro w H;refine NA (q0f Kr ?_);exact MP ⟨_,G,(H.pick (L':=[RowI 5 encB N a1, .blk Y (.cells #[I b3,I b4] 28), .blk Dm18 (.deferred (some []))]) Kp),E,J,O,u,U⟩
  rintro e w ⟨M,rfl,H,E,J,O,u,U⟩;refine TN (RT ?_);obtain⟨M,K,c5,H⟩:=H.freezeRow (v:=N) (enc:=encB) (t:=5) Kv;obtain rfl:=oI h;exact WQ.nret2 G H Kv (fun w H=>⟨G,⟨_,G,H.loadAgg Km Ta28 Ts28 Kf⟩⟩) (⟨_,G,c5⟩)
 intro Dm w M L c H K hE;cases hE
theorem Y5P {p0 : (List (Ls × Ls) × Ls)}{p1 : (List (Ls × Ls) × Ls)}{Z : Value}{a0 : Value}{a1 : Value}{a2 : Value}{r : (Bool × (Int × Int))}(h : Y4p p0 p1 = some r): Ct Tryz.prog 14 [Value.agg #[Z, a0], Value.agg #[a1, a2]] (fun M => GlF (fun w => ∃ tp p, w.var? Tryz.prog "strconv.ErrRange" = some #[.iface tp p]) M /\ GlF (fun w => ∃ tp p, w.var? Tryz.prog "strconv.ErrSyntax" = some #[.iface tp p]) M /\ GlF (fun w => ∃ m, w.cell? ⟨0, 0, none⟩ = some (.int .i64 m)) M /\ GlF (fun w => Lib.TabIs Tryz.prog w "internal/strconv.uint64pow10" .u64 Lib.pow10Tab) M /\ Tabs M /\ SlS M 2 xenc46 Z p0.1 /\ Sl M encB a0 p0.2 /\ SlS M 2 xenc46 a1 p1.1 /\ Sl M encB a2 p1.2) (fun v M => v = Value.tuple #[Value.bool r.1, Value.agg #[I r.2.1, I r.2.2]]) := by
 refine Ct.of Tryz.func14 (enters Tryz.func14 Kr G) G G G ?_;intro w0 M0 H hp;obtain⟨J,K,gM,E,gT,a6,a7,O,U⟩:=hp;unfold Y4p at h;refine SQ (RG (q0F [_,_] H G G (q00 G) G ?_));intro ak w H;refine q0F [_,_] H G G (q00 G) G ?_;intro al w H;refine AS G G (q09 [_,_] H Tz28 G (q00 G) G ?_);intro am w H;refine NL (TN (SQ ?_));obtain⟨⟨l1,⟨n2,n3⟩⟩,ae,h⟩:=bnd h;try dsimp only at h
 refine RG (ST (q08 H G Km Ta25 Ts25 Kf) G ?_);refine q02 H (Y2x ae) G ⟨J,K,gM,E,gT,a6,a7⟩ (q00 G) G ?_;intro an M w H u hR;replace J:=J.mono u;replace K:=K.mono u;replace gM:=gM.mono u;replace E:=E.mono u;replace gT:=gT.mono u;replace O:=O.mono u;replace U:=U.mono u;try dsimp only at hR
 obtain⟨ai,rfl,N⟩:=hR;refine MV G G (ST (q05 G G) G (ST (q05 G G) G (q09 [_,_] H Tz28 G (q00 G) G ?_)));intro ao w H;refine AS G G (q04 [_,_] H G G G Ku Ts28 G Kf Kf (q00 G) ?_);intro w H;refine NL (TN (SQ (SQ ?_)));obtain⟨b5,ah,h⟩:=bnd h;refine RG (ST (q08 H G Km Ta28 Ts28 Kf) G ?_);refine q02 H (Y06 ah) G trivial (q00 G) G ?_;intro ap M w H u hR;replace J:=J.mono u;replace K:=K.mono u;replace gM:=gM.mono u;replace E:=E.mono u;replace gT:=gT.mono u;replace O:=O.mono u;replace U:=U.mono u;replace N:=N.mono u;obtain rfl:=hR;refine NL (TN ?_);refine q0a G (fun a5=>?_) (fun a5=>?_)
 .
  subst a5;rw[if_pos rfl] at h;refine SQ (q0x (m:=3) G G H ?_);intro w H;refine TK 1 G (fun _=>q1u G) G (q0k (fuel:=0) [0,2] G Kr (ST (q08 H G Km Ta28 Ts28 Kf) G ?_));refine q04 [_,_] H G G G Ku Ts28 G Kf Kf (q00 G) ?_;intro w H;refine NA (q0f Kr (TN (RT ?_)));obtain rfl:=oI h;exact q0t G G ⟨_,G,H.loadAgg Km Ta28 Ts28 Kf⟩ H.ext G
 subst a5;rw[if_neg l00] at h;refine SK (TN (SQ ?_));obtain⟨⟨l8,⟨n9,aq⟩⟩,a9,h⟩:=bnd h;try dsimp only at h
 refine RG (ST (q08 H G Km Ta25 Ts25 Kf) G ?_);refine q02 H (Y2x a9) G ⟨J,K,gM,E,gT,O,U⟩ (q00 G) G ?_;intro ar M w H u hR;replace N:=N.mono u;try dsimp only at hR
 obtain⟨aj,rfl,V⟩:=hR;refine MV G G (ST (q05 G G) G (ST (q05 G G) G (AS G G (q04 [_,_] H G G G Ku Ts28 G Kf Kf (q00 G) ?_))));intro w H;refine NL (TN (SQ (SQ ?_)));obtain⟨au,aa,h⟩:=bnd h;refine RG (ST (q08 H G Km Ta28 Ts28 Kf) G ?_);refine q02 H (Y06 aa) G trivial (q00 G) G ?_;intro av M w H u hR;replace N:=N.mono u;replace V:=V.mono u;obtain rfl:=hR;refine NL (TN ?_);refine q0a G (fun Y=>?_) (fun Y=>?_)
 .
  subst Y;rw[if_pos rfl] at h;refine SQ ?_;obtain⟨⟨aw,ax⟩,ab,h⟩:=bnd h;try dsimp only at h
  refine RG (ST (q01 Tu28 G Ts3 Dc G) G (ST (XL H Ta3) G ?_));refine q02 H (Y02 ab) G trivial (q00 G) G ?_;intro ay M w H u hR;try dsimp only at hR
  obtain rfl:=hR;refine AS G G (q04 [_,_] H G G G Ku Ts28 G Kf Kf (q00 G) ?_);intro w H;refine NL (TN (RT ?_));obtain rfl:=oI h;exact q0t G G ⟨_,G,H.loadAgg Km Ta28 Ts28 Kf⟩ H.ext G
 subst Y;rw[if_neg l00] at h;refine SK (TN (SQ ?_));obtain⟨az,ac,h⟩:=bnd h;obtain⟨⟨b0,b1⟩,ad,h⟩:=bnd h;try dsimp only at h
 refine RG (MV G G (MV G G (q02 H (Y5m ac) G ⟨N,V⟩ (q00 G) G ?_)));intro b2 M w H u hR;obtain rfl:=hR;refine q02 H (Y07 ad) G trivial (q00 G) G ?_;intro b3 M w H u hR;try dsimp only at hR
 obtain rfl:=hR;refine AS G G (q04 [_,_] H G G G Ku Ts28 G Kf Kf (q00 G) ?_);intro w H;refine NL (TN (RT ?_));obtain rfl:=oI h;exact q0t G G ⟨_,G,H.loadAgg Km Ta28 Ts28 Kf⟩ H.ext G
theorem Y4R  {r : Bool} (h : Y3y = some r) : Ct Tryz.prog 5 [] (fun M => GlF (fun w => ∃ tp p, w.var? Tryz.prog "strconv.ErrRange" = some #[.iface tp p]) M /\ GlF (fun w => ∃ tp p, w.var? Tryz.prog "strconv.ErrSyntax" = some #[.iface tp p]) M /\ GlF (fun w => ∃ m, w.cell? ⟨0, 0, none⟩ = some (.int .i64 m)) M /\ GlF (fun w => Lib.TabIs Tryz.prog w "internal/strconv.uint64pow10" .u64 Lib.pow10Tab) M /\ Tabs M) (fun v M => v = Value.bool r) := by
 refine Ct.of Tryz.func5 (enters Tryz.func5 Kr G) G G G ?_;intro w0 M0 H hp;obtain⟨E,J,U,u,V⟩:=hp;unfold Y3y at h;refine SQ (RG (AS G G (NL (TN (SQ (RG (ST (q0v [S [65],S [98]] Tu46 Tz46 (xplaces46 Tu46) G G) G (q1t (enc:=xenc46) xty22 ([([65],[98])]:List (Ls × Ls)) H (fun _=>G) G Kr G G G (q00 G) G ?_))))))));intro v9 M w H K a0;replace E:=E.mono K;replace J:=J.mono K;replace U:=U.mono K;replace u:=u.mono K;replace V:=V.mono K;refine WR.litC xty23 Tu5 ([99,13,10]:Ls) H G Kf G G (q00 G) G (fun _=>q00 G) G ?_;intro aa M w H K Y;replace E:=E.mono K;replace J:=J.mono K;replace U:=U.mono K;replace u:=u.mono K;replace V:=V.mono K;replace a0:=a0.mono K;refine ST (q0v [v9,aa] Tu25 Tz25 (xplaces25 Tu25) G (by obtain⟨_,_,_,hv,-⟩:=a0;rw [hv];clear hv;obtain ⟨_,_,hv,-⟩:=Y;rw [hv];clear hv;rfl)) G ?_;refine q09 [_,_] H Tz25 G (q00 G) G ?_;intro ap w H;refine q04 [_,_] H G G G Ku Ts25 G Kf (by simp only[l0b,l0i,(a0).one.2,(Y).one.2];rfl) (q00 G) ?_;intro w H;refine NL (TN (SQ ?_));obtain⟨⟨l1,⟨n2,n3⟩⟩,ab,h⟩:=bnd h;try dsimp only at h
 refine RG (ST (q08 H G Km Ta25 Ts25 Kf) G ?_);refine q02 H (Y4P ab) G ⟨a0,Y⟩ (q00 G) G ?_;intro aq M w H K hR;replace E:=E.mono K;replace J:=J.mono K;replace U:=U.mono K;replace u:=u.mono K;replace V:=V.mono K;replace a0:=a0.mono K;replace Y:=Y.mono K;try dsimp only at hR
 obtain⟨aj,rfl,Z⟩:=hR;refine MV G G (ST (q05 G G) G (ST (q05 G G) G (q09 [_,_] H Tz28 G (q00 G) G ?_)));intro ar w H;refine AS G G (q04 [_,_] H G G G Ku Ts28 G Kf Kf (q00 G) ?_);intro w H;refine NL (TN (SQ ?_));obtain⟨⟨⟨l5,l6⟩,⟨n7,n8⟩⟩,ac,h⟩:=bnd h;try dsimp only at h
 refine RG (MV G G (q02 H (Y56 ac) G ⟨U,Z⟩ (q00 G) G ?_));intro au M w H K hR;replace E:=E.mono K;replace J:=J.mono K;replace U:=U.mono K;replace u:=u.mono K;replace V:=V.mono K;replace a0:=a0.mono K;replace Y:=Y.mono K;replace Z:=Z.mono K;try dsimp only at hR
 obtain⟨a8,a9,rfl,O,a1⟩:=hR;refine MV G G (ST (q05 G G) G (ST (q05 G G) G (q09 [_,_] H Tz25 G (q00 G) G ?_)));intro av w H;refine q09 [_,_] H Tz28 G (q00 G) G ?_;intro aw w H;refine q04 [_,_] H G G G Ku Ts25 G Kf (by simp only[l0b,l0i,(O).one.2,(a1).one.2];rfl) (q00 G) ?_;intro w H;refine q04 [_,_] H G G G Ku Ts28 G Kf Kf (q00 G) ?_;intro w H;refine NL (TN (SQ ?_));obtain⟨⟨ad,⟨ae,ax⟩⟩,a7,h⟩:=bnd h;try dsimp only at h
 refine RG (ST (q08 H G Km Ta25 Ts25 Kf) G ?_);refine ST (q08 H G Km Ta25 Ts25 Kf) G ?_;refine q02 H (Y5P a7) G ⟨E,J,U,u,V,a0,Y,O,a1⟩ (q00 G) G ?_;intro ay M w H K hR;replace E:=E.mono K;replace J:=J.mono K;replace U:=U.mono K;replace u:=u.mono K;replace V:=V.mono K;replace Z:=Z.mono K;replace O:=O.mono K;try dsimp only at hR
 obtain rfl:=hR;refine MV G G (ST (q05 G G) G (ST (q05 G G) G (q09 [_,_] H Tz28 G (q00 G) G ?_)));intro az w H;refine AS G G (q04 [_,_] H G G G Ku Ts28 G Kf Kf (q00 G) ?_);intro w H;refine NL (TN (SQ ?_));obtain⟨ah,N,h⟩:=bnd h
 refine q0c (fun e w => ∃ (a6 : Bool) (M : Mem), e = [(0, Value.bool a6)] /\ St w0 M0 M [] w /\ GlF (fun w => ∃ tp p, w.var? Tryz.prog "strconv.ErrRange" = some #[.iface tp p]) M /\ GlF (fun w => ∃ tp p, w.var? Tryz.prog "strconv.ErrSyntax" = some #[.iface tp p]) M /\ GlF (fun w => ∃ m, w.cell? ⟨0, 0, none⟩ = some (.int .i64 m)) M /\ GlF (fun w => Lib.TabIs Tryz.prog w "internal/strconv.uint64pow10" .u64 Lib.pow10Tab) M /\ Tabs M /\ some a6 = some ah) [] ?_ ?_ (trivial)
 .
  refine RG (ST (q01 Tu28 G Ts3 Dc G) G (ST (XL H Ta3) G ?_));by_cases a2:n2=(0:Int)
  .
   rw[if_pos a2] at N;refine DT a2 (q0u G G) G (MV G G (SG (q01 Tu28 G Ts3 Dc G) G G G (SG (XL H Ta3) G G G ?_)));by_cases a3:n7=(0:Int)
   .
    rw[if_pos a3] at N;refine DU a3 (q0u G G) G G G (PT G G G (MV G G (SG (q01 Tu28 G Ts3 Dc G) G G G (SG (XL H Ta3) G G G ?_))));by_cases a4:ae=(0:Int)
    .
     rw[if_pos a4] at N;refine DU a4 (q0u G G) G G G (PT G G G (MV G G (SG (q06 G) G G G (PT G G G (MV G G ?_)))));rcases ad with _|_
     .
      rw[if_neg l00] at N;refine q0i 3 G G (PF G G G (MV G G (q0i 4 G G (PF G G G (AS G G (NL ?_))))));exact MN ⟨_,_,G,(H.pick (L':=[]) Kp),E,J,U,u,V,N⟩
     rw[if_pos rfl] at N;refine SG (q06 G) G G G (SG (q0Y Tu23 Tu5 Tu9 H (Z) G) G G G ?_);by_cases a5:l1=[65,58,32,98,13,10,13,10,99,13,10]
     .
      rw[if_pos a5] at N;refine DU a5 (q0B G G) G G G (PT G G G (MV G G (SG (q01 Tu25 G Ts22 Dc G) G G G (SG (XL H Ta22) G G G ?_))));refine SG (q0N Tu22 O G) G G G (SG (q0u G G) G G G (PT G G G (AS G G (NL ?_))));exact MN ⟨_,_,G,(H.pick (L':=[]) Kp),E,J,U,u,V,N⟩
     rw[if_neg a5] at N;refine DG a5 (q0B G G) G G G (PT G G G (MV G G (q0i 4 G G (PF G G G (AS G G (NL ?_))))));exact MN ⟨_,_,G,(H.pick (L':=[]) Kp),E,J,U,u,V,N⟩
    rw[if_neg a4] at N;refine DG a4 (q0u G G) G G G (PT G G G (MV G G (GF G G G (PF G G G (MV G G (q0i 3 G G (PF G G G (MV G G (q0i 4 G G (PF G G G (AS G G (NL ?_))))))))))));exact MN ⟨_,_,G,(H.pick (L':=[]) Kp),E,J,U,u,V,N⟩
   rw[if_neg a3] at N;refine DG a3 (q0u G G) G G G (PT G G G (MV G G (q0i 3 G G (PF G G G (MV G G (GF G G G (PF G G G (MV G G (q0i 3 G G (PF G G G (MV G G (q0i 4 G G (PF G G G (AS G G (NL ?_)))))))))))))));exact MN ⟨_,_,G,(H.pick (L':=[]) Kp),E,J,U,u,V,N⟩
  rw[if_neg a2] at N;refine DF a2 (q0u G G) G (MV G G (q0i 3 G G (PF G G G (MV G G (q0i 3 G G (PF G G G (MV G G (GF G G G (PF G G G (MV G G (q0i 3 G G (PF G G G (MV G G (q0i 4 G G (PF G G G (AS G G (NL ?_)))))))))))))))));exact MN ⟨_,_,G,(H.pick (L':=[]) Kp),E,J,U,u,V,N⟩
 rintro e w ⟨a6,M,rfl,H,E,J,U,u,V,ai⟩;obtain rfl:=oI ai;refine TN (RT ?_);obtain rfl:=oI h;exact q07 G G H.ext G
theorem Y5Z {p0:Ls}{J:Value}{r:Int}(h:Y3z p0=some r):Ct Tryz.prog 21 [J] (fun M=>Sl M encB J p0) (fun v M=>v=Value.int .u64 r):=by
 refine Ct.of Tryz.func21 (enters Tryz.func21 Kr G) G G G ?_;intro w0 M0 H hp;have E:=hp;unfold Y3z at h;refine SQ (RG (AS G G (NL (TN (SQ (RG (AS G G (NL (TN (SQ (SQ (RG (MV G G (ST (q0o Tu23 E G) G (MV G G (NL (TN ?_)))))))))))))))));obtain⟨o1,u,h⟩:=bnd h;refine q0c (fun e w =>∃(O:Int) (M:Mem),e=[(3,Value.int .u64 O)]/\St w0 M0 M [] w/\some O=some o1) [] ?_ ?_ (trivial)
 .
  refine BL (q0l (fun m e w =>∃(U:Int) (N:Int) (M:Mem),e=[(3,Value.int .u64 U),(6,J),(7,I (p0.length:Int)),(8,I N)]/\St w0 M0 M [] w/\Sl M encB J p0/\Y0L p0 m U N=some o1) FU [(3,_),(6,_),(7,_),(8,_)] ⟨rfl,rfl,rfl,rfl,trivial⟩ ⟨_,_,_,rfl,H,E,u⟩ ?_);rintro V e w ⟨U,N,M,rfl,H,E,u⟩;rcases V with _|V
  . rw[Y0L] at u;cases u
  rw[Y0L] at u;refine SQ (RG (ST (q0m G G) G (NL (TN (SQ ?_)))));refine CB (p:=N<(p0.length:Int)) G (fun K=>?_) fun K=>?_
  .
   rw[if_pos K] at u;refine SK (TN (SQ (BL (SQ ?_))));obtain⟨c8,Y,u⟩:=bnd u;obtain⟨a5,a6,Z,a0⟩:=E.atC Y;refine RG (ST (q0s Z Tu23 Ts5 G G) G (ST (q0n H G a0 Ta5) G (AS G G (NL (TN (RG (MV G G (MV G G (ST (Ex.conv Tu5 Tu33 G) G (ST (Ex.xorU G G) G (ST (Ex.mul G G) G (AS G G (NL (IB (TN ?_)))))))))))))));obtain⟨n9,a1,u⟩:=bnd u;refine RG (ST (q0e G G a1) G (MV G G (NL ?_)));exact AG V ⟨_,_,_,G,H,E,u⟩ (l06 _)
  rw[if_neg K] at u;refine q0j (q03 (q03 (q0b ?_)));exact MN ⟨_,_,G,H,u⟩
 rintro e w ⟨O,M,rfl,H,a4⟩;obtain rfl:=oI a4;refine TN (SQ (RG (MV G G (AS G G (NL (TN (RT ?_)))))));obtain rfl:=oI h;exact q07 G G H.ext G
theorem Y4g {p0 : (List (Ls × Ls) × Ls)}{J : Value}{K : Value}{r : (Int × (Int × Int))}(h : Y2a p0 = some r): Ct Tryz.prog 8 [Value.agg #[J, K]] (fun M => GlF (fun w => ∃ tp p, w.var? Tryz.prog "strconv.ErrRange" = some #[.iface tp p]) M /\ GlF (fun w => ∃ tp p, w.var? Tryz.prog "strconv.ErrSyntax" = some #[.iface tp p]) M /\ GlF (fun w => ∃ m, w.cell? ⟨0, 0, none⟩ = some (.int .i64 m)) M /\ GlF (fun w => Lib.TabIs Tryz.prog w "internal/strconv.uint64pow10" .u64 Lib.pow10Tab) M /\ Tabs M /\ SlS M 2 xenc46 J p0.1 /\ Sl M encB K p0.2) (fun v M => v = Value.tuple #[Value.int .u64 r.1, Value.agg #[I r.2.1, I r.2.2]]) := by
 refine Ct.of Tryz.func8 (enters Tryz.func8 Kr G) G G G ?_;intro w0 M0 H hp;obtain⟨O,U,gM,u,gT,Y,Z⟩:=hp;unfold Y2a at h;refine SQ (RG (q0F [_,_] H G G (q00 G) G ?_));intro a7 w H;refine AS G G (q09 [_,_] H Tz28 G (q00 G) G ?_);intro a8 w H;refine NL (TN (SQ ?_));obtain⟨⟨l1,⟨n2,n3⟩⟩,a1,h⟩:=bnd h;try dsimp only at h
 refine RG (ST (q08 H G Km Ta25 Ts25 Kf) G ?_);refine q02 H (Y2x a1) G ⟨O,U,gM,u,gT,Y,Z⟩ (q00 G) G ?_;intro v8 M w H N hR;try dsimp only at hR
 obtain⟨a6,rfl,E⟩:=hR;refine MV G G (ST (q05 G G) G (ST (q05 G G) G (q09 [_,_] H Tz28 G (q00 G) G ?_)));intro a9 w H;refine AS G G (q04 [_,_] H G G G Ku Ts28 G Kf Kf (q00 G) ?_);intro w H;refine NL (TN (SQ (SQ ?_)));obtain⟨b5,a2,h⟩:=bnd h;refine RG (ST (q08 H G Km Ta28 Ts28 Kf) G ?_);refine q02 H (Y06 a2) G trivial (q00 G) G ?_;intro aa M w H N hR;replace E:=E.mono N;obtain rfl:=hR;refine NL (TN ?_);refine q0a G (fun V=>?_) (fun V=>?_)
 .
  subst V;rw[if_pos rfl] at h;refine SQ (q0x (m:=3) G G H ?_);intro w H;refine TK 1 G (fun _=>q1u G) G (q0k (fuel:=0) [0,2] G Kr (ST (q08 H G Km Ta28 Ts28 Kf) G ?_));refine q04 [_,_] H G G G Ku Ts28 G Kf Kf (q00 G) ?_;intro w H;refine NA (q0f Kr (TN (RT ?_)));obtain rfl:=oI h;exact q0t G G ⟨_,G,H.loadAgg Km Ta28 Ts28 Kf⟩ H.ext G
 subst V;rw[if_neg l00] at h;refine SK (TN (SQ ?_));obtain⟨n8,a3,h⟩:=bnd h;obtain⟨⟨ab,ac⟩,a0,h⟩:=bnd h;try dsimp only at h
 refine RG (MV G G (q02 H (Y5Z a3) G (E) (q00 G) G ?_));intro ad M w H N hR;obtain rfl:=hR;refine q02 H (Y07 a0) G trivial (q00 G) G ?_;intro ae M w H N hR;try dsimp only at hR
 obtain rfl:=hR;refine AS G G (q04 [_,_] H G G G Ku Ts28 G Kf Kf (q00 G) ?_);intro w H;refine NL (TN (RT ?_));obtain rfl:=oI h;exact q0t G G ⟨_,G,H.loadAgg Km Ta28 Ts28 Kf⟩ H.ext G
theorem Y59 {p0 : (List (Ls × Ls) × Ls)}{a5 : Value}{a6 : Value}{r : Bool}(h : Y2O p0 = some r): Ct Tryz.prog 3 [Value.agg #[a5, a6]] (fun M => GlF (fun w => ∃ tp p, w.var? Tryz.prog "strconv.ErrRange" = some #[.iface tp p]) M /\ GlF (fun w => ∃ tp p, w.var? Tryz.prog "strconv.ErrSyntax" = some #[.iface tp p]) M /\ GlF (fun w => ∃ m, w.cell? ⟨0, 0, none⟩ = some (.int .i64 m)) M /\ GlF (fun w => Lib.TabIs Tryz.prog w "internal/strconv.uint64pow10" .u64 Lib.pow10Tab) M /\ Tabs M /\ SlS M 2 xenc46 a5 p0.1 /\ Sl M encB a6 p0.2) (fun v M => v = Value.bool r) := by
 refine Ct.of Tryz.func3 (enters Tryz.func3 Kr G) G G G ?_;intro w0 M0 H hp;obtain⟨E,J,U,u,V,N,O⟩:=hp;unfold Y2O at h;refine SQ (RG (q0F [_,_] H G G (q00 G) G ?_));intro aw w H;refine AS G G (NL (TN (SQ (SQ ?_))));obtain⟨b1,al,h⟩:=bnd h;refine RG (q02 H (Y4R al) G ⟨E,J,U,u,V⟩ (q00 G) G ?_);intro ax M w H K hR;replace E:=E.mono K;replace J:=J.mono K;replace U:=U.mono K;replace u:=u.mono K;replace V:=V.mono K;replace N:=N.mono K;replace O:=O.mono K;obtain rfl:=hR;refine ST (q0y G) G (NL (TN ?_));refine q0a G (fun a0=>?_) (fun a0=>?_)
 .
  replace a0:b1=false:=by simpa using a0
  subst a0;rw[if_neg l00] at h;refine SQ (RG (AS G G (NL (TN (RT ?_)))));obtain rfl:=oI h;exact q07 G G H.ext G
 replace a0:b1=true:=by simpa using a0
 subst a0;rw[if_pos rfl] at h;refine SK (TN (SQ ?_));obtain⟨⟨l4,⟨n5,n6⟩⟩,an,h⟩:=bnd h;try dsimp only at h
 refine RG (ST (q08 H G Km Ta25 Ts25 Kf) G ?_);refine q02 H (Y4P an) G ⟨N,O⟩ (q00 G) G ?_;intro ay M w H K hR;replace E:=E.mono K;replace J:=J.mono K;replace U:=U.mono K;replace u:=u.mono K;replace V:=V.mono K;replace N:=N.mono K;replace O:=O.mono K;try dsimp only at hR
 obtain⟨ar,rfl,a7⟩:=hR;refine MV G G (ST (q05 G G) G (ST (q05 G G) G (q09 [_,_] H Tz28 G (q00 G) G ?_)));intro az w H;refine AS G G (q04 [_,_] H G G G Ku Ts28 G Kf Kf (q00 G) ?_);intro w H;refine NL (TN (SQ (SQ (RG (ST (q01 Tu28 G Ts3 Dc G) G (ST (XL H Ta3) G ?_))))));refine ST (q1j G G) G (NL (TN ?_));refine q0a G (fun a1=>?_) (fun a1=>?_)
 .
  replace a1 :¬(n5=(0:Int)):=of_not_decide a1;rw[if_neg a1] at h;refine SQ (RG (MV G G (ST (q0o Tu23 a7 G) G (ST (q0u G G) G (AS G G (NL (TN (RT ?_))))))));obtain rfl:=oI h;exact q07 G G H.ext G
 replace a1:n5=(0:Int):=of_not_decide' a1;rw[if_pos a1] at h;refine SK (TN (SQ ?_));obtain⟨⟨⟨l9,b0⟩,⟨ao,b2⟩⟩,ad,h⟩:=bnd h;try dsimp only at h
 refine RG (MV G G (q02 H (Y56 ad) G ⟨U,a7⟩ (q00 G) G ?_));intro b3 M w H K hR;replace E:=E.mono K;replace J:=J.mono K;replace U:=U.mono K;replace u:=u.mono K;replace V:=V.mono K;replace N:=N.mono K;replace O:=O.mono K;try dsimp only at hR
 obtain⟨ai,aj,rfl,Y,Z⟩:=hR;refine MV G G (ST (q05 G G) G (ST (q05 G G) G (q09 [_,_] H Tz25 G (q00 G) G ?_)));intro b4 w H;refine q09 [_,_] H Tz28 G (q00 G) G ?_;intro b5 w H;refine q04 [_,_] H G G G Ku Ts25 G Kf (by simp only[l0b,l0i,(Y).one.2,(Z).one.2];rfl) (q00 G) ?_;intro w H;refine q04 [_,_] H G G G Ku Ts28 G Kf Kf (q00 G) ?_;intro w H;refine NL (TN (SQ ?_));obtain⟨⟨b6,⟨a8,a9⟩⟩,ae,h⟩:=bnd h;try dsimp only at h
 refine RG (ST (q08 H G Km Ta25 Ts25 Kf) G ?_);refine q02 H (Y4g ae) G ⟨E,J,U,u,V,N,O⟩ (q00 G) G ?_;intro b7 M w H K hR;replace E:=E.mono K;replace J:=J.mono K;replace U:=U.mono K;replace u:=u.mono K;replace V:=V.mono K;replace Y:=Y.mono K;replace Z:=Z.mono K;try dsimp only at hR
 obtain rfl:=hR;refine MV G G (ST (q05 G G) G (ST (q05 G G) G (q09 [_,_] H Tz28 G (q00 G) G ?_)));intro b8 w H;refine AS G G (q04 [_,_] H G G G Ku Ts28 G Kf Kf (q00 G) ?_);intro w H;refine NL (TN (SQ ?_));obtain⟨⟨b9,⟨aa,ab⟩⟩,ah,h⟩:=bnd h;try dsimp only at h
 refine RG (ST (q08 H G Km Ta25 Ts25 Kf) G ?_);refine q02 H (Y4g ah) G ⟨E,J,U,u,V,Y,Z⟩ (q00 G) G ?_;intro ba M w H K hR;replace E:=E.mono K;replace J:=J.mono K;replace U:=U.mono K;replace u:=u.mono K;replace V:=V.mono K;try dsimp only at hR
 obtain rfl:=hR;refine MV G G (ST (q05 G G) G (ST (q05 G G) G (q09 [_,_] H Tz28 G (q00 G) G ?_)));intro av w H;refine AS G G (q04 [_,_] H G G G Ku Ts28 G Kf Kf (q00 G) ?_);intro w H;refine NL (TN (SQ ?_));obtain⟨ap,a2,h⟩:=bnd h
 refine q0c (fun e w => ∃ (ac : Bool) (M : Mem), e = [(2, Value.bool ac)] /\ St w0 M0 M [] w /\ GlF (fun w => ∃ tp p, w.var? Tryz.prog "strconv.ErrRange" = some #[.iface tp p]) M /\ GlF (fun w => ∃ tp p, w.var? Tryz.prog "strconv.ErrSyntax" = some #[.iface tp p]) M /\ GlF (fun w => ∃ m, w.cell? ⟨0, 0, none⟩ = some (.int .i64 m)) M /\ GlF (fun w => Lib.TabIs Tryz.prog w "internal/strconv.uint64pow10" .u64 Lib.pow10Tab) M /\ Tabs M /\ some ac = some ap) [] ?_ ?_ (trivial)
 .
  refine RG (ST (q01 Tu28 G Ts3 Dc G) G (ST (XL H Ta3) G ?_));by_cases a3:ao=(0:Int)
  .
   rw[if_pos a3] at a2;refine DT a3 (q0u G G) G (MV G G (SG (q08 H G Km Ta28 Ts28 Kf) G G G ?_));refine SG (q08 H G Km Ta28 Ts28 Kf) G G G ?_;by_cases a4:a8=aa/\a9=ab
   .
    rw[if_pos a4] at a2;refine DU a4 (Ex.eqlAgg G G Kr (xeq28 a8 aa a9 ab)) G G G (PT G G G (MV G G (SG (q06 G) G G G (SG (q06 G) G G G (SG (q0u G G) G G G (PT G G G (AS G G (NL ?_))))))));exact MN ⟨_,_,G,(H.pick (L':=[]) Kp),E,J,U,u,V,a2⟩
   rw[if_neg a4] at a2;refine DG a4 (Ex.eqlAgg G G Kr (xeq28 a8 aa a9 ab)) G G G (PT G G G (MV G G (q0i 3 G G (PF G G G (AS G G (NL ?_))))));exact MN ⟨_,_,G,(H.pick (L':=[]) Kp),E,J,U,u,V,a2⟩
  rw[if_neg a3] at a2;refine DF a3 (q0u G G) G (MV G G (q0i 3 G G (PF G G G (MV G G (q0i 3 G G (PF G G G (AS G G (NL ?_))))))));exact MN ⟨_,_,G,(H.pick (L':=[]) Kp),E,J,U,u,V,a2⟩
 rintro e w ⟨ac,M,rfl,H,E,J,U,u,V,aq⟩;obtain rfl:=oI aq;refine TN (RT ?_);obtain rfl:=oI h;exact q07 G G H.ext G
end Go.Proofs.YtkgohbecojnfaaaGreatDoor
end
section
namespace Go.Proofs.YtkgohbecojnfaaaGreatDoor
open Go Go.RowKit Go.Ph Go.Ph.Pl Go.Ph.Pf
end Go.Proofs.YtkgohbecojnfaaaGreatDoor
end
section
namespace Go.Ph.Qp
open Go
def digs : Ls:=[48,49,50,51,52,53,54,55,56,57,65,66,67,68,69,70]
def dig (n:Nat):UInt8:=digs.getD (n % 16) 0
def hexV (c:UInt8):Option Nat :=
 if 48<=c.toNat/\c.toNat<=57 then some (c.toNat-48) else if 65<=c.toNat/\c.toNat<=70 then some (c.toNat-55) else if 97<=c.toNat/\c.toNat<=102 then some (c.toNat-87) else none
abbrev bl (c:UInt8):Prop:=c.toNat=32∨c.toNat=9
abbrev lineAt (l:Ls):Prop:=l.take 2=[13,10]
abbrev lit (c:UInt8)(r:Ls):Prop:=(33<=c.toNat/\c.toNat<=126/\c.toNat≠61)∨(bl c/\¬(r=[]∨lineAt r))
def hex (c:UInt8):Ls:=[61,dig (c.toNat / 16),dig c.toNat]
def sg (c:UInt8)(r:Ls):Ls:=if lit c r then [c] else hex c
def most (r:Ls):Nat:=if r≠ []/\¬lineAt r then 75 else 76
def encF : Nat->Nat->Ls->Ls
 | 0,_,_=>[]
 | _+1,_,[]=>[]
 | f+1,col,c::r =>
   if lineAt (c::r) then 13::10::encF f 0 (r.drop 1)
   else if most r<col+(sg c r).length then [61,13,10]++(sg c r++encF f (sg c r).length r) else sg c r++encF f (col+(sg c r).length) r
def enc (col:Nat)(l:Ls):Ls:=encF l.length col l
def esc (l:Ls):Option UInt8 :=
 if l[0]? = some 61 then match (l[1]?).bind hexV,(l[2]?).bind hexV with
  | some x,some y=>some (UInt8.ofNat (16*x+y))
  | _,_=>none
 else none
def plainF : Nat->Ls->Ls
 | 0,_=>[]
 | _+1,[]=>[]
 | f+1,c::r=>match esc (c::r) with
   | some x=>x::plainF f (r.drop 2)
   | none=>c::plainF f r
def plain (l:Ls):Ls:=plainF l.length l
def trimR (l:Ls):Ls:=(l.reverse.dropWhile (fun c=>decide (bl c))).reverse
def chop (x:UInt8)(l:Ls):Ls:=if l.getLast? = some x then l.dropLast else l
def body (s:Ls):Ls:=if s.getLast? = some 10 then chop 13 s.dropLast else s
def one (s:Ls):Ls:=if (trimR (body s)).getLast? = some 61 then plain (trimR (body s)).dropLast else plain (trimR (body s))++s.drop (body s).length
theorem trimR_snoc {P:Ls}{c:UInt8}(h :¬bl c):trimR (P++[c])=P++[c]:=by
 unfold trimR;rw[List.reverse_append,List.reverse_singleton,l1b,l1i (by simpa using h),List.reverse_cons,List.reverse_reverse]
theorem trimR_nil : trimR []=[]:=rfl
theorem trimR_blank {X Y:Ls}(h :∀c∈Y,bl c):trimR (X++Y)=trimR X:=by
 unfold trimR;rw[List.reverse_append,List.dropWhile_append_of_pos (fun c hc=>by simpa using h c (List.mem_reverse.1 hc))]
end Go.Ph.Qp
end
section
namespace Go.Ph.Fd
open Go Go.Ph.Qp
def bk (s:Ls)(i:Nat):Bool:=match s[i-1]?,s[i]? with
 | some a,some b=>decide (0<i/\bl b/\¬bl a)
 | _,_=>false
theorem bk_at {s:Ls}{i:Nat}{a b:UInt8}(u:0<i)(ha:s[i-1]? = some a)(hb:s[i]? = some b):bk s i=decide (bl b/\¬bl a):=by
 unfold bk;rw[ha,hb];simp [u]
def sc (s:Ls):Nat->Nat->Nat->Nat
 | 0,_,best=>best
 | f+1,i,best=>if bk s i then(if best=0∨i<=78 then sc s f (i+1) i else sc s f (i+1) best) else sc s f (i+1) best
theorem sc_stay (s:Ls):∀(f i best:Nat),0<best->78<i->sc s f i best=best:=by
 intro f;induction f with
 | zero=>intro i best _ _;rfl
 | succ f ih =>
   intro i best u E;rw[sc];split
   . rw[if_neg Om,ih _ _ u Om]
   exact ih _ _ u Om
def pt (s:Ls)(k:Nat):Nat:=sc s (s.length-k) k 0
theorem sc_le (s:Ls):∀(f i best:Nat),sc s f i best=best∨(i<=sc s f i best/\sc s f i best<i+f/\bk s (sc s f i best)=true):=by
 intro f;induction f with
 | zero=>intro i best;exact .inl rfl
 | succ f ih =>
   intro i best;rw[sc];split
   . rename_i hb;split
     . rcases ih (i+1) i with h|⟨E,J,u⟩
       . exact .inr ⟨by omega,by omega,by rw[h];exact hb⟩
       exact .inr ⟨by omega,by omega,u⟩
     rcases ih (i+1) best with h|⟨E,J,u⟩
     . exact .inl h
     exact .inr ⟨by omega,by omega,u⟩
   rcases ih (i+1) best with h|⟨E,J,u⟩
   . exact .inl h
   exact .inr ⟨by omega,by omega,u⟩
theorem pt_lt {s:Ls}{k:Nat}(hk:0<k)(h:pt s k≠0):k<=pt s k/\pt s k<s.length/\bk s (pt s k)=true:=by
 unfold pt at h ⊢;rcases sc_le s (s.length-k) k 0 with u|⟨u,J,E⟩
 . exact absurd u h
 exact⟨u,by omega,E⟩
def flF : Nat->Ls->Nat->List Ls
 | 0,s,_=>[s]
 | f+1,s,k=>if 78<s.length/\pt s k≠0 then s.take (pt s k)::flF f (s.drop (pt s k)) 1 else [s]
theorem flF_more :∀(f g:Nat) (s:Ls) (k:Nat),0<k->s.length<=f->s.length<=g->flF f s k=flF g s k:=by
 intro f;induction f with
 | zero =>
   intro g s k hk hf hg;cases g with
   | zero=>rfl
   | succ g=>rw[flF,flF,if_neg Om]
 | succ f ih =>
   intro g s k hk hf hg;cases g with
   | zero=>rw[flF,flF,if_neg Om]
   | succ g =>
     rw[flF,flF];split
     . rename_i h;have u:=pt_lt hk h.2;rw[ih g _ 1 Om (by rw[l04];omega) (by rw[l04];omega)]
     rfl
def fl (s:Ls)(k:Nat):List Ls:=flF s.length s k
theorem fl_more {s:Ls}{k:Nat}(hk:0<k)(h:78<s.length/\pt s k≠0):fl s k=s.take (pt s k)::fl (s.drop (pt s k)) 1:=by
 have u:=pt_lt hk h.2;unfold fl;rw[flF_more s.length (s.length-1+1) s k hk (l07 _) Om,flF,if_pos h,flF_more _ (s.drop (pt s k)).length _ 1 Om (by rw[l04];omega) (l07 _)]
theorem fl_end {s:Ls}{k:Nat}(h :¬(78<s.length/\pt s k≠0)):fl s k=[s]:=by
 unfold fl;cases hl:s.length with
 | zero=>rfl
 | succ n=>rw[flF,if_neg h]
theorem fl_flat :∀(n:Nat) (s:Ls) (k:Nat),0<k->s.length<=n->(fl s k).flatten=s:=by
 intro n;induction n with
 | zero =>
   intro s k _ h;obtain rfl:=l08 (Nat.le_zero.1 h);rfl
 | succ n ih =>
   intro s k hk h;by_cases hc:78<s.length/\pt s k≠0
   . have u:=pt_lt hk hc.2;rw[fl_more hk hc,l0L,ih _ 1 Om (by rw[l04];omega),l0E]
   rw[fl_end hc];simp
def step (at_:Nat)(best:Int)(p:Nat):Int:=if at_<p/\((p:Int)-(at_:Int)<=78∨best<0) then(p:Int) else best
end Go.Ph.Fd
end
section
namespace Go.Ph.Pl
end Go.Ph.Pl
end
section
section
namespace Go.Ph.Wd
open Go.Ph.Pl Go.Ph.Pf
open Go.Ph.Gr (chars Ch pieces byts)
open Go.Ph.Chs (vld utf8)
theorem foldI {α σ γ:Type}{L:Nat->σ->Int->Option γ}(l:List α)(F:σ->α->σ)(fin:σ->γ)(I:Nat->σ->Prop)
 (hend :∀m s,I l.length s->L (m+1) s (l.length:Int)=some (fin s))
 (hstep :∀m s i a,l[i]? = some a->I i s->I (i+1) (F s a)/\L (m+1) s (i:Int)=L m (F s a) ((i+1:Nat):Int)) :
 ∀(d i:Nat) (s:σ) (m:Nat),l.length-i=d->i<=l.length->d<m->I i s->L m s (i:Int)=some (fin ((l.drop i).foldl F s)):=by
 intro d;induction d with
 | zero =>
   intro i s m u E J hI;obtain⟨m,rfl⟩ :∃k,m=k+1:=⟨m-1,by omega⟩
   obtain rfl:i=l.length:=by omega
   rw[hend m s hI,l0B];rfl
 | succ d ih =>
   intro i s m u E J hI;obtain⟨m,rfl⟩ :∃k,m=k+1:=⟨m-1,by omega⟩
   have hi:i<l.length:=by omega
   obtain⟨hI',hL⟩:=hstep m s i l[i] (List.getElem?_eq_getElem hi) hI;rw[hL,ih (i+1) _ m Om Om Om hI',l0g hi];rfl
theorem foldI0 {α σ γ:Type}{L:Nat->σ->Int->Option γ}(l:List α)(F:σ->α->σ)(fin:σ->γ)(I:Nat->σ->Prop)(hl:l.length<=9223372036854775807)
 (hend :∀m s,I l.length s->L (m+1) s (l.length:Int)=some (fin s))
 (hstep :∀m s i a,l[i]? = some a->I i s->I (i+1) (F s a)/\L (m+1) s (i:Int)=L m (F s a) ((i+1:Nat):Int)) (s:σ) (u:I 0 s):L FU s 0=some (fin (l.foldl F s)):=by
 have:=foldI l F fin I hend hstep l.length 0 s FU Om Om (FU_gt hl) u;simpa using this
theorem foldl_app {α β:Type}(f:α->List β):∀(l:List α) (o:List β),l.foldl (fun o a=>o++f a) o=o++l.flatMap f
 | [],o=>by simp
 | a::l,o=>by rw[l1m,foldl_app f l];simp
def blk (c:UInt8):Bool:=decide (c=32∨c=9)
theorem blank_eq (c:UInt8):Y1H c=some (blk c):=by
 unfold Y1H blk;by_cases h:c=32
 . rw[if_pos h,bsome,decide_eq_true (.inl h)]
 rw[if_neg h,bsome];simp [h]
def hexd : Ls:=[48,49,50,51,52,53,54,55,56,57,65,66,67,68,69,70]
def hx (n:Nat):UInt8:=hexd.getD n 0
theorem allB {p:UInt8->Prop}(h :∀n,n<256->p (UInt8.ofNat n))(c:UInt8):p c:=by
 have:=h c.toNat c.toNat_lt;rwa [UInt8.ofNat_toNat] at this
inductive Good : Ls->Prop
 | nil:Good []
 | one {c:UInt8} {t:Ls} (u:c≠13) (E:c≠10) (h:Good t):Good (c::t)
 | crlf {t:Ls} (h:Good t):Good (13::10::t)
theorem Good.app {a b:Ls}(h:Good a)(k:Good b):Good (a++b):=by
 induction h with
 | nil=>exact k
 | one u E _ ih=>exact .one u E ih
 | crlf _ ih=>exact .crlf ih
def fre (l:Ls):Prop :=∀c∈l,c≠13/\c≠10
def keep (c:UInt8):Bool:=decide (c≠13/\c≠10)
theorem Good.index {s:Ls}(h:Good s):(Lib.index s [13,10] = -1/\fre s)∨∃i:Nat,Lib.index s [13,10]=(i:Int)/\fre (s.take i)/\Good (s.drop (i+2))/\i+2<=s.length/\s.filter keep=s.take i++(s.drop (i+2)).filter keep:=by
 induction h with
 | nil=>exact .inl ⟨rfl,fun c hc=>by cases hc⟩
 | @one c t u E h ih =>
   have hp:([13,10]:Ls).isPrefixOf (c::t)=false:=by simp [List.isPrefixOf,Ne.symm u]
   have hk:keep c=true:=decide_eq_true ⟨u,E⟩;rcases ih with ⟨J,K⟩|⟨i,J,K,N,U,O⟩
   . refine .inl ⟨by rw[Lib.index,hp,J];rfl,fun x hx=>?_⟩;rcases List.mem_cons.1 hx with rfl|hx
     . exact⟨u,E⟩
     exact K x hx
   refine .inr ⟨i+1,?_,fun x hx=>?_,?_,by rw[l01];omega,?_⟩
   . rw[Lib.index,hp,J];have:((i:Int) == -1)=false:=by simp
     rw[this];simp
   . rw[l1P] at hx;rcases List.mem_cons.1 hx with rfl|hx
     . exact⟨u,E⟩
     exact K x hx
   . rw[show i+1+2=(i+2)+1 by omega,l0Y];exact N
   rw[l2n hk,O,l1P,show i+1+2=(i+2)+1 by omega,l0Y];rfl
 | @crlf t h ih =>
   refine .inr ⟨0,by rw[Lib.index];simp [List.isPrefixOf],fun x hx=>(by cases hx),h,by simp,?_⟩;rw[l1Y,l0Y,l0Y,l0t,l1Q Dc,l1Q Dc];rfl
theorem flatMap_len {α β:Type}(f:α->List β)(n:Nat):∀(l:List α),(∀a∈l,(f a).length<=n)->(l.flatMap f).length<=n*l.length
 | [],_=>by simp
 | a::l,h=>by
   have u:=h a Sm;have E:=flatMap_len f n l (fun x hx=>h x (by simp [hx]));simp only[l0n,l05,l01,Nat.mul_succ];omega
end Go.Ph.Wd
end
section
namespace Go.Ph.Pf
open Go.Ph.Pl Go.Ph.Qp Go.Ph.Fd
abbrev Big (l:Ls):Prop:=l.length<=140737488355328
theorem Y2I (c:UInt8):Y1H c=some (decide (bl c)):=by
 unfold Y1H bl;have u:(c=32)↔c.toNat=32:=u8_lit c 32;have E:(c=9)↔c.toNat=9:=u8_lit c 9;by_cases h:c=32
 . simp [h]
 rw[if_neg h];have h' :¬c.toNat=32:=fun x=>h (u.2 x)
 simp [h',E]
theorem Y6D (l:Ls)(hl:Big l)(g:UInt8->Option Bool)(p:UInt8->Bool)(hg :∀c,g c=some (p c)):Y2S l g=some (l.all p):=by
 unfold Y2S;rw[scan0 (L:=Y1C l g) (l:=l) (p:=fun c => !p c) (stop := .inl ()) (r := .inr false) (FU_gt Om) (fun m=>by rw[Y1C,if_neg Om]) (fun m i h=>by
  rw[Y1C,if_pos Om,idx_nat,List.getElem?_eq_getElem h,chk_succ (by have:=hl;omega)];simp only[bsome,hg];cases p l[i] <;> simp)]
 simp only[bsome];rw[List.all_eq_not_any_not];cases l.any (fun c => !p c) <;> simp
def nmB (c:UInt8):Bool:=decide (33<=c.toNat/\c.toNat<=126/\c.toNat≠58)
theorem Y6l (c:UInt8):Y44 c=some (nmB c):=by
 unfold Y44 nmB;have e:(c=58)↔c.toNat=58:=u8_lit c 58;by_cases u:33<=c.toNat <;> by_cases E:c.toNat<=126 <;> by_cases J:c.toNat=58 <;> simp [u,E,J,e]
def nmL (l:Ls):Bool:=l.all nmB&&decide (1<=l.length/\l.length<=60)
theorem Y6E (l:Ls)(hl:Big l):Y50 l=some (nmL l):=by
 unfold Y50 nmL;by_cases h:l=[]
 . subst h;rfl
 have hpos:1<=l.length:=by cases l <;> simp_all
 rw[if_neg h];by_cases u:l.length<=60
 . rw[if_pos Om,Y6D l hl _ nmB Y6l];simp [hpos,u]
 rw[if_neg Om];simp [u]
def endB (c:UInt8):Bool:=decide (c.toNat=13∨c.toNat=10∨c.toNat=0)
def trimL (l:Ls):Ls:=l.dropWhile (fun c=>decide (bl c))
theorem trimL_nil : trimL []=[]:=rfl
theorem trimL_pos {c:UInt8}{r:Ls}(h:bl c):trimL (c::r)=trimL r:=by unfold trimL;rw [l1F (by simpa using h)]
theorem trimL_neg {c:UInt8}{r:Ls}(h :¬bl c):trimL (c::r)=c::r:=by unfold trimL;rw [l1i (by simpa using h)]
theorem trimL_len (l:Ls):(trimL l).length<=l.length:=(l2p _).length_le
theorem trimR_len (l:Ls):(trimR l).length<=l.length:=by
 unfold trimR;rw [List.length_reverse];have:=(l2p (l:=l.reverse) (fun c=>decide (bl c))).length_le;simpa using this
theorem snoc_cases (l:Ls):l=[]∨∃a c,l=a++[c]:=by
 rcases l2u l with h|⟨a,c,h⟩
 . exact .inl h
 exact .inr ⟨a,c,by rw[h,List.concat_eq_append]⟩
theorem trimR_bl {a:Ls}{c:UInt8}(h:bl c):trimR (a++[c])=trimR a:=trimR_blank (fun x hx=>by simp at hx;rw [hx];exact h)
theorem trimR_nb {a:Ls}{c:UInt8}(h :¬bl c):trimR (a++[c])=a++[c]:=trimR_snoc h
theorem trim_comm :∀(n:Nat) (l:Ls),l.length<=n->trimR (trimL l)=trimL (trimR l)
 | 0,l,h=>by obtain rfl:l=[]:=l08 Om;rfl
 | n + 1,l,h=>by
   cases l with
   | nil=>rfl
   | cons c r =>
     by_cases hc:bl c
     . rw[trimL_pos hc,trim_comm n r (by simpa using h)];rcases snoc_cases r with rfl|⟨a,d,rfl⟩
       . have:trimR [c]=[]:=by have:=trimR_bl (a:=[]) hc;simpa [trimR_nil] using this
         rw[this];rfl
       by_cases hd:bl d
       . rw[<-l02,trimR_bl hd,trimR_bl hd];have ih:=trim_comm n (c::a) (by simp at h ⊢;omega);rw[<-ih,trimL_pos hc,trim_comm n a (by simp at h;omega)]
       rw[<-l02,trimR_nb hd,trimR_nb hd,l02,trimL_pos hc]
     rw[trimL_neg hc];rcases snoc_cases r with rfl|⟨a,d,rfl⟩
     . have:trimR [c]=[c]:=by have:=trimR_nb (a:=[]) hc;simpa using this
       rw[this,trimL_neg hc]
     by_cases hd:bl d
     . rw[<-l02,trimR_bl hd];have ih:=trim_comm n (c::a) (by simp at h ⊢;omega);rw[trimL_neg hc] at ih;rw[<-ih]
     rw[<-l02,trimR_nb hd,l02,trimL_neg hc]
def trimB (l:Ls):Ls:=trimR (trimL l)
theorem set_blank : Y0d [32,9]=some ((List.range 256).map (fun n=>decide (n=32∨n=9)),true):=by decide +kernel
theorem set_end : Y0d [13,10,0]=some ((List.range 256).map (fun n=>decide (n=13∨n=10∨n=0)),true):=by decide +kernel
theorem contains_at (f:Nat->Bool)(c:UInt8):Y0b ((List.range 256).map f) c=some (f c.toNat):=by
 have hc:=c.toNat_lt;unfold Y0b idxA;rw[if_pos Sm,idx_nat,List.getElem?_map,List.getElem?_range Om];rfl
theorem trimRA_eq :∀(k m:Nat) (l:Ls),l.length<=k->k<m->Big l->Y0g ((List.range 256).map (fun n=>decide (n=32∨n=9))) m l=some (trimR l)
 | k,m,l,u,J,E=>by
   obtain⟨m,rfl⟩ :∃k,m=k+1:=⟨m-1,by omega⟩
   rcases snoc_cases l with rfl|⟨a,c,rfl⟩
   . rw[Y0g,if_neg Sm];rfl
   have hl:(a++[c]).length=a.length+1:=by simp
   simp only[Big,hl] at E;rw[Y0g,if_pos (by rw[hl];omega),hl,show ((a.length+1:Nat):Int)-1=((a.length:Nat):Int) by omega,chk_ok Om Om];simp only[bsome];rw[idx_nat,List.getElem?_append_right (l07 _)];simp only[l1d,List.getElem?_cons_zero,bsome,contains_at];by_cases hc:bl c
   . rw[decide_eq_true (show c.toNat=32∨c.toNat=9 from hc),if_pos rfl,cut_to rfl (by rw[hl];omega)];simp only[bsome,l1j];cases k with
     | zero=>rw[hl] at u;omega
     | succ k=>rw[trimRA_eq k m a (by rw[hl] at u;omega) Om (by unfold Big;omega),trimR_bl hc]
   rw[decide_eq_false (show ¬(c.toNat=32∨c.toNat=9) from hc),if_neg Sm,trimR_nb hc]
theorem trimLA_eq :∀(k m:Nat) (l:Ls),l.length<=k->k<m->Big l->Y09 ((List.range 256).map (fun n=>decide (n=32∨n=9))) m l=some (trimL l)
 | k,m,l,u,J,E=>by
   obtain⟨m,rfl⟩ :∃k,m=k+1:=⟨m-1,by omega⟩
   cases l with
   | nil=>rw[Y09,if_neg Sm];rfl
   | cons c r =>
     rw[Y09,if_pos (by simp only[l01];omega),show (0:Int)=((0:Nat):Int) from rfl,idx_nat];simp only[bsome,List.getElem?_cons_zero,contains_at];by_cases hc:bl c
     . rw[decide_eq_true (show c.toNat=32∨c.toNat=9 from hc),if_pos rfl,cut_from (i:=1) (a:=1) rfl Sm];simp only[bsome,l0Y,l0t];cases k with
       | zero=>simp at u
       | succ k=>rw[trimLA_eq k m r (by simpa using u) Om (by simp only[Big,l01] at E ⊢;omega),trimL_pos hc]
     rw[decide_eq_false (show ¬(c.toNat=32∨c.toNat=9) from hc),if_neg Sm,trimL_neg hc]
theorem rep_len : chkA 256 (List.replicate 256 false:List Bool)=some (List.replicate 256 false):=chkA_ok l2b
theorem rng_len (f:Nat->Bool):chkA 256 ((List.range 256).map f)=some ((List.range 256).map f):=chkA_ok (by rw[l0l,l1H])
theorem Y6b (l:Ls)(hl:Big l):Y3P l [32,9]=some (trimB l):=by
 unfold Y3P;by_cases h:l=[]
 . subst h;rfl
 rw[if_neg h];simp only[bsome,show (decide (([32,9]:Ls)=[]))=false from rfl,l0m,if_false];rw[if_neg Dc];simp only[bsome,l0m,if_false,set_blank,rep_len,rng_len,if_true];unfold Y0S Y1d;rw[trimRA_eq l.length FU l (l07 _) (FU_gt Om) hl];simp only[bsome];have:=trimR_len l;rw[trimLA_eq (trimR l).length FU (trimR l) (l07 _) (FU_gt Om) (by unfold Big;omega)];simp only[bsome];rw[trimB,trim_comm l.length l (l07 _)]
theorem dr_facts (l:Ls):1<=(Utf.dr l).2/\(Utf.dr l).2<=4/\(Utf.nat l 0<128->(Utf.dr l).1=Utf.nat l 0/\(Utf.dr l).2=1)/\(128<=Utf.nat l 0->128<=(Utf.dr l).1)/\
 (2<=(Utf.dr l).2->128<=Utf.nat l 1/\1<l.length)/\(3<=(Utf.dr l).2->128<=Utf.nat l 2/\2<l.length)/\(4<=(Utf.dr l).2->128<=Utf.nat l 3/\3<l.length)/\(Utf.dr l).1<=1114111:=by
 have u:=Utf.nat_lt l 0;have E:=Utf.nat_lt l 1;have J:=Utf.nat_lt l 2;have K:=Utf.nat_lt l 3;unfold Utf.dr Lib.decodeN;split
 . refine⟨by omega,by omega,fun _=>⟨G,G⟩,fun h=>by omega,fun h=>by omega,fun h=>by omega,fun h=>by omega,by omega⟩
 split
 . split <;> simp only[] <;> omega
 split
 . split <;> simp only[] <;> omega
 split
 . split <;> simp only[] <;> omega
 simp only[];omega
theorem endB_lt {c:UInt8}(h:endB c=true):c.toNat<128:=by unfold endB at h;rw [decide_eq_true_eq] at h;omega
theorem any_rune {l:Ls}{ps:Nat}(h:ps<l.length):(l.drop ps).any endB=(decide ((Utf.dr (l.drop ps)).1=13∨(Utf.dr (l.drop ps)).1=10∨(Utf.dr (l.drop ps)).1=0) ||(l.drop (ps+(Utf.dr (l.drop ps)).2)).any endB):=by
 obtain⟨Y,Z,U,V,u,E,N,a8⟩:=dr_facts (l.drop ps);have hl:(l.drop ps).length=l.length-ps:=l04;have hn :∀j,ps+j<l.length->Utf.nat (l.drop ps) j=(l[ps+j]?.getD 0).toNat:=fun j hj=>by rw[Utf.nat_drop];unfold Utf.nat;rw [l0z]
 have hnb :∀j (hj:ps+j<l.length),128<=Utf.nat (l.drop ps) j->endB l[ps+j]=false:=fun j hj J=>by
  rw[hn j hj,List.getElem?_eq_getElem hj] at J;cases hb:endB l[ps+j] with
  | false=>rfl
  | true=>have:=endB_lt hb;simp at J;omega
 have hd :∀j,ps+j<l.length->(l.drop (ps+j)).any endB=((l[ps+j]?.elim false endB) ||(l.drop (ps+j+1)).any endB):=fun j hj=>by
  rw[drop_cons hj,l2q,List.getElem?_eq_getElem hj];rfl
 have hfirst:(l[ps]?.elim false endB)=decide ((Utf.dr (l.drop ps)).1=13∨(Utf.dr (l.drop ps)).1=10∨(Utf.dr (l.drop ps)).1=0):=by
  rw[List.getElem?_eq_getElem h];have K:=hn 0 Om;rw[l1a,List.getElem?_eq_getElem h] at K;simp only[l1s] at K;show endB l[ps]=_
  rcases l0K (Utf.nat (l.drop ps) 0) 128 with hc|hc
  . rw[(U hc).1,K];rfl
  have:=hnb 0 Om hc;simp only[l1a] at this;rw[this];have:=V hc;exact(decide_eq_false Om).symm
 have O:=hd 0 Om;simp only[l1a] at O;rw[O,hfirst];congr 1;have skip :∀j,ps+j<l.length->128<=Utf.nat (l.drop ps) j->(l.drop (ps+j)).any endB=(l.drop (ps+j+1)).any endB:=fun j hj J=>by
  rw[hd j hj,List.getElem?_eq_getElem hj];show(endB l[ps+j] || _)=_
  rw[hnb j hj J,l1h]
 rcases(show(Utf.dr (l.drop ps)).2=1∨(Utf.dr (l.drop ps)).2=2∨(Utf.dr (l.drop ps)).2=3∨(Utf.dr (l.drop ps)).2=4 by omega) with e|e|e|e
 . rw[e]
 . rw[e,skip 1 Om (u Om).1]
 . rw[e,skip 1 (by have:=(u Om).2;omega) (u Om).1,skip 2 (by have:=(E Om).2;omega) (E Om).1]
 rw[e,skip 1 (by have:=(u Om).2;omega) (u Om).1,skip 2 (by have:=(E Om).2;omega) (E Om).1,skip 3 (by have:=(N Om).2;omega) (N Om).1]
theorem ub_high {a:Int}(u:128<=a)(E:a<256):128<=(Ph.ub a).toNat:=by
 unfold Ph.ub;rw[UInt8.toNat_ofNat'];omega
theorem Y6I {r:Int}(h:128<=r):2<=(Chs.utf8 r).length/\(Chs.utf8 r).length<=4/\∀c∈Chs.utf8 r,128<=c.toNat:=by
 have hf:128<=Chs.fixN r:=by unfold Chs.fixN;split <;> omega
 have hk:=Chs.fixN_ok r;unfold Chs.utf8 Chs.utf8M;rw[if_neg Om];split
 . refine⟨by simp,by simp,fun c hc=>?_⟩;simp only[l0S,l0T,or_false] at hc;rcases hc with rfl|rfl <;> exact ub_high Om Om
 split
 . refine⟨by simp,by simp,fun c hc=>?_⟩;simp only[l0S,l0T,or_false] at hc;rcases hc with rfl|rfl|rfl <;> exact ub_high Om Om
 refine⟨by simp,by simp,fun c hc=>?_⟩;simp only[l0S,l0T,or_false] at hc;rcases hc with rfl|rfl|rfl|rfl <;> exact ub_high Om Om
theorem ix_low :∀n:Nat,n<128->decide ((0:Int)<=ixB [13,10,0] (ub8 (n:Int)))=decide (n=13∨n=10∨n=0):=by decide +kernel
theorem ix_high :∀k,k<4->∀n,n<256->128<=n->ixB (([13,10,0]:Ls).drop k) (UInt8.ofNat n) = -1:=by decide +kernel
theorem IndexRune_end (r:Nat):∃n,Y1Y [13,10,0] (r:Int)=some n/\decide ((0:Int)<=n)=decide (r=13∨r=10∨r=0):=by
 unfold Y1Y;rw[if_pos Om];simp only[bsome];by_cases J:r<128
 . rw[decide_eq_true Om,if_pos rfl];exact⟨_,G,ix_low r J⟩
 rw[decide_eq_false Om,if_neg Sm,decide_eq_false (show ¬(r=13∨r=10∨r=0) by omega)];have neg :∀{x:Option Int},x=some (-1)->∃n,x=some n/\decide ((0:Int)<=n)=false:=fun h=>⟨-1,h,by decide⟩
 refine neg ?_;by_cases E:(r:Int)=65533
 . rw[if_pos E];decide +kernel
 rw[if_neg E];have hv :∃b,Y2g (r:Int)=some b:=by
  unfold Y2g;rw[if_pos Om];simp only[bsome];split
  . exact⟨_,G⟩
  split
  . simp only[bsome];split <;> exact⟨_,rfl⟩
  simp only[bsome];exact ⟨_,rfl⟩
 obtain⟨b,hb⟩:=hv;rw[hb];simp only[bsome];cases b with
 | false=>rfl
 | true =>
   rw[if_pos rfl];obtain⟨N,O,K⟩:=Y6I (r:=(r:Int)) Om;rw[show ((Chs.utf8 (r:Int)).length:Int)-1=(((Chs.utf8 (r:Int)).length-1:Nat):Int) by omega,chk_ok Om Om];simp only[bsome];generalize hk:(Chs.utf8 (r:Int)).length-1=k;rw[show FU=18446744073709551615+1 from rfl,Y1K];have hkl:k<(Chs.utf8 (r:Int)).length:=by omega
   have hc:=K _ (l0D hkl);by_cases u:k<3
   . rw[if_pos (by simp;omega),idx_nat,idx_nat,List.getElem?_eq_getElem hkl,List.getElem?_eq_getElem (show k<([13,10,0]:Ls).length from u)];simp only[bsome];have hne :¬(([13,10,0]:Ls)[k]'u=(Chs.utf8 (r:Int))[k]):=by
      intro he;rw[<-he] at hc;have :∀k (h:k<3),(([13,10,0]:Ls)[k]'h).toNat<128:=by decide
      have:=this k u;omega
     rw[if_neg hne,chk_succ Om];simp only[bsome];rw[cut_from rfl (by simp;omega)];simp only[bsome];unfold Y1a;have hx:=ix_high (k+1) Om ((Chs.utf8 (r:Int))[k]).toNat (UInt8.toNat_lt _) hc;rw[UInt8.ofNat_toNat] at hx;rw[hx];simp only[bsome];rw[if_pos Om];simp only[bsome]
   rw[if_neg (by simp;omega)];simp only[bsome]
theorem IndexAny_L2_end (l:Ls):∀(k ps m:Nat),l.length-ps<=k->k<m->∃o,Y0I l [13,10,0] m ps=some o/\((l.drop ps).any endB=true->∃n,o = .inr n/\0<=n)/\((l.drop ps).any endB=false->o = .inl ())
 | k,ps,m,J,K=>by
   obtain⟨m,rfl⟩ :∃k,m=k+1:=⟨m-1,by omega⟩
   by_cases h:ps<l.length
   . rw[Y0I,if_pos h];obtain⟨n,E,u⟩:=IndexRune_end (Utf.dr (l.drop ps)).1;rw[E];simp only[bsome];rw[any_rune h];by_cases hc:0<=n
     . rw[if_pos hc];rw[decide_eq_true hc] at u;rw[<-u];exact⟨_,G,fun _=>⟨_,G,by omega⟩,fun h=>by simp at h⟩
     rw[if_neg hc];rw[decide_eq_false hc] at u;rw[<-u,l1h];have hs:=(dr_facts (l.drop ps)).1;cases k with
     | zero=>omega
     | succ k=>exact IndexAny_L2_end l k (ps+(Utf.dr (l.drop ps)).2) m Om Om
   rw[Y0I,if_neg h,l1q Om];exact⟨_,G,fun h=>by simp at h,fun _=>G⟩
theorem Y6F (l:Ls)(hl:Big l):Y51 l=some (l.any endB):=by
 unfold Y51 Y1u Y29 Y0D;rw[if_neg Dc,if_neg Dc];simp only[bsome];by_cases O:8<l.length
 . rw[decide_eq_true Om,if_pos rfl,set_end];simp only[bsome,rep_len,rng_len,if_true];rcases scanP (Y0H l ((List.range 256).map (fun n=>decide (n=13∨n=10∨n=0)))) l (fun i c=>if endB c=true then some (Sum.inr (i:Int)) else none) (.inl ()) (fun m=>by rw[Y0H,if_neg Om]) (fun m i h=>by
    rw[Y0H,if_pos Om,idx_nat,List.getElem?_eq_getElem h,chk_succ (by have:=hl;omega)];simp only[bsome,contains_at];show(if endB l[i]=true then _ else _)=_
    by_cases he:endB l[i]=true
    . rw[if_pos he,if_pos he]
    rw[if_neg he,if_neg he]) l.length 0 FU Om (FU_gt Om) Om with ⟨j,hj,r,E,u,U,J⟩|⟨E,u⟩
   . rw[show ((0:Nat):Int)=0 from rfl] at J;rw[J];split at u
     . rename_i he;cases u;have:l.any endB=true:=List.any_eq_true.2 ⟨_,l0D hj,he⟩;rw[this];simp only[bsome];rw[decide_eq_true Om]
     cases u
   rw[show ((0:Nat):Int)=0 from rfl] at u;rw[u];have:l.any endB=false:=by
    rw[l1v];intro c hc;obtain⟨i,hi,rfl⟩:=l1l hc;have:=E i hi Om;intro he;rw[if_pos he] at this;cases this
   rw[this];simp only[bsome];rfl
 rw[decide_eq_false Om,if_neg Sm];simp only[bsome];obtain⟨o,ho,K,N⟩:=IndexAny_L2_end l l.length 0 FU Om (FU_gt Om);rw[l0t] at K N;rw[ho];simp only[bsome];cases hb:l.any endB with
 | true =>
   obtain⟨n,rfl,hn⟩:=K hb;simp only[bsome];rw[decide_eq_true hn]
 | false =>
   rw[N hb];simp only[bsome];rfl
theorem trimB_self (l:Ls):trimB l=l↔(l=[]∨((∀c,l.head? = some c->¬bl c)/\(∀c,l.getLast? = some c->¬bl c))):=by
 unfold trimB;cases l with
 | nil=>simp [trimL_nil,trimR_nil]
 | cons c r =>
   constructor
   . intro h;have hc :¬bl c:=by
      intro hb;rw[trimL_pos hb] at h;have u:=trimR_len (trimL r);have E:=trimL_len r;rw[h] at u;simp at u;omega
     rw[trimL_neg hc] at h;refine .inr ⟨fun d hd=>by simp at hd;rw [<-hd];exact hc,fun d hd hb=>?_⟩;rcases snoc_cases (c::r) with J|⟨a,x,hax⟩
     . cases J
     rw[hax] at hd h;simp at hd;subst hd;rw[trimR_bl hb] at h;have:=trimR_len a;rw[h] at this;simp at this;omega
   rintro(h|⟨u,E⟩)
   . cases h
   rw[trimL_neg (u c rfl)];rcases snoc_cases (c::r) with J|⟨a,x,hax⟩
   . cases J
   rw[hax] at E ⊢;exact trimR_nb (E x Sm)
def valB (l:Ls):Bool := !l.any endB&&decide (trimB l=l)
theorem Y6x (l:Ls)(hl:Big l):Y4B l=some (valB l):=by
 unfold Y4B valB;rw[Y6F l hl];simp only[bsome];cases hb:l.any endB with
 | true=>rfl
 | false =>
   simp only[l0m,if_false];rw[show decide (trimB l=l)=decide (l=[]∨((∀c,l.head? = some c->¬bl c)/\(∀c,l.getLast? = some c->¬bl c))) from decide_eq_decide.2 (trimB_self l)];by_cases h:l=[]
   . rw[if_pos h,decide_eq_true (.inl h)];rfl
   rw[if_neg h];have hpos:0<l.length:=by cases l <;> simp_all
   have hh:l.head? = some l[0]:=by rw[List.head?_eq_getElem?,List.getElem?_eq_getElem hpos]
   have hg:l.getLast? = some (l[l.length-1]'Om):=by rw[List.getLast?_eq_getElem?,List.getElem?_eq_getElem]
   rw[show (0:Int)=((0:Nat):Int) from rfl,idx_nat,List.getElem?_eq_getElem hpos,chk_pred Om Om];simp only[bsome,Y2I];rw[idx_nat,List.getElem?_eq_getElem Om];simp only[bsome,Y2I,hh,hg,Option.some.injEq];by_cases u:bl l[0]
   . rw[decide_eq_true u,if_pos rfl];simp only[bsome];rw[decide_eq_false (fun x=>x.elim h (fun y=>y.1 _ hh u))];rfl
   rw[decide_eq_false u,if_neg Sm];simp only[bsome];by_cases E:bl (l[l.length-1]'Om)
   . rw[decide_eq_true E,decide_eq_false (fun x=>x.elim h (fun y=>y.2 _ hg E))];rfl
   rw[decide_eq_false E,decide_eq_true (.inr ⟨fun c hc=>by rw[hh] at hc;cases hc;exact u,fun c hc=>by rw[hg] at hc;cases hc;exact E⟩)];rfl
def codeF (n v:Ls):Int:=if nmL n=true then(if 4000<v.length then 1 else if valB v=true then 0 else 11) else 10
theorem bk_at' {s:Ls}{i:Nat}(u:0<i)(h:i<s.length):bk s i=decide (bl s[i]/\¬bl (s[i-1]'Om)):=bk_at u (List.getElem?_eq_getElem _) (List.getElem?_eq_getElem _)
theorem point_loop (s:Ls)(hs:s.length<=1000000):∀(k i m best:Nat),s.length-i<=k->k<m->0<i->Y1O s m (best:Int) (i:Int)=some ((sc s (s.length-i) i best:Nat):Int)
 | k, i, m,best,N,O,u=>by
   obtain⟨m,rfl⟩ :∃k,m=k+1:=⟨m-1,by omega⟩
   by_cases hi:i<s.length
   . cases k with
     | zero=>omega
     | succ k =>
     rw[Y1O,if_pos Om,idx_nat,List.getElem?_eq_getElem hi,chk_pred Om Om,chk_succ Om];simp only[bsome,Y2I,idx_nat];rw[List.getElem?_eq_getElem (show i-1<s.length by omega)];simp only[bsome,Y2I];have hc:(if decide (bl s[i])=true then some (decide (bl (s[i-1]'Om))) else some true)=some (!bk s i):=by
      rw[bk_at' u hi];by_cases E:bl s[i] <;> by_cases J:bl (s[i-1]'Om) <;> simp [E,J]
     rw[hc];simp only[bsome];rw[show s.length-i=(s.length-(i+1))+1 by omega,sc];cases hb:bk s i with
     | false =>
       simp only[Bool.not_false,if_true,l0m,if_false];exact point_loop s hs k (i+1) m best Om Om Om
     | true =>
       simp only[l1R,if_true,l0m,if_false];by_cases hbest:0<best
       . rw[if_pos Om];simp only[bsome];by_cases K:78<i
         . rw[decide_eq_true Om,if_pos rfl,if_neg Om,sc_stay _ _ _ _ hbest Om]
         rw[decide_eq_false Om,if_neg Sm,if_pos Om];exact point_loop s hs k (i+1) m i Om Om Om
       rw[if_neg Om];simp only[bsome,l0m,if_false];rw[if_pos Om];exact point_loop s hs k (i+1) m i Om Om Om
   rw[Y1O,if_neg Om,show s.length-i=0 by omega];rfl
theorem Y6y (s:Ls)(hs:s.length<=1000000)(k:Nat):Y4C s (k:Int)=some ((pt s (max k 1):Nat):Int):=by
 unfold Y4C pt;rw[show max (k:Int) 1=((max k 1:Nat):Int) by omega];have:=point_loop s hs s.length (max k 1) FU 0 Om (FU_gt Om) Om;rw[show ((0:Nat):Int)=0 from rfl] at this;rw[this];rfl
theorem Y6o :∀(f m k:Nat) (s:Ls) (o:List Ls),s.length<=f->f<m->s.length<=1000000->o.length+s.length<=1000000->
 ∃a b,Y2y m s (k:Int) o=some (a,b)/\b++[a]=o++fl s (max k 1)/\a.length<=s.length/\b.length<=o.length+s.length
 | f,m,k,s,o,V,Y,K,Z=>by
   obtain⟨m,rfl⟩ :∃k,m=k+1:=⟨m-1,by omega⟩
   by_cases u:78<s.length
   . rw[Y2y,if_pos Om,Y6y s K];simp only[bsome];by_cases E:pt s (max k 1)=0
     . rw[if_pos Om,fl_end (fun h=>h.2 E)];exact⟨_,_,G,G,l07 _,by omega⟩
     obtain⟨p1,p2,p3⟩:=pt_lt Om E;rw[if_neg Om,cut_to rfl Om,cut_from rfl Om];simp only[bsome];rw[app_ok (by simp only[l01,l0a];omega)];simp only[bsome];cases f with
     | zero=>omega
     | succ f =>
       obtain⟨a,b,N,O,U,J⟩:=Y6o f m 0 (s.drop (pt s (max k 1))) (o++[s.take (pt s (max k 1))]) (by rw[l04];omega) Om (by rw[l04];omega) (by rw[l05,l04];simp;omega);rw[l04] at U J;simp only[l05,l01,l0a] at J;refine⟨a,b,N,?_,by omega,by omega⟩;rw[O,fl_more Om ⟨u,E⟩];simp
   rw[Y2y,if_neg Om,fl_end (fun h=>u h.1)];exact⟨_,_,G,G,l07 _,by omega⟩
def bigL (a:Ls):Bool:=decide (998<a.length)
theorem first_big {β:Type}(L:Nat->Int->Option β)(l:List Ls)(hl:l.length<=1000000)(r:Nat->β)(stop:β)(hend :∀m,L (m+1) (l.length:Int)=some stop)
 (hstep :∀m i (h:i<l.length),L (m+1) (i:Int)=if bigL l[i]=true then some (r i) else L m ((i+1:Nat):Int)):L FU 0=some (match l.findIdx? bigL with|some j=>r j|none=>stop):=by
 rcases scanP L l (fun i a=>if bigL a=true then some (r i) else none) stop hend (fun m i h=>by
  rw[hstep m i h];split <;> rfl) l.length 0 FU Om (FU_gt Om) Om with ⟨j,hj,x,E,u,K,J⟩|⟨E,u⟩
 . rw[show ((0:Nat):Int)=0 from rfl] at J;rw[J];have hb:bigL l[j]=true:=by
    by_cases hb:bigL l[j]=true
    . exact hb
    simp only[hb,if_false,l0m] at u;cases u
   simp only[hb,if_true] at u;cases u;have:l.findIdx? bigL=some j:=by
    rw[List.findIdx?_eq_some_iff_getElem];refine⟨hj,hb,fun a ha=>?_⟩;have:=K a Om Om ha;intro hc;simp only[hc,if_true] at this;cases this
   rw[this]
 rw[show ((0:Nat):Int)=0 from rfl] at u;rw[u];have:l.findIdx? bigL=none:=by
  rw[List.findIdx?_eq_none_iff];intro x hx;obtain⟨i,hi,rfl⟩:=l1l hx;have:=E i hi Om;cases hc:bigL l[i] with
  | false=>rfl
  | true=>simp only[hc,if_true] at this;cases this
 rw[this]
theorem fl_len :∀(n:Nat) (s:Ls) (k:Nat),0<k->s.length<=n->(fl s k).length<=s.length+1
 | 0,s,k,hk,h=>by
   rw[fl_end (fun h'=>by omega)];simp
 | n + 1,s,k,hk,h=>by
   by_cases hc:78<s.length/\pt s k≠0
   . have u:=pt_lt hk hc.2;have:=fl_len n (s.drop (pt s k)) 1 Om (by rw[l04];omega);rw[fl_more hk hc,l01];rw[l04] at this;omega
   rw[fl_end hc];simp
def fieldS (n v:Ls):Ls:=n++[58,32]++v
def foldR (n v:Ls):List Ls × (Int × Int) :=
 if codeF n v=0 then(match (fl (fieldS n v) (n.length+2)).findIdx? bigL with|some j=>([],(1,(j:Int)))|none=>(fl (fieldS n v) (n.length+2),(0,0))) else([],(codeF n v,-1))
theorem nmL_len {n:Ls}(h:nmL n=true):1<=n.length/\n.length<=60:=by
 unfold nmL at h;rw[l0d,decide_eq_true_eq] at h;exact h.2
theorem Y5a (n v:Ls)(hn:Big n)(hv:Big v):Y3O n v=some (foldR n v):=by
 unfold Y3O foldR codeF;rw[Y6E n hn];simp only[bsome];cases h:nmL n with
 | false=>rfl
 | true =>
   have O:=nmL_len h;simp only[if_true];by_cases u:4000<v.length
   . rw[if_pos Om,if_pos u];rfl
   rw[if_neg Om,if_neg u,Y6x v hv];simp only[bsome];cases hb:valB v with
   | false=>rfl
   | true =>
     simp only[if_true];have E:(n++[58,32]++v)=fieldS n v:=rfl;have hsl:(fieldS n v).length=n.length+2+v.length:=by unfold fieldS;simp;omega
     rw[cat_ok (by simp only[l01,l0a];omega)];simp only[bsome];rw[cat_ok (by rw[l05];simp only[l01,l0a];omega),show ((n.length:Int)+2)=((n.length+2:Nat):Int) by omega,chk_ok Om Om];simp only[bsome,E];obtain⟨a,b,J,K,U,N⟩:=Y6o (fieldS n v).length FU (n.length+2) (fieldS n v) [] (l07 _) (FU_gt Om) Om (by simp;omega);rw[J];simp only[bsome];rw[app_ok (by simp only[l01,l0a] at N ⊢;omega)];simp only[bsome];rw[K,l03,show max (n.length+2) 1=n.length+2 by omega];have hfl:=fl_len (fieldS n v).length (fieldS n v) (n.length+2) Om (l07 _);rw[first_big (fun m i=>Y2z (fl (fieldS n v) (n.length+2)) m 0 0 i) (fl (fieldS n v) (n.length+2)) Om (fun i => .inr ([],(1,(i:Int)))) (.inl (0,0)) (fun m=>by rw[Y2z,if_neg Om]) (fun m i h=>by
      rw[Y2z,if_pos Om,idx_nat,List.getElem?_eq_getElem h,chk_succ Om];simp only[bsome];unfold bigL Y03;by_cases hbig:998<((fl (fieldS n v) (n.length+2))[i]).length
      . rw[if_pos Om,if_pos (decide_eq_true hbig)];rfl
      rw[if_neg Om,if_neg (by rw[decide_eq_true_eq];exact hbig)])]
     simp only[bsome];cases(fl (fieldS n v) (n.length+2)).findIdx? bigL with
     | none=>rfl
     | some j=>rfl
def faultR (n v:Ls):Int × Int :=
 if codeF n v=0 then(match (fl (fieldS n v) (n.length+2)).findIdx? bigL with|some j=>(1,(j:Int))|none=>(0,0)) else(codeF n v,-1)
theorem codeF_zero {n v:Ls}(h:codeF n v=0):nmL n=true/\v.length<=4000/\valB v=true:=by
 unfold codeF at h;split at h
 . split at h
   . cases h
   split at h
   . exact⟨by assumption,by omega,by assumption⟩
   cases h
 cases h
theorem ixB_cons (b:UInt8)(l:Ls)(c:UInt8):ixB (b::l) c=if b=c then 0 else if ixB l c<0 then -1 else ixB l c+1:=by
 unfold ixB;rw[List.idxOf_cons,l01];by_cases h:b=c
 . subst h;simp
 have h':(b == c)=false:=by simpa using h
 rw[h',if_neg h];simp only[cond_false];by_cases hl:l.idxOf c<l.length
 . rw[if_pos Om,if_pos hl,if_neg Om];omega
 rw[if_neg Om,if_neg hl,if_pos Om]
theorem ixB_lt (l:Ls)(c:UInt8): -1<=ixB l c/\ixB l c<l.length:=by
 unfold ixB;split <;> omega
theorem index_ixB :∀l:Ls,Lib.index l [58]=ixB l 58
 | []=>rfl
 | c :: t=>by
   rw[Lib.index,ixB_cons,index_ixB t];have hx:=ixB_lt t 58;by_cases hc:c=58
   . rw[if_pos (by simp [List.isPrefixOf,hc]),if_pos hc]
   rw[if_neg (by simp [List.isPrefixOf,Ne.symm hc]),if_neg hc];by_cases hn:ixB t 58<0
   . have:ixB t 58 = -1:=by omega
     rw[this];rfl
   have :¬((ixB t 58 == -1)=true):=by simp;omega
   rw[if_neg this,if_neg hn]
theorem Y6m (l:Ls)(hl:l.length<=1000000):Y2h l [58]=some (if ixB l 58<0 then(l,[],false) else(l.take (ixB l 58).toNat,l.drop ((ixB l 58).toNat+1),true)):=by
 have hi:Y0M l [58]=some (ixB l 58):=by
  unfold Y0M;rw[if_pos Om,index_ixB]
 have hx:=ixB_lt l 58;unfold Y2h Y22;rw[hi];simp only[bsome];by_cases hn:ixB l 58<0
 . rw[if_neg Om,if_pos hn];simp only[bsome]
 obtain⟨n,hn'⟩:=l0C (show 0<=ixB l 58 by omega);rw[if_pos Om,if_neg hn,hn'];rw[cut_to rfl Om];simp only[bsome];rw[show ((n:Int)+(([58]:Ls).length:Int))=((n+1:Nat):Int) by simp,chk_ok Om Om];simp only[bsome];rw[cut_from rfl Om];simp only[bsome,l0h]
def hd (a:Ls):Bool:=match a with|[]=>true|c::_ => !decide (bl c)
theorem fl_hd :∀(n:Nat) (s:Ls) (k:Nat),0<k->s.length<=n->∀(j:Nat) (a:Ls),(fl s k)[j+1]? = some a->hd a=false
 | 0,s,k,hk,h=>by intro j a ha;rw [fl_end (fun h'=>by omega)] at ha;simp at ha
 | n + 1,s,k,hk,h=>by
   intro j a ha;by_cases hc:78<s.length/\pt s k≠0
   . obtain⟨N,K,J⟩:=pt_lt hk hc.2;rw[fl_more hk hc] at ha;cases j with
     | succ j=>exact fl_hd n (s.drop (pt s k)) 1 Om (by rw[l04];omega) j a (by simpa using ha)
     | zero =>
       rw[bk_at' Om K,decide_eq_true_eq] at J;have u:(fl (s.drop (pt s k)) 1)[0]? = some a:=by simpa using ha
       rw[drop_cons K] at u;by_cases E:78<(s[pt s k]::s.drop (pt s k+1)).length/\pt (s[pt s k]::s.drop (pt s k+1)) 1≠0
       . have O:=pt_lt Om E.2;rw[fl_more Om E] at u;simp only[List.getElem?_cons_zero,Option.some.injEq] at u;rw[<-u,show pt (s[pt s k]::s.drop (pt s k+1)) 1=(pt (s[pt s k]::s.drop (pt s k+1)) 1-1)+1 by omega,l1P];simp [hd,J.1]
       rw[fl_end E] at u;simp only[List.getElem?_cons_zero,Option.some.injEq] at u;rw[<-u];simp [hd,J.1]
   rw[fl_end hc] at ha;simp at ha
theorem nm_end {n:Ls}(h:nmL n=true):n.any endB=false/\∀c∈n,c≠58:=by
 unfold nmL at h;rw[l0d,l2e] at h;constructor
 . rw[l1v];intro c hc he;have:=h.1 c hc;unfold nmB at this;unfold endB at he;rw[decide_eq_true_eq] at this he;omega
 intro c hc he;have:=h.1 c hc;unfold nmB at this;rw[decide_eq_true_eq] at this;have:=(u8_lit c 58).1 he;have u:(58:UInt8).toNat=58:=rfl;omega
theorem ixB_name {n r:Ls}(h :∀c∈n,c≠58):ixB (n++58::r) 58=(n.length:Int):=by
 induction n with
 | nil=>rw[l03,ixB_cons,if_pos rfl];rfl
 | cons c n ih =>
   rw[l02,ixB_cons,if_neg (h c Sm),ih (fun d hd=>h d (by simp [hd])),if_neg Om,l01];omega
theorem valB_split {v:Ls}(h:valB v=true):v.any endB=false/\trimB v=v:=by
 unfold valB at h;rw[l0d,decide_eq_true_eq] at h;exact⟨by simpa using h.1,h.2⟩
end Go.Ph.Pf
end
section
namespace Go.Ph.Hd
open Go.Ph.Pl Go.Ph.Pf Go.Ph.Wd
open Go.Ph.Fd (fl fl_flat)
abbrev Fld : Type:=Ls × Ls
abbrev BigF (l:List Fld):Prop :=∀x∈l,Big x.1/\Big x.2
theorem foldR_snd (n v:Ls):(foldR n v).2=faultR n v:=by
 unfold foldR faultR;by_cases h:codeF n v=0
 . rw[if_pos h,if_pos h];cases(fl (fieldS n v) (n.length+2)).findIdx? bigL <;> rfl
 rw[if_neg h,if_neg h]
theorem failed_eq (a b:Int):Y08 (a,b)=some (!decide (a=0)):=rfl
theorem fault_eq (a b:Int):Y03 a b=some (a,b):=by unfold Y03;rfl
def ffz (i:Nat):List Fld->Int × Int
 | []=>(0,0)
 | x::r=>if (faultR x.1 x.2).1=0 then ffz (i+1) r else((faultR x.1 x.2).1,(i:Int))
theorem ffz_zero :∀{l:List Fld} {i:Nat},(ffz i l).1=0->ffz i l=(0,0)/\∀x∈l,(faultR x.1 x.2).1=0
 | [],i,h=>⟨rfl,fun x hx=>by cases hx⟩
 | x :: r,i,h=>by
   rw[ffz] at h ⊢;by_cases hx:(faultR x.1 x.2).1=0
   . rw[if_pos hx] at h ⊢;obtain⟨u,E⟩:=ffz_zero h;refine⟨u,fun y hy=>?_⟩;rcases List.mem_cons.1 hy with rfl|hy
     . exact hx
     exact E y hy
   rw[if_neg hx] at h;exact absurd h hx
theorem valid_L1 (l:List Fld)(hl:l.length<=1000)(hb:BigF l)(E u:Int):∀(d i m:Nat),l.length-i<=d->d<m->i<=l.length->
 Y0F l m E u (i:Int)=some (if (ffz i (l.drop i)).1=0 then .inl (E,u) else .inr (ffz i (l.drop i))):=by
 intro d;induction d with
 | zero =>
   intro i m J K N;obtain⟨m,rfl⟩ :∃k,m=k+1:=⟨m-1,by omega⟩
   rw[Y0F,if_neg Om,l0e Om];rfl
 | succ d ih =>
   intro i m J K N;obtain⟨m,rfl⟩ :∃k,m=k+1:=⟨m-1,by omega⟩
   by_cases hi:i<l.length
   . have hx:=hb l[i] (l0D hi);rw[Y0F,if_pos Om,idx_nat,List.getElem?_eq_getElem hi,bsome,Y5a _ _ hx.1 hx.2,l0g hi,ffz];have hs:=foldR_snd l[i].1 l[i].2;obtain⟨⟨L,a,b⟩,hr⟩ :∃p,foldR l[i].1 l[i].2=p:=⟨_,rfl⟩
     rw[hr] at hs ⊢;rw[bsome];dsimp only at hs ⊢;rw[failed_eq,bsome,<-hs];by_cases ha:a=0
     . rw[decide_eq_true ha,if_neg Dc,if_pos ha,chk_succ Om,bsome];exact ih (i+1) m Om Om Om
     rw[decide_eq_false ha,if_pos Dc,if_neg ha,fault_eq,bsome,if_neg ha]
   rw[Y0F,if_neg Om,l0e Om];rfl
def valR (l:List Fld):Int × Int:=if 60<l.length then(2,-1) else ffz 0 l
theorem validate_eq (l:List Fld)(hb:BigF l):Y2r l=some (valR l):=by
 unfold Y2r valR;by_cases h:60<l.length
 . rw[if_pos Om,fault_eq,bsome,if_pos h]
 have:=valid_L1 l Om hb 0 0 l.length 0 FU Om (by unfold FU;omega) Om;rw[l0H,l0t] at this;rw[if_neg Om,this,bsome,if_neg h];by_cases hz:(ffz 0 l).1=0
 . rw[if_pos hz];rw[(ffz_zero hz).1];unfold Y0e;rfl
 rw[if_neg hz]
def linesOf (x:Fld):List Ls:=fl (fieldS x.1 x.2) (x.1.length+2)
theorem fault_zero {x:Fld}(h:(faultR x.1 x.2).1=0):foldR x.1 x.2=(linesOf x,(0,0))/\nmL x.1=true/\x.2.length<=4000/\valB x.2=true/\(∀a∈linesOf x,a.length<=998):=by
 unfold faultR at h;by_cases hc:codeF x.1 x.2=0
 . rw[if_pos hc] at h;obtain⟨u,E,J⟩:=codeF_zero hc;cases hf:(fl (fieldS x.1 x.2) (x.1.length+2)).findIdx? bigL with
   | some j=>rw[hf] at h;exact absurd (show(1:Int)=0 from h) Dc
   | none =>
     refine⟨?_,u,E,J,fun a ha=>?_⟩
     . unfold foldR linesOf;rw [if_pos hc,hf]
     have:=List.findIdx?_eq_none_iff.1 hf a ha;unfold bigL at this;simpa using this
 rw[if_neg hc] at h;exact absurd h hc
def crlf (a:Ls):Ls:=a++[13,10]
def fieldB (x:Fld):Ls:=(linesOf x).flatMap crlf
def headB (l:List Fld):Ls:=l.flatMap fieldB++[13,10]
theorem crlf_sum :∀L:List Ls,(L.flatMap crlf).length=L.flatten.length+2*L.length
 | []=>rfl
 | a::L=>by rw[l0n,l05,crlf_sum L,l0L,l05,l01];unfold crlf;rw [l05];simp only[l01,l0a];omega
theorem field_sizes {x:Fld}(h:(faultR x.1 x.2).1=0):(linesOf x).length<=4070/\(linesOf x).flatten=fieldS x.1 x.2/\(fieldS x.1 x.2).length<=4062/\(fieldB x).length<=13000:=by
 obtain⟨_,J,N,_,_⟩:=fault_zero h;have K:=nmL_len J;have hsl:(fieldS x.1 x.2).length=x.1.length+2+x.2.length:=by unfold fieldS;simp;omega
 have O:=fl_len (fieldS x.1 x.2).length (fieldS x.1 x.2) (x.1.length+2) Om (l07 _);have u:=fl_flat (fieldS x.1 x.2).length (fieldS x.1 x.2) (x.1.length+2) Om (l07 _);have E:=crlf_sum (linesOf x);unfold fieldB;unfold linesOf at E ⊢;rw[u] at E;exact⟨by omega,u,by omega,by omega⟩
theorem headB_len {l:List Fld}(hl:l.length<=60)(h :∀x∈l,(faultR x.1 x.2).1=0):(l.flatMap fieldB).length<=780000:=by
 have:=flatMap_len fieldB 13000 l (fun x hx=>(field_sizes (h x hx)).2.2.2);omega
theorem valR_zero {l:List Fld}(h:(valR l).1=0):valR l=(0,0)/\l.length<=60/\∀x∈l,(faultR x.1 x.2).1=0:=by
 unfold valR at h ⊢;by_cases u:60<l.length
 . rw[if_pos u] at h;exact absurd h Dc
 rw[if_neg u] at h ⊢;obtain⟨E,J⟩:=ffz_zero h;exact⟨E,by omega,J⟩
end Go.Ph.Hd
end
section
namespace Go.Ph.Hd
open Go.Ph.Pl Go.Ph.Pf Go.Ph.Wd
open Go.Ph.Fd (fl fl_flat)
open Go.Ph.Chs (lower)
theorem name_eq (n:Ls)(hn:Big n):Y46 n=some (nmL n):=by
 unfold Y46;rw[Y5a n [] hn (by unfold Big;simp)];have hs:=foldR_snd n [];obtain⟨⟨L,a,b⟩,hr⟩ :∃p,foldR n []=p:=⟨_,rfl⟩
 rw[hr] at hs ⊢;dsimp only at hs;rw[bsome];dsimp only;rw[failed_eq,bsome];unfold faultR codeF at hs;by_cases h:nmL n=true
 . have u:=nmL_len h;have hv:valB []=true:=by decide
   have hsl:(fieldS n []).length=n.length+2:=by unfold fieldS;simp
   have e:(if 4000<([]:Ls).length then(1:Int) else if valB []=true then 0 else 11)=0:=by rw[hv];rfl
   rw[if_pos h,e,if_pos rfl,Fd.fl_end Om] at hs;have hb:[fieldS n []].findIdx? bigL=none:=by
    rw[List.findIdx?_eq_none_iff];intro x hx;rw[List.mem_singleton.1 hx];unfold bigL;rw[decide_eq_false Om]
   rw[hb] at hs;cases hs;rw[h];rfl
 rw[if_neg h,if_neg Dc] at hs;cases hs;rw[Bool.not_eq_true] at h;rw[h];rfl
end Go.Ph.Hd
end
section
namespace Go.Ph.Hd
open Go.Ph.Pl Go.Ph.Pf Go.Ph.Wd
open Go.Ph.Qp (trimR bl chop)
open Go.Ph.Chs (lower)
def wd : Ls->Nat
 | []=>0
 | c::t=>if c=10 then 0 else wd t+1
theorem wd_le :∀t:Ls,wd t<=t.length
 | []=>l07 _
 | c::t=>by
   have:=wd_le t;rw[wd];split
   . exact l0o _
   simp only[l01];omega
theorem ixB_wd :∀t:Ls,ixB t 10=if wd t<t.length then((wd t:Nat):Int) else -1
 | []=>rfl
 | c::t=>by
   rw[ixB_cons,ixB_wd t,wd];by_cases hc:c=10
   . rw[if_pos hc,if_pos hc,if_pos Sm];rfl
   rw[if_neg hc,if_neg hc];by_cases hw:wd t<t.length
   . rw[if_pos hw,if_neg Om,if_pos (by simp only[l01];omega)];omega
   rw[if_neg hw,if_pos Dc,if_neg (by simp only[l01];omega)]
def lineL (t:Ls):Ls × Nat:=if wd t<t.length then(chop 13 (t.take (wd t)),wd t+1) else(t,t.length)
theorem trimSuffix_eq (A:Ls)(hA:A.length<=1000000):Y0r A [13]=some (chop 13 A):=by
 unfold Y0r Y1l;rcases snoc_cases A with rfl|⟨B,c,rfl⟩
 . rfl
 have e:((B++[c]).length:Int)-(([13]:Ls).length:Int)=(B.length:Int):=by simp
 rw[if_pos (by simp only[l05,l01,l0a];omega),e,chk_ok Om (by simp at hA;omega),bsome,cut_from (a:=B.length) rfl Sm,bsome,l1L];unfold Y2Q chop;rw[bsome,bsome,bsome];by_cases hc:c=13
 . rw[decide_eq_true (by rw[hc]),if_pos rfl,bsome,cut_to (b:=B.length) rfl Sm,bsome,if_pos (by simp [hc]),l1j,l1J]
 rw[decide_eq_false (by simp [hc]),if_neg l00,if_neg (by simp [hc])]
theorem line_eq (t:Ls)(ht:t.length<=1000000):Y45 t=some ((lineL t).1,((lineL t).2:Int)):=by
 have hw:=wd_le t;unfold Y45 Y1k lineL;rw[bsome,ixB_wd];by_cases h:wd t<t.length
 . rw[if_pos h,if_neg Om,if_pos h,cut_to rfl Om,bsome,trimSuffix_eq _ (by rw[l0c];omega),bsome,chk_succ Om,bsome]
 rw[if_neg h,if_pos Dc,if_neg h]
theorem lineL_size {t:Ls}(h:t≠ []):1<=(lineL t).2/\(lineL t).2<=t.length/\(lineL t).1.length<=(lineL t).2:=by
 have hw:=wd_le t;have u:=List.length_pos_iff.2 h;unfold lineL;split
 . refine⟨by dsimp only;omega,by dsimp only;omega,?_⟩;dsimp only;unfold chop;split
   . rw[List.length_dropLast,l0c];omega
   rw[l0c];omega
 exact⟨u,l07 _,l07 _⟩
theorem trimRight_eq (l:Ls)(hl:Big l):Y1Z l [32,9]=some (trimR l):=by
 unfold Y1Z;by_cases h:l=[]
 . subst h;rfl
 rw[if_neg h];simp only[bsome,show (decide (([32,9]:Ls)=[]))=false from rfl,l0m,if_false];rw[if_neg Dc];simp only[bsome,l0m,if_false,set_blank,Pf.rep_len,rng_len,if_true];unfold Y0S;rw[trimRA_eq l.length FU l (l07 _) (FU_gt (by unfold Big at hl;omega)) hl];simp only[bsome]
def beg (s:Ls):Option Fld:=if ixB s 58<0 then none else if nmL (trimR (s.take (ixB s 58).toNat))=true then some (trimR (s.take (ixB s 58).toNat),s.drop ((ixB s 58).toNat+1)) else none
theorem begins_eq (s:Ls)(hs:s.length<=1000000):∃x b,Y3v s=some (x,b)/\((beg s=none/\b=false)∨(beg s=some x/\b=true)):=by
 have hx:=ixB_lt s 58;unfold Y3v beg;rw[Y6m s hs];by_cases h:ixB s 58<0
 . rw[if_pos h,bsome];dsimp only;rw[trimRight_eq s (by unfold Big;omega),bsome,if_neg l00,bsome,if_pos h];exact⟨_,_,G, .inl ⟨G,G⟩⟩
 have hb:Big (s.take (ixB s 58).toNat):=by unfold Big;rw [l0c];omega
 have ht:=trimR_len (s.take (ixB s 58).toNat);rw[if_neg h,bsome];dsimp only;rw[trimRight_eq _ hb,bsome,if_pos rfl,name_eq _ (by unfold Big at hb ⊢;omega),bsome,bsome,if_neg h];dsimp only;by_cases hn:nmL (trimR (s.take (ixB s 58).toNat))=true
 . rw[if_pos hn,hn];exact ⟨_,_,rfl, .inr ⟨rfl,rfl⟩⟩
 rw[if_neg hn];rw [Bool.not_eq_true] at hn;rw [hn];exact ⟨_,_,rfl, .inl ⟨rfl,rfl⟩⟩
def appL (out:List Fld)(s:Ls):List Fld:=match out[out.length-1]? with|some x=>out.set (out.length-1) (x.1,x.2++s)|none=>out
def isB (s:Ls):Bool:=match s with|c::_=>blk c|[]=>false
def rdF : Nat->List Fld->Ls->List Fld × Nat
 | 0,out,t=>(out,0)
 | f+1,out,t=>if t=[] then(out,0) else if (lineL t).1=[] then(out,(lineL t).2)
   else if isB (lineL t).1=true/\out≠ [] then((rdF f (appL out (lineL t).1) (t.drop (lineL t).2)).1,(lineL t).2+(rdF f (appL out (lineL t).1) (t.drop (lineL t).2)).2)
   else match beg (lineL t).1 with
    | some x=>((rdF f (out++[x]) (t.drop (lineL t).2)).1,(lineL t).2+(rdF f (out++[x]) (t.drop (lineL t).2)).2)
    | none=>(out,0)
def okO (out:List Fld)(i:Nat):Prop:=out.length<=i/\∀x∈out,x.2.length<=i
theorem okO.more {out:List Fld}{i j:Nat}(h:okO out i)(hj:i<=j):okO out j:=⟨l0V h.1 hj,fun x hx=>l0V (h.2 x hx) hj⟩
theorem okO.app {out:List Fld}{i n:Nat}{x:Fld}(h:okO out i)(hn:1<=n)(hx:x.2.length<=n):okO (out++[x]) (i+n):=by
 refine⟨by have:=h.1;simp;omega,fun y hy=>?_⟩;rcases List.mem_append.1 hy with hy|hy
 . have:=h.2 y hy;omega
 rw[List.mem_singleton.1 hy];omega
theorem okO.last {out:List Fld}{i n:Nat}{s:Ls}(h:okO out i)(hs:s.length<=n):okO (appL out s) (i+n):=by
 unfold appL;cases hx:out[out.length-1]? with
 | none=>exact h.more Om
 | some x =>
   have hm:=h.2 x (l0M hx);refine⟨by have:=h.1;simp;omega,fun y hy=>?_⟩;rcases l2h hy with hy|rfl
   . have:=h.2 y hy;omega
   simp;omega
theorem beg_len {s:Ls}{x:Fld}(h:beg s=some x):x.2.length<=s.length:=by
 unfold beg at h;split at h
 . cases h
 split at h
 . cases h;simp
 cases h
theorem read_L1 (p:Ls)(hp:p.length<=12000):∀(d i m:Nat) (out:List Fld),p.length-i<=d->d<m->i<=p.length->okO out i->
 Y1y p m out (i:Int)=some ((rdF d out (p.drop i)).1,((i+(rdF d out (p.drop i)).2:Nat):Int)):=by
 intro d;induction d with
 | zero =>
   intro i m out O U V u;obtain⟨m,rfl⟩ :∃k,m=k+1:=⟨m-1,by omega⟩
   rw[Y1y,if_neg Om];rfl
 | succ d ih =>
   intro i m out O U V u;obtain⟨m,rfl⟩ :∃k,m=k+1:=⟨m-1,by omega⟩
   rw[Y1y,rdF];by_cases hi:i<p.length
   . have hne:p.drop i≠ []:=fun e=>by have:=congrArg List.length e;rw [l04] at this;simp at this;omega
     obtain⟨E,J,K⟩:=lineL_size hne;rw[l04] at J;rw[if_pos Om,cut_from rfl Om,bsome,line_eq _ (by rw[l04];omega),bsome,if_neg hne];obtain⟨⟨s,n⟩,hl⟩ :∃q,lineL (p.drop i)=q:=⟨_,rfl⟩
     rw[hl] at E J K ⊢;dsimp only at E J K ⊢;have hadd:chk ((i:Int)+(n:Int))=some ((i+n:Nat):Int):=by rw[chk_ok Om Om];congr 1
     have hdrop:(p.drop i).drop n=p.drop (i+n):=by rw[l0G]
     cases s with
     | nil=>rw[if_pos rfl,if_pos rfl,hadd,bsome]
     | cons c s =>
       have hidx:idx (c::s) 0=some c:=rfl;rw[if_neg Sm,if_neg Sm,hidx,bsome,blank_eq,bsome,hdrop];by_cases hb:blk c=true/\out≠ []
       . have Z:=List.length_pos_iff.2 hb.2;have hlast:out[out.length-1]? = some out[out.length-1]:=List.getElem?_eq_getElem Om;have hm:=u.2 _ (l0D (show out.length-1<out.length by omega));have N:=u.1;have Y:((out.length:Int)-1)=((out.length-1:Nat):Int):=by omega
         have happ:appL out (c::s)=out.set (out.length-1) (out[out.length-1].1,out[out.length-1].2++(c::s)):=by unfold appL;rw [hlast]
         rw[if_pos hb.1,bsome,if_pos (decide_eq_true Om),if_pos (show isB (c::s)=true/\out≠ [] from hb),Y,chk_ok Om Om,bsome,idx_nat,hlast,bsome,cat_ok Om,bsome,bsome,put_ok Om Om,bsome,hadd,bsome,l0h,<-happ,
          ih (i+n) m _ Om Om Om (u.last K)]
         dsimp only;rw[l0U]
       have hcond:(if blk c=true then some (decide ((0:Int)<(out.length:Int))) else some false)=some false:=by
        by_cases hbc:blk c=true
        . rw[if_pos hbc];have:out=[]:=Classical.byContradiction fun e=>hb ⟨hbc,e⟩
          rw[this];rfl
        rw[if_neg hbc]
       rw[hcond,bsome,if_neg l00,if_neg (show ¬(isB (c::s)=true/\out≠ []) from hb)];obtain⟨x,b,hbe,hor⟩:=begins_eq (c::s) Om;rw[hbe,bsome];rcases hor with ⟨hn,rfl⟩|⟨hn,rfl⟩
       . rw[hn];dsimp only;rw [if_neg l00];rfl
       have hbl:=beg_len hn;have N:=u.1;rw[hn];dsimp only;rw[if_pos rfl,app_ok (by simp;omega),bsome,hadd,bsome,ih (i+n) m _ Om Om Om (u.app E (show x.2.length<=n by omega))];rw[l0U]
   have he:p.drop i=[]:=l0e Om;rw[if_neg Om,if_pos he];rfl
end Go.Ph.Hd
end
section
namespace Go.Ph.Hd
open Go.Ph.Pl Go.Ph.Pf Go.Ph.Wd
open Go.Ph.Qp (trimR bl chop)
open Go.Ph.Chs (lower)
def rp1 (c:UInt8):UInt8:=if c=0∨c=13 then 32 else c
def rplB (s:Ls):Ls:=s.map rp1
def cl (x:Fld):Fld:=(x.1,trimB (rplB x.2))
def longF (x:Fld):Bool:=decide (4000<(cl x).2.length)
def firstL (i:Nat):List Fld->Option Nat
 | []=>none
 | x::r=>if longF x=true then some i else firstL (i+1) r
def readR (p:Ls):List Fld × Int × (Int × Int) :=
 if 12000<p.length then([],0,(1,-1)) else if 60<(rdF p.length [] p).1.length then([],0,(2,-2))
  else match firstL 0 (rdF p.length [] p).1 with
   | some j=>([],0,(1,(j:Int)))
   | none=>((rdF p.length [] p).1.map cl,((rdF p.length [] p).2:Int),(0,0))
theorem rdF_ok :∀(d i:Nat) (out:List Fld) (t:Ls),okO out i->okO (rdF d out t).1 (i+t.length)/\(rdF d out t).2<=t.length
 | 0,i,out,t,h=>⟨h.more Om,l0o _⟩
 | d + 1,i,out,t,h=>by
   rw[rdF];by_cases ht:t=[]
   . rw[if_pos ht];exact ⟨h.more Om,l0o _⟩
   obtain⟨J,K,N⟩:=lineL_size ht;rw[if_neg ht];by_cases u:(lineL t).1=[]
   . rw[if_pos u];exact ⟨h.more Om,K⟩
   rw[if_neg u];by_cases E:isB (lineL t).1=true/\out≠ []
   . rw[if_pos E];obtain⟨a,b⟩:=rdF_ok d (i+(lineL t).2) (appL out (lineL t).1) (t.drop (lineL t).2) (h.last N);rw[l04] at a b;exact⟨a.more Om,by dsimp only;omega⟩
   rw[if_neg E];cases hb:beg (lineL t).1 with
   | none=>exact⟨h.more Om,l0o _⟩
   | some x =>
     have hx:=beg_len hb;obtain⟨a,b⟩:=rdF_ok d (i+(lineL t).2) (out++[x]) (t.drop (lineL t).2) (h.app J Om);rw[l04] at a b;exact⟨a.more Om,by dsimp only;omega⟩
theorem ok0 : okO [] 0:=⟨l07 _,fun x hx=>by cases hx⟩
end Go.Ph.Hd
end
section
namespace Go.Ph.Hd
open Go.Ph.Pl Go.Ph.Pf Go.Ph.Wd
open Go.Ph.Qp (trimR bl chop)
open Go.Ph.Chs (lower)
theorem wd_not :∀t:Ls,10∉t.take (wd t)
 | []=>by simp
 | c::t=>by
   rw[wd];by_cases hc:c=10
   . rw[if_pos hc];simp
   rw[if_neg hc,l1P];intro h;rcases List.mem_cons.1 h with h|h
   . exact hc h.symm
   exact wd_not t h
theorem lineL_not (t:Ls):10∉(lineL t).1:=by
 have hw:=wd_le t;have hn:=wd_not t;unfold lineL;split
 . dsimp only;unfold chop;split
   . exact fun h=>hn (List.dropLast_subset _ h)
   exact hn
 rw[l0x Om] at hn;exact hn
def okN (out:List Fld):Prop :=∀x∈out,nmL x.1=true/\10∉x.2
theorem okN.last {out:List Fld}{s:Ls}(h:okN out)(hs:10∉s):okN (appL out s):=by
 unfold appL;cases hx:out[out.length-1]? with
 | none=>exact h
 | some x =>
   have hm:=h x (l0M hx);intro y hy;rcases l2h hy with hy|rfl
   . exact h y hy
   exact⟨hm.1,by simp [hm.2,hs]⟩
theorem okN.app {out:List Fld}{s:Ls}{x:Fld}(h:okN out)(hs:10∉s)(hb:beg s=some x):okN (out++[x]):=by
 intro y hy;rcases List.mem_append.1 hy with hy|hy
 . exact h y hy
 rw[List.mem_singleton.1 hy];unfold beg at hb;split at hb
 . cases hb
 split at hb
 . rename_i hn;cases hb;exact⟨hn,fun e=>hs (List.mem_of_mem_drop e)⟩
 cases hb
theorem rdF_okN :∀(d:Nat) (out:List Fld) (t:Ls),okN out->okN (rdF d out t).1
 | 0,out,t,h=>h
 | d+1,out,t,h=>by
   have hl:=lineL_not t;rw[rdF];by_cases ht:t=[]
   . rw[if_pos ht];exact h
   rw[if_neg ht];by_cases u:(lineL t).1=[]
   . rw[if_pos u];exact h
   rw[if_neg u];by_cases E:isB (lineL t).1=true/\out≠ []
   . rw[if_pos E];exact rdF_okN d _ _ (h.last hl)
   rw[if_neg E];cases hb:beg (lineL t).1 with
   | none=>exact h
   | some x=>exact rdF_okN d _ _ (h.app hl hb)
theorem firstL_none :∀{l:List Fld} {i:Nat},firstL i l=none->∀x∈l,(cl x).2.length<=4000
 | [],i,h=>fun x hx=>by cases hx
 | y::r,i,h=>by
   rw[firstL] at h;split at h
   . cases h
   rename_i hy;intro x hx;rcases List.mem_cons.1 hx with rfl|hx
   . unfold longF at hy;rw [decide_eq_true_eq] at hy;omega
   exact firstL_none h x hx
end Go.Ph.Hd
end
section
namespace Go.Ph.Hd
open Go.Ph.Pl Go.Ph.Pf Go.Ph.Wd
open Go.Ph.Qp (trimR bl chop)
open Go.Ph.Chs (lower)
open Go.Ph.Fd (fl fl_flat fl_more fl_end pt pt_lt)
theorem rdF_more :∀(n m:Nat) (out:List Fld) (t:Ls),t.length<=n->t.length<=m->rdF n out t=rdF m out t:=by
 intro n;induction n with
 | zero =>
   intro m out t u E;obtain rfl:=l08 (Nat.le_zero.1 u);cases m with
   | zero=>rfl
   | succ m=>rw[rdF,rdF,if_pos rfl]
 | succ n ih =>
   intro m out t u E;by_cases ht:t=[]
   . subst ht;cases m with
     | zero=>rw[rdF,rdF,if_pos rfl]
     | succ m=>rw[rdF,rdF,if_pos rfl,if_pos rfl]
   obtain⟨J,K,N⟩:=lineL_size ht;have O:=List.length_pos_iff.2 ht;obtain⟨m,rfl⟩ :∃k,m=k+1:=⟨m-1,by omega⟩
   have key :∀o,rdF n o (t.drop (lineL t).2)=rdF m o (t.drop (lineL t).2):=fun o=>ih m o _ (by rw[l04];omega) (by rw[l04];omega)
   rw[rdF,rdF,key];cases beg (lineL t).1 with
   | none=>rfl
   | some x=>dsimp only;rw [key]
def rd (out:List Fld)(t:Ls):List Fld × Nat:=rdF t.length out t
theorem wd_crlf :∀(a r:Ls),10∉a->wd (a++13::10::r)=a.length+1
 | [],r,h=>rfl
 | c::a,r,h=>by
   simp only[l0S,not_or] at h;rw[l02,wd,if_neg (fun e=>h.1 e.symm),wd_crlf a r h.2];rfl
theorem lineL_crlf (a r:Ls)(h:10∉a):lineL (a++13::10::r)=(a,a.length+2):=by
 unfold lineL;rw[wd_crlf a r h,if_pos Sm];have:(a++13::10::r).take (a.length+1)=a++[13]:=by
  rw[l1M,l0x Om,show a.length+1-a.length=1 by omega];rfl
 rw[this];unfold chop;rw[if_pos Sm,l1J]
theorem crlf_app (a r:Ls):crlf a++r=a++13::10::r:=by unfold crlf;simp
theorem rd_unf (out:List Fld){t:Ls}(ht:t≠ []):rd out t=if (lineL t).1=[] then(out,(lineL t).2)
 else if isB (lineL t).1=true/\out≠ [] then((rd (appL out (lineL t).1) (t.drop (lineL t).2)).1,(lineL t).2+(rd (appL out (lineL t).1) (t.drop (lineL t).2)).2)
 else match beg (lineL t).1 with
  | some x=>((rd (out++[x]) (t.drop (lineL t).2)).1,(lineL t).2+(rd (out++[x]) (t.drop (lineL t).2)).2)
  | none=>(out,0):=by
 obtain⟨u,E,J⟩:=lineL_size ht;have K:=List.length_pos_iff.2 ht;obtain⟨n,hn⟩ :∃n,t.length=n+1:=⟨t.length-1,by omega⟩
 have key :∀o,rdF n o (t.drop (lineL t).2)=rd o (t.drop (lineL t).2):=fun o=>rdF_more n _ o _ (by rw[l04];omega) (l07 _)
 show rdF t.length out t=_
 rw[hn,rdF,if_neg ht,key];cases beg (lineL t).1 with
 | none=>rfl
 | some x=>dsimp only;rw [key]
theorem rd_drop (a r:Ls):(a++13::10::r).drop (a.length+2)=r:=by
 rw[l1N,l1q Om,show a.length+2-a.length=2 by omega];rfl
theorem rd_cont {out:List Fld}{a r:Ls}(ha:10∉a)(hb:isB a=true)(ho:out≠ []):rd out (crlf a++r)=((rd (appL out a) r).1,(crlf a).length+(rd (appL out a) r).2):=by
 have hne:a≠ []:=by rintro rfl;cases hb
 rw[crlf_app,rd_unf out Sm,lineL_crlf a r ha];dsimp only;rw[if_neg hne,if_pos ⟨hb,ho⟩,rd_drop];unfold crlf;simp
theorem rd_beg {out:List Fld}{a r:Ls}{x:Fld}(ha:10∉a)(hne:a≠ [])(hb:isB a=false)(hx:beg a=some x):rd out (crlf a++r)=((rd (out++[x]) r).1,(crlf a).length+(rd (out++[x]) r).2):=by
 rw[crlf_app,rd_unf out Sm,lineL_crlf a r ha];dsimp only;rw[if_neg hne,if_neg (by rw[hb];exact fun e=>l00 e.1),hx,rd_drop];unfold crlf;simp
theorem rd_stop {out:List Fld}{r:Ls}:rd out ([13,10]++r)=(out,2):=by
 have:=lineL_crlf [] r Sm;rw[l03] at this;rw[rd_unf out Sm];show(if (lineL (13::10::r)).1=[] then _ else _)=_
 have e:([13,10]++r:Ls)=13::10::r:=rfl;rw[e,this];rfl
theorem appL_last (out:List Fld)(n v a:Ls):appL (out++[(n,v)]) a=out++[(n,v++a)]:=by
 unfold appL;simp
theorem rd_conts (n:Ls)(r:Ls):∀(L:List Ls) (out:List Fld) (v:Ls),(∀a∈L,10∉a/\isB a=true)->
 rd (out++[(n,v)]) (L.flatMap crlf++r)=((rd (out++[(n,v++L.flatten)]) r).1,(L.flatMap crlf).length+(rd (out++[(n,v++L.flatten)]) r).2)
 | [],out,v,h=>by simp
 | a::L,out,v,h=>by
   obtain⟨u,E⟩:=h a Sm;rw[l0n,l0k,rd_cont u E Sm,appL_last,rd_conts n r L out (v++a) (fun x hx=>h x (by simp [hx]))];simp only[l0L,l0k,l05,l0U]
theorem bl_blk (c:UInt8):blk c=decide (bl c):=by
 have u:=blank_eq c;rw[Y2I] at u;exact(oI u).symm
theorem fl_first {s:Ls}{k:Nat}(hk:0<k)(hks:k<=s.length):∃a L,fl s k=a::L/\k<=a.length:=by
 by_cases h:78<s.length/\pt s k≠0
 . obtain⟨u,E,_⟩:=pt_lt hk h.2;exact⟨_,_,fl_more hk h,by rw[l0c];omega⟩
 exact⟨_,_,fl_end h,hks⟩
theorem nm_char {n:Ls}(h:nmL n=true):∀c∈n,¬bl c:=fun c hc hb=>by
 unfold nmL at h;rw[l0d,l2e] at h;have:=h.1 c hc;unfold nmB at this;rw[decide_eq_true_eq] at this;unfold bl at hb;omega
theorem trimR_name {n:Ls}(h:nmL n=true):trimR n=n:=by
 rcases snoc_cases n with rfl|⟨a,c,rfl⟩
 . rfl
 exact trimR_nb (nm_char h c Sm)
theorem rd_field {x:Fld}(hf:(faultR x.1 x.2).1=0)(out:List Fld)(r:Ls):
 rd out (fieldB x++r)=((rd (out++[(x.1,32::x.2)]) r).1,(fieldB x).length+(rd (out++[(x.1,32::x.2)]) r).2):=by
 obtain⟨_,J,h2,O,_⟩:=fault_zero hf;have K:=nmL_len J;obtain⟨U,v2⟩:=valB_split O;obtain⟨V,Y⟩:=nm_end J;have hsl:(fieldS x.1 x.2).length=x.1.length+2+x.2.length:=by unfold fieldS;simp;omega
 have hflat:=fl_flat (fieldS x.1 x.2).length (fieldS x.1 x.2) (x.1.length+2) Om (l07 _);have hhd:=fl_hd (fieldS x.1 x.2).length (fieldS x.1 x.2) (x.1.length+2) Om (l07 _);obtain⟨a,L,hfl,hka⟩:=fl_first (s:=fieldS x.1 x.2) (k:=x.1.length+2) Om Om;rw[hfl] at hflat hhd;rw[l0L] at hflat;have hend:(fieldS x.1 x.2).any endB=false:=by unfold fieldS;rw [l2z,l2z,V,U];rfl
 have hno :∀b∈a::L,10∉b:=fun b hb e=>by
  rw[l1v] at hend;refine hend 10 ?_ Dc;rw[<-hflat,<-l0L];exact List.mem_flatten.2 ⟨b,hb,e⟩
 obtain⟨E,u⟩ :∃E,a=x.1++58::32::E:=by
  refine⟨a.drop (x.1.length+2),?_⟩;have Z:a.take (x.1.length+2)=(fieldS x.1 x.2).take (x.1.length+2):=by rw[<-hflat,l1w hka]
  have e2:(fieldS x.1 x.2).take (x.1.length+2)=x.1++[58,32]:=by
   unfold fieldS;rw[l1w Sm,l0x Sm]
  conv=>lhs;rw [<-l0E (x.1.length+2) a,Z,e2]
  simp
 have hvv:E++L.flatten=x.2:=by
  have:x.1++([58,32]++(E++L.flatten))=x.1++([58,32]++x.2):=by
   unfold fieldS at hflat;rw[u] at hflat;simpa using hflat
  exact List.append_cancel_left (List.append_cancel_left this)
 have hbeg:beg a=some (x.1,32::E):=by
  have hix:ixB a 58=(x.1.length:Int):=by rw[u];exact ixB_name Y
  have ht:a.take x.1.length=x.1:=by rw[u];exact l1j
  have hd:a.drop (x.1.length+1)=32::E:=by
   rw[u,l1N,l1q Om,l03,show x.1.length+1-x.1.length=1 by omega];rfl
  unfold beg;rw[hix,if_neg Om,l0h,ht,trimR_name J,if_pos J,hd]
 have hane:a≠ []:=by rw[u];simp
 have hisB:isB a=false:=by
  rw[u];cases N:x.1 with
  | nil=>rw[N] at K;simp at K
  | cons c n =>
    show blk c=false
    rw[bl_blk,decide_eq_false (nm_char J c (by rw[N];simp))]
 have hL :∀b∈L,10∉b/\isB b=true:=fun b hb=>by
  refine⟨hno b (by simp [hb]),?_⟩;obtain⟨j,hj⟩:=List.getElem?_of_mem hb;have:=hhd j b (by rw[List.getElem?_cons_succ];exact hj);cases b with
  | nil=>cases this
  | cons c b =>
    show blk c=true
    rw[bl_blk];unfold Pf.hd at this;simpa only[Bool.not_eq_false'] using this
 unfold fieldB linesOf;rw[hfl,l0n,l0k,rd_beg (hno a Sm) hane hisB hbeg,rd_conts x.1 r L out (32::E) hL];simp only[l02,hvv,l05,l0U]
theorem rd_fields (r:Ls):∀(l out:List Fld),(∀x∈l,(faultR x.1 x.2).1=0)->rd out (l.flatMap fieldB++([13,10]++r))=(out++l.map (fun x=>(x.1,32::x.2)),(l.flatMap fieldB).length+2)
 | [],out,h=>by
   show rd out ([13,10]++r)=_
   rw[rd_stop];simp
 | x::l,out,h=>by
   rw[l0n,l0k,rd_field (h x Sm),rd_fields r l _ (fun y hy=>h y (by simp [hy]))];simp only[l0j,l0k,l1b,l05,l0U]
theorem cl_back {x:Fld}(hf:(faultR x.1 x.2).1=0):cl (x.1,32::x.2)=x:=by
 obtain⟨_,K,N,E,_⟩:=fault_zero hf;obtain⟨u,J⟩:=valB_split E;have e:rplB (32::x.2)=32::x.2:=by
  have hv:rplB x.2=x.2:=by
   unfold rplB
   conv=>rhs;rw [<-List.map_id x.2]
   apply l1O;intro c hc;rw[l1v] at u;have:=u c hc;unfold endB at this;unfold rp1;rw[if_neg];rfl;rintro(rfl|rfl)
   . exact this Dc
   exact this Dc
  show rp1 32::rplB x.2=_
  rw[hv];rfl
 unfold cl;dsimp only;rw[e];have:trimB (32::x.2)=x.2:=by unfold trimB;rw [trimL_pos Dc];exact J
 rw[this]
theorem firstL_of :∀{l:List Fld} {i:Nat},(∀x∈l,(cl x).2.length<=4000)->firstL i l=none
 | [],i,h=>rfl
 | x::r,i,h=>by
   rw[firstL,if_neg,firstL_of (fun y hy=>h y (by simp [hy]))];unfold longF;rw[decide_eq_true_eq];have:=h x Sm;omega
theorem read_back {l:List Fld}(h:(valR l).1=0)(r:Ls)(hs:(headB l++r).length<=12000):readR (headB l++r)=(l,((headB l).length:Int),(0,0)):=by
 obtain⟨_,u,hv⟩:=valR_zero h;have hr:rdF (headB l++r).length [] (headB l++r)=(l.map (fun x=>(x.1,32::x.2)),(headB l).length):=by
  have:=rd_fields r l [] hv;rw[l03] at this;show rd [] (headB l++r)=_
  unfold headB;rw[l0k,this,l05];rfl
 have hmap:(l.map (fun x:Fld=>(x.1,32::x.2))).map cl=l:=by
  rw[l1X]
  conv=>rhs;rw [<-List.map_id l]
  apply l1O;intro x hx;exact cl_back (hv x hx)
 unfold readR;rw[if_neg Om,hr];dsimp only;rw[l0l,if_neg Om,firstL_of,hmap];intro y hy;obtain⟨x,hx,rfl⟩:=List.mem_map.1 hy;rw[cl_back (hv x hx)];exact(fault_zero (hv x hx)).2.2.1
end Go.Ph.Hd
end
section
namespace Go.Ph.Hd
open Go.Ph.Pl Go.Ph.Pf Go.Ph.Wd
open Go.Ph.Chs (lower)
abbrev Fl : Type:=Ls × Ls
theorem idxL_eq (l:List Fl)(g:Fl->Option Bool)(p:Fl->Bool)(hl:l.length<=1000000)(hg :∀x∈l,g x=some (p x)):∀(d i m:Nat),l.length-i<=d->d<m->i<=l.length->
 idxL l g m (i:Int)=some (match (l.drop i).findIdx? p with|none => .inl ()|some k => .inr ((i+k:Nat):Int)):=by
 intro d;induction d with
 | zero =>
   intro i m u E J;obtain⟨m,rfl⟩ :∃k,m=k+1:=⟨m-1,by omega⟩
   rw[idxL,if_neg Om,l0e Om];rfl
 | succ d ih =>
   intro i m u E J;obtain⟨m,rfl⟩ :∃k,m=k+1:=⟨m-1,by omega⟩
   by_cases hi:i<l.length
   . rw[idxL,if_pos Om,idx_nat,List.getElem?_eq_getElem hi,bsome,hg _ (l0D hi),bsome,l0g hi,List.findIdx?_cons];by_cases hp:p l[i]=true
     . rw[if_pos hp,if_pos hp];rfl
     rw[if_neg hp,if_neg hp,chk_succ Om,bsome,ih (i+1) m Om Om Om];cases(l.drop (i+1)).findIdx? p with
     | none=>rfl
     | some k=>simp only[l0J];congr 3;omega
   rw[idxL,if_neg Om,l0e Om];rfl
theorem delL_eq (l:List Fl)(g:Fl->Option Bool)(p:Fl->Bool)(hl:l.length<=1000000)(hg :∀x∈l,g x=some (p x)):∀(d i j m:Nat) (q:List Fl),l.length-j<=d->d<m->i<j->j<=l.length->q.length=l.length->
 q.drop j=l.drop j->q.take i=(l.take j).filter (fun x => !p x)->∃J K,delL g m q (i:Int) (j:Int)=some (J,((K:Nat):Int))/\K<=J.length/\J.take K=l.filter (fun x => !p x):=by
 intro d;induction d with
 | zero =>
   intro i j m q U V Y Z N O u;obtain⟨m,rfl⟩ :∃k,m=k+1:=⟨m-1,by omega⟩
   refine⟨q,i,by rw[delL,if_neg Om],by omega,?_⟩;rw[u,l0x Om]
 | succ d ih =>
   intro i j m q U V Y Z N O u;obtain⟨m,rfl⟩ :∃k,m=k+1:=⟨m-1,by omega⟩
   by_cases hj:j<l.length
   . have hq:q[j]? = some l[j]:=by
      have E:(q.drop j)[0]? = q[j]? := by rw[List.getElem?_drop];rfl
      rw[<-E,O,List.getElem?_drop];exact List.getElem?_eq_getElem hj
     have hd:q.drop (j+1)=l.drop (j+1):=by
      have E:=congrArg (List.drop 1) O;rw[l0G,l0G] at E;exact E
     have htk:l.take (j+1)=l.take j++[l[j]]:=l0w hj;rw[delL,if_pos Om,idx_nat,hq,bsome,hg _ (l0D hj),bsome];by_cases hp:p l[j]=true
     . rw[if_pos hp,chk_succ Om,bsome];refine ih i (j+1) m q Om Om Om Om N hd ?_;rw[htk,l1V,u];simp [hp]
     rw[if_neg hp,put_ok Om Om,bsome,l0h,chk_succ Om,bsome,chk_succ Om,bsome];refine ih (i+1) (j+1) m _ Om Om Om Om (by rw[l0X];exact N) ?_ ?_
     . rw[List.drop_set_of_lt Om];exact hd
     rw[htk,l1V,<-u,l0w (by rw[l0X];omega),List.take_set_of_le (l07 _)];simp [hp]
   refine⟨q,i,by rw[delL,if_neg Om],by omega,?_⟩;rw[u,l0x Om]
theorem delFunc_eq (l:List Fl)(g:Fl->Option Bool)(p:Fl->Bool)(hl:l.length<=1000000)(hg :∀x∈l,g x=some (p x)):delFunc l g=some (l.filter fun x => !p x):=by
 have h:=idxL_eq l g p hl hg l.length 0 FU Om (by unfold FU;omega) Om;rw[l0H,l0t] at h;unfold delFunc idxFunc;rw[h,bsome];cases hf:l.findIdx? p with
 | none =>
   dsimp only;rw[bsome,if_pos rfl];have:=List.findIdx?_eq_none_iff.1 hf;rw[List.filter_eq_self.2];intro x hx;rw[this x hx];rfl
 | some k =>
   obtain⟨hk,hpk,hbef⟩:=List.findIdx?_eq_some_iff_getElem.1 hf;dsimp only;rw[bsome,l0r,if_neg Om,chk_succ Om,bsome];have htake:l.take k=(l.take (k+1)).filter (fun x => !p x):=by
    rw[l0w hk,l1V,List.filter_eq_self.2]
    . simp [hpk]
    intro x hx;obtain⟨n,hn,rfl⟩:=List.mem_take_iff_getElem.1 hx;have:=hbef n Om;simpa using this
   obtain⟨K,N,u,E,J⟩:=delL_eq l g p hl hg l.length k (k+1) FU l Om (by unfold FU;omega) Om Om rfl rfl htake;rw[u,bsome];dsimp only;rw[cut_to rfl E,J]
end Go.Ph.Hd
end
section
namespace Go.Ph.Hd
open Go.Ph.Pl Go.Ph.Pf Go.Ph.Wd
theorem read_L2 (J l : List Fld) (U:J.length=l.length) (hl:l.length<=1000) (hb :∀x∈l,x.2.length<=1000000) (u E:Int) :∀(d i m:Nat),l.length-i<=d->d<m->i<=l.length->
 Y1z J m u E ((l.take i).map cl++l.drop i) (i:Int)=some (match firstL i (l.drop i) with|some j => .inr ([],0,(1,(j:Int)))|none => .inl (u,E,l.map cl)):=by
 intro d;induction d with
 | zero =>
   intro i m K N O;obtain⟨m,rfl⟩ :∃k,m=k+1:=⟨m-1,by omega⟩
   rw[Y1z,if_neg Om,l0x Om,l0e Om,l0f];rfl
 | succ d ih =>
   intro i m K N O;obtain⟨m,rfl⟩ :∃k,m=k+1:=⟨m-1,by omega⟩
   by_cases hi:i<l.length
   . have hlen:((l.take i).map cl).length=i:=by rw[l0l,l0c];omega
     have hd:=l0g hi;have hat:((l.take i).map cl++l.drop i)[i]? = some l[i]:=by
      rw[List.getElem?_append_right Om,hlen,l1d,hd];rfl
     have hll:((l.take i).map cl++l.drop i).length=l.length:=by rw[l05,hlen,l04];omega
     have hnext:((l.take i).map cl++l.drop i).set i (l[i].1,trimB (rplB l[i].2))=(l.take (i+1)).map cl++l.drop (i+1):=by
      rw[l1c _ _ Om,hlen,l1d,hd,l1U,l0w hi,l0R,l0k];rfl
     have hbl:=hb l[i] (l0D hi);have hrl:(rplB l[i].2).length=l[i].2.length:=by unfold rplB;rw [l0l]
     have hrep:Y0G l[i].2=some (rplB l[i].2):=by unfold Y0G;rw [if_pos hbl];rfl
     have hfl:firstL i (l.drop i)=if longF l[i]=true then some i else firstL (i+1) (l.drop (i+1)):=by rw[hd,firstL]
     rw[Y1z,if_pos Om,idx_nat,hat,bsome,hrep,bsome,Y6b _ (by unfold Big;omega),bsome,hfl];unfold longF;by_cases hL:4000<(cl l[i]).2.length
     . rw [if_pos (by have:(trimB (rplB l[i].2)).length=(cl l[i]).2.length:=rfl
                      omega),if_pos (decide_eq_true hL),fault_eq,bsome]
     rw [if_neg (by have:(trimB (rplB l[i].2)).length=(cl l[i]).2.length:=rfl
                    omega),if_neg (by simpa using hL),bsome,put_ok Om Om,bsome,l0h,hnext,chk_succ Om,bsome]
     exact ih (i+1) m Om Om Om
   rw[Y1z,if_neg Om,l0x Om,l0e Om,l0f];rfl
theorem readH_eq (p:Ls):Y3E p=some (readR p):=by
 unfold Y3E readR;by_cases h:12000<p.length
 . rw[if_pos Om,if_pos h,fault_eq,bsome]
 have u:=read_L1 p Om p.length 0 FU [] Om (by unfold FU;omega) Om ok0;rw[l0H,l0t,l0r] at u;obtain⟨hok,hn⟩:=rdF_ok p.length 0 [] p ok0;obtain⟨⟨out,n⟩,hr⟩ :∃q,rdF p.length [] p=q:=⟨_,rfl⟩
 rw[hr] at u hok hn ⊢;dsimp only at u hok hn ⊢;rw[if_neg Om,u,bsome,if_neg h];dsimp only;by_cases E:60<out.length
 . rw[if_pos Om,if_pos E,fault_eq,bsome]
 have ht:=read_L2 out out rfl Om (fun x hx=>by have:=hok.2 x hx;omega) 0 0 out.length 0 FU Om (by unfold FU;omega) Om;rw[l0H,l1Y,l0t,l0I,l03] at ht;have hnew:Y2B ([[0],[32],[13],[32]]:List Ls)=some ():=rfl;rw[if_neg Om,if_neg E,hnew,bsome,ht,bsome];cases firstL 0 out with
 | some j=>rfl
 | none=>rfl
end Go.Ph.Hd
namespace Go.Ph.Wd
open Go.Ph.Pl Go.Ph.Pf Go.Ph.Hd
end Go.Ph.Wd
end
section
namespace Go.Ph.Sg
open Go.Ph.Pl Go.Ph.Pf Go.Ph.Wd Go.Ph.Hd
open Go.Ph.Chs (lowB lower)
abbrev Bt : Type:=Ls
abbrev Msg : Type:=List Fld × Bt
theorem allB {p:UInt8->Prop}(h :∀n,n<256->p (UInt8.ofNat n))(c:UInt8):p c:=by
 have:=h c.toNat c.toNat_lt;rwa [UInt8.ofNat_toNat] at this
theorem fail_eq (a b:Int):Y08 (a,b)=some (!decide (a=0)):=rfl
theorem flt_eq (a b:Int):Y03 a b=some (a,b):=by unfold Y03;rfl
theorem none_eq : Y0e=some (0,0):=rfl
theorem low_step (c:UInt8):(c+97)-65=c+32:=by
 refine allB (p:=fun c=>(c+97)-65=c+32) ?_ c;decide +kernel
theorem set_mid {α:Type}(f:α->α)(l:List α)(i:Nat)(h:i<l.length):((l.take i).map f++l.drop i).set i (f l[i])=(l.take (i+1)).map f++l.drop (i+1):=by
 have u:((l.take i).map f).length=i:=by rw[l0l,l0c];omega
 rw[l1c _ _ Om,u,l1d,drop_cons h,l1U,l0w h,l0R,l0k];rfl
theorem low_L1 (l:Bt)(hl:Big l):∀(k i m:Nat),l.length-i<=k->k<m->i<=l.length->Y1j l m ((l.take i).map lowB++l.drop i) (i:Int)=some (lower l):=by
 intro k;induction k with
 | zero =>
   intro i m u J K;obtain⟨m,rfl⟩ :∃k,m=k+1:=⟨m-1,by omega⟩
   obtain rfl:i=l.length:=by omega
   rw[Y1j,if_neg Om,l0y,l0B,l0f];rfl
 | succ k ih =>
   intro i m u J K;obtain⟨m,rfl⟩ :∃k,m=k+1:=⟨m-1,by omega⟩
   by_cases hi:i<l.length
   . have hlen:((l.take i).map lowB++l.drop i).length=l.length:=by rw[l05,l0l,l0c,l04];omega
     have hat:((l.take i).map lowB++l.drop i)[i]? = some l[i]:=by
      have u:((l.take i).map lowB).length=i:=by rw[l0l,l0c];omega
      rw[List.getElem?_append_right Om,u,l1d,List.getElem?_drop,l1a];exact List.getElem?_eq_getElem hi
     unfold Big at hl;rw[Y1j,if_pos Om,idx_nat,hat,bsome];have hset:=set_mid lowB l i hi;by_cases hc:65<=l[i].toNat/\l[i].toNat<=90
     . rw[if_pos hc.1,decide_eq_true hc.2,bsome,if_pos rfl,bsome,put_ok Om Om,bsome,chk_succ Om,bsome,low_step,l0h];have hlow:lowB l[i]=l[i]+32:=by unfold lowB;rw [if_pos hc]
       rw[<-hlow,hset];exact ih (i+1) m Om Om Om
     have hlow:lowB l[i]=l[i]:=by unfold lowB;rw [if_neg hc]
     rw[hlow] at hset;have hself:((l.take i).map lowB++l.drop i).set i l[i]=(l.take i).map lowB++l.drop i:=by
      refine l1k fun j=>?_
      by_cases hj:i=j
      . subst hj;rw [List.getElem?_set_self Om,hat]
      rw[List.getElem?_set_ne hj]
     rw[hself] at hset;have hb:(if 65<=l[i].toNat then some (decide (l[i].toNat<=90)) else some false)=some false:=by
      by_cases E:65<=l[i].toNat
      . rw[if_pos E,decide_eq_false (fun N=>hc ⟨E,N⟩)]
      rw[if_neg E]
     rw[hb,bsome,if_neg l00,chk_succ Om,bsome,hset];exact ih (i+1) m Om Om Om
   obtain rfl:i=l.length:=by omega
   rw[Y1j,if_neg Om,l0y,l0B,l0f];rfl
theorem low_eq {l:Bt}(hl:Big l):Y3l l=some (lower l):=by
 unfold Y3l;have hb:=hl;unfold Big at hb;rw[toB_ok Om,bsome];have:=low_L1 l hl l.length 0 FU Om (FU_gt Om) Om;rw[l1Y,l0I,l03,l0t] at this;rw[show ((0:Nat):Int)=0 from rfl] at this;rw[this,bsome]
theorem low_len (l:Bt):(lower l).length=l.length:=l0l ..
theorem same_eq {a b:Bt}(ha:Big a)(hb:Big b):Y0N a b=some (decide (lower a=lower b)):=by
 unfold Y0N;by_cases h:a.length=b.length
 . rw[if_pos Om,low_eq ha,bsome,low_eq hb,bsome,bsome]
 rw[if_neg Om,bsome,decide_eq_false];intro u;have:=congrArg List.length u;rw[low_len,low_len] at this;exact h this
end Go.Ph.Sg
end
section
namespace Go.Ph.Sg
open Go.Ph.Pl Go.Ph.Pf Go.Ph.Wd Go.Ph.Hd
open Go.Ph.Chs (lowB lower)
theorem index_bound :∀(s sub:Bt) {j:Nat},Lib.index s sub=(j:Int)->j+sub.length<=s.length
 | [],sub,j,h=>by
   rw[Lib.index] at h;split at h
   . rename_i he;have:sub=[]:=List.isEmpty_iff.1 he;subst this;simp at h ⊢;omega
   omega
 | b :: s,sub,j,h=>by
   rw[Lib.index] at h;split at h
   . rename_i he;have:=(List.isPrefixOf_iff_prefix.1 he).length_le;omega
   split at h
   . omega
   rename_i hne;have hge:=Lib.index_ge s sub;have u:Lib.index s sub≠-1:=by simpa using hne
   obtain⟨k,hk⟩ :∃k:Nat,Lib.index s sub=(k:Int):=⟨(Lib.index s sub).toNat,by omega⟩
   have:=index_bound s sub hk;rw[l01];omega
theorem cut_all {α:Type}(l:List α):cut l 0 (l.length:Int)=some l:=by
 have:=cut_from (l:=l) (i:=0) (a:=0) rfl Om;rwa [l0t] at this
theorem mw_L2 (L:List Bt)(o:Bt)(hL :∀a∈L,a.length<=998)(hl:L.length<=5000)(ho:o.length<=1000000):Y15 L FU o 0=some (o++L.flatMap crlf):=by
 rw[foldI0 (L:=fun m s i=>Y15 L m s i) L (fun o a=>o++crlf a) id (fun i s=>s.length<=o.length+1000*i) Om ?_ ?_ o Sm,foldl_app]
 . rfl
 . intro m s hs;rw[Y15,if_neg Om];rfl
 intro m s i a ha hs;have hi:=(List.getElem?_eq_some_iff.1 ha).1;have u:=hL a (l0M ha);refine⟨by unfold crlf;simp only[l05,l01,l0a];omega,?_⟩;rw[Y15,if_pos Om,idx_nat,ha,bsome,app_ok Om,bsome,app_ok (by simp only[l05,l01,l0a];omega),bsome,chk_succ Om,bsome];unfold crlf;rw[l0k]
theorem mw_L1 (p:Msg)(hl:p.1.length<=60)(h :∀x∈p.1,(faultR x.1 x.2).1=0):Y16 p FU [] 0=some (p.1.flatMap fieldB):=by
 rw[foldI0 (L:=fun m s i=>Y16 p m s i) p.1 (fun o x=>o++fieldB x) id (fun i s=>s.length<=13000*i) Om ?_ ?_ [] Sm,foldl_app]
 . rfl
 . intro m s hs;rw[Y16,if_neg Om];rfl
 intro m s i x hx hs;have hi:=(List.getElem?_eq_some_iff.1 hx).1;have hm:=h x (l0M hx);obtain⟨N,O,U,V⟩:=field_sizes hm;obtain⟨u,E,Y,Z,J⟩:=fault_zero hm;have K:=Pf.nmL_len E;refine⟨by rw[l05];omega,?_⟩;rw[Y16,if_pos Om,idx_nat,hx,bsome,Y5a _ _ (by unfold Big;omega) (by unfold Big;omega),u,bsome];dsimp only;rw[mw_L2 _ _ J Om Om,bsome,chk_succ Om,bsome];rfl
theorem mw_eq (p:Msg)(h:(valR p.1).1=0)(hb:p.2.length<=140737488355328):Y1P p=some (p.1.flatMap fieldB++[13,10]++p.2):=by
 obtain⟨J,u,E⟩:=valR_zero h;have hl:=headB_len u E;unfold Y1P;rw[mw_L1 p u E,bsome,app_ok (by simp only[l01,l0a];omega),bsome,app_ok1 (by simp only[l05,l01,l0a];omega),bsome]
theorem body_L1 (l:Bt)(hl:l.length<=140737488355328):∀(k i m c:Nat),l.length-i<=k->k<m->i<=l.length->c<=i->∃o,Y0c l m (c:Int) (i:Int)=some o:=by
 intro k;induction k using Nat.strongRecOn with
 | _ k ih =>
   intro i m c Z h2 h3 h4;obtain⟨m,rfl⟩ :∃k,m=k+1:=⟨m-1,by omega⟩
   rw[Y0c];by_cases hi:i<l.length
   . rw [if_pos Om,idx_nat,List.getElem?_eq_getElem hi,bsome];have hb :∃b,(if l[i]=13 then(chk ((i:Int)+1)).bind fun K=>(if K<(l.length:Int) then(chk ((i:Int)+1)).bind fun N=>(idx l N).bind fun O=>some (decide (O=10)) else some false) else some false)=some b/\(b=true->i+1<l.length):=by
      by_cases E:l[i]=13
      . rw[if_pos E,chk_succ Om,bsome];by_cases u:i+1<l.length
        . rw[if_pos Om,bsome,idx_nat,List.getElem?_eq_getElem u,bsome];exact ⟨_,rfl,fun _=>u⟩
        rw[if_neg Om];exact ⟨_,rfl,fun h=>by cases h⟩
      rw[if_neg E];exact ⟨_,rfl,fun h=>by cases h⟩
     obtain⟨b,U,V⟩:=hb;rw[U,bsome];cases b with
     | true =>
       have u:=V rfl;rw[if_pos rfl,chk_succ Om,bsome,chk_succ Om,bsome];exact ih (l.length-(i+1+1)) Om (i+1+1) m 0 (l07 _) Om Om Om
     | false =>
       rw[if_neg l00];obtain⟨J,Y⟩ :∃J,(if l[i]=13 then some true else some (decide (l[i]=10)))=some J:=by split <;> exact⟨_,rfl⟩
       rw[Y,bsome];cases J with
       | true=>rw[if_pos rfl];exact ⟨_,rfl⟩
       | false =>
         rw[if_neg l00,chk_succ Om,bsome];split
         . exact⟨_,G⟩
         rw[chk_succ Om,bsome];exact ih (l.length-(i+1)) Om (i+1) m (c+1) (l07 _) Om Om Om
   rw[if_neg Om];exact ⟨_,rfl⟩
theorem body_tot (l:Bt)(hl:l.length<=140737488355328):∃a b,Y2T l=some (a,b):=by
 unfold Y2T Y2s;obtain⟨o,ho⟩:=body_L1 l hl l.length 0 FU 0 Om (FU_gt Om) Om Om;have ho':Y0c l FU 0 0=some o:=ho;rw[ho',bsome];have fin :∀E:Int,∃a b,(if E=11 then(Y03 11 (-5)).bind fun x=>some (x.1,x.2) else if E=1 then(Y03 1 (-6)).bind fun x=>some (x.1,x.2) else Y0e.bind fun x=>some (x.1,x.2))=some (a,b):=fun E=>by
  rw[flt_eq,flt_eq,none_eq,bsome,bsome,bsome];split
  . exact⟨_,_,G⟩
  split <;> exact⟨_,_,rfl⟩
 cases o with
 | inl u=>exact fin 0
 | inr n=>exact fin n
theorem mvalid (m:Msg)(hb:BigF m.1)(hm:m.2.length<=140737488355328):∃a b,Y0A m=some (a,b)/\(a=0->(valR m.1).1=0/\m.2.length<=12000):=by
 unfold Y0A;rw[validate_eq m.1 hb,bsome];obtain⟨⟨a,b⟩,hv⟩ :∃p,valR m.1=p:=⟨_,rfl⟩
 rw[hv];dsimp only;rw[fail_eq,bsome];by_cases ha:a=0
 . have E:(valR m.1).1=0:=by rw[hv];exact ha
   rw[decide_eq_true ha,if_neg Dc,mw_eq (m.1,m.2) E hm,bsome];obtain⟨x,y,hxy⟩:=body_tot m.2 hm;by_cases u:(12000:Int)<((m.1.flatMap fieldB++[13,10]++m.2).length:Int)
   . rw[if_pos u,flt_eq,bsome];exact⟨_,_,G,fun h=>by cases h⟩
   rw[if_neg u,hxy,bsome];refine⟨_,_,G,fun _=>⟨by simpa using ha,?_⟩⟩;rw[l05] at u;omega
 rw[decide_eq_false ha,if_pos Dc];exact⟨_,_,G,fun h=>absurd h ha⟩
theorem sq_L1 (s:Bt)(hs:s.length<=1000000):∀(k i m:Nat) (o:Bt),s.length-i<=k->k<m->i<=s.length->o.length<=i->∃r,Y0k s m o (i:Int)=some r/\r.length<=s.length:=by
 intro k;induction k with
 | zero =>
   intro i m o N O U V;obtain⟨m,rfl⟩ :∃k,m=k+1:=⟨m-1,by omega⟩
   rw[Y0k,if_neg Om];exact ⟨_,rfl,by omega⟩
 | succ k ih =>
   intro i m o N O U V;obtain⟨m,rfl⟩ :∃k,m=k+1:=⟨m-1,by omega⟩
   rw[Y0k];by_cases hi:i<s.length
   . rw [if_pos Om,idx_nat,List.getElem?_eq_getElem hi,bsome,Y2I,bsome];obtain⟨q,hq⟩ :∃q:UInt8 ⊕ Unit,(if decide (Go.Ph.Qp.bl s[i])=true then((if (0:Int)<(o.length:Int) then(chk ((o.length:Int)-1)).bind fun E=>(idx o E).bind fun J=>some (decide (J=32)) else some false)).bind fun K=>(if K=true then some (.inr ()) else some (.inl 32)) else some (.inl s[i]))=some q:=by
      split
      . by_cases ho:0<o.length
        . rw[if_pos Om,chk_pred Om Om,bsome,idx_nat,List.getElem?_eq_getElem Om,bsome,bsome];split <;> exact⟨_,rfl⟩
        rw[if_neg Om,bsome];exact ⟨_,rfl⟩
      exact⟨_,G⟩
     rw[hq,bsome];cases q with
     | inl c =>
       dsimp only;rw[app_ok (by simp only[l01,l0a];omega),bsome,chk_succ Om,bsome];exact ih (i+1) m _ Om Om Om (by simp only[l05,l01,l0a];omega)
     | inr u =>
       dsimp only;rw[chk_succ Om,bsome];exact ih (i+1) m _ Om Om Om Om
   rw[if_neg Om];exact ⟨_,rfl,by omega⟩
theorem trim_tot (a:Bt)(ha:a.length<=1000000):∃r,Y1r a [32]=some r/\r.length<=a.length:=by
 unfold Y1r Y0T Y0h;by_cases h:1<=a.length
 . have u:(([32]:Bt).length:Int)<=(a.length:Int):=by simp;omega
   rw[if_pos u,show (a.length:Int)-(([32]:Bt).length:Int)=((a.length-1:Nat):Int) by simp;omega,chk_ok Om Om,bsome,cut_from rfl Om,bsome,bsome,bsome];split
   . rw[bsome,cut_to rfl Om,bsome,bsome];exact⟨_,G,by rw[l0c];omega⟩
   exact⟨_,by rw[bsome],l07 _⟩
 have u :¬(([32]:Bt).length:Int)<=(a.length:Int):=by simp;omega
 rw[if_neg u,bsome,bsome,if_neg l00,bsome];exact⟨_,G,l07 _⟩
theorem sq_tot (s:Bt)(hs:s.length<=1000000):∃r,Y1F s=some r/\r.length<=s.length:=by
 unfold Y1F;obtain⟨a,E,K⟩:=sq_L1 s hs s.length 0 FU [] Om (FU_gt Om) Om Sm;have u:Y0k s FU [] 0=some a:=E;obtain⟨r,J,N⟩:=trim_tot a Om;rw[u,bsome,J,bsome];exact⟨_,G,by omega⟩
theorem rep2_len (n:Nat):(Lib.repeatL ([13,10]:Bt) n).length=2*n:=by
 induction n with
 | zero=>rfl
 | succ n ih =>
   rw[Lib.repeatL];simp only[l05,l01,l0a,ih];omega
theorem step_tot (x o:Bt)(n:Nat)(hx:x.length<=100000)(hn:n<=100000)(ho:o.length<=100000):∃(o':Bt) (n':Nat),Y1x (o,(n:Int)) x=some (o',(n':Int))/\o'.length+2*n'<=o.length+2*n+x.length+2:=by
 unfold Y1x;dsimp only;obtain⟨s,u,E⟩:=sq_tot x Om;rw[u,bsome];by_cases hs:s=[]
 . rw[if_pos hs,chk_succ Om,bsome];exact⟨o,n+1,G,by omega⟩
 have hr:=rep2_len n;rw[if_neg hs];unfold Y2f;rw[if_pos ⟨by omega,by omega,by simp;omega⟩,bsome,l0h,cat_ok Om,bsome,cat_ok (by simp only[l05,l01,l0a];omega),bsome,app_ok (by simp only[l05,l01,l0a];omega),bsome];refine⟨_,0,G,?_⟩;simp only[l05,l01,l0a];omega
theorem cfield_tot (x:Fld)(E:x.1.length<=60)(J:x.2.length<=4000):∃r,Y2Y x=some r/\r.length<=4100:=by
 unfold Y2Y;obtain⟨s,u,K⟩:=sq_tot x.2 Om;have hl:=low_len x.1;rw[low_eq (by unfold Big;omega),bsome,cat_ok (by simp only[l01,l0a];omega),bsome,u,bsome,cat_ok (by simp only[l05,l01,l0a];omega),bsome,cat_ok (by simp only[l05,l01,l0a];omega),bsome];exact⟨_,G,by simp only[l05,l01,l0a];omega⟩
def okL (l:List Fld):Prop :=∀x∈l,x.1.length<=60/\x.2.length<=4000
theorem okL_of {l:List Fld}(h:(valR l).1=0):okL l/\l.length<=60/\BigF l:=by
 obtain⟨_,u,E⟩:=valR_zero h;have hk:okL l:=fun x hx=>by
  obtain⟨_,J,K,_,_⟩:=fault_zero (E x hx);exact⟨(Pf.nmL_len J).2,K⟩
 exact⟨hk,u,fun x hx=>by have:=hk x hx;unfold Big;omega⟩
end Go.Ph.Sg
end
end
