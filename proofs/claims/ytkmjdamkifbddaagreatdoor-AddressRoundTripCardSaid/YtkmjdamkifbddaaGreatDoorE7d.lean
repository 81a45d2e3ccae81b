/-
  Fct2, Fct3, Fct4: own texts of this repository (wip/tpl, wip/plans), merged and shaken by wip/tools/pack.py.
-/
import Derived.KernelRfl
import Derived.Test.YtkmjdamkifbddaaGreatDoorE7c
set_option maxRecDepth 100000
set_option linter.unusedVariables false
set_option linter.unusedSimpArgs false
section
namespace Go.Proofs.YtkmjdamkifbddaaGreatDoor
open Go Go.RowKit Go.Ph Go.Ph.Pl Go.Ph.Pf
theorem Y2z {p0:List (Ls × Bool × List (Ls × Ls × Ls))}{vp0:Value}{r:(Int × Int)}(h:Y1T p0=some r):Ct Tryz.prog 12 [vp0] (fun M=>GlF (fun w =>∃m,w.cell? ⟨2,0,none⟩=some (.int .i64 m)) M∧Tabs M∧SlR xrl34 M vp0 p0) (fun v M=>v=Value.agg #[I r.1,I r.2]):=by
 refine Ct.of Tryz.func12 (enters Tryz.func12 Kr G) G G G ?_;intro w0 M0 H hp;obtain⟨gM,gT,hp0⟩:=hp;unfold Y1T at h;refine SQ (RG (q0j [_,_] H Tz27 G (q00 G) G ?_));intro bk2 w H;refine NL (TN (SQ (RG (AS G G (NL (TN (SQ (SQ (RG (MV G G (ST (q1v Tu22 hp0 G) G (MV G G (NL (TN ?_))))))))))))));obtain⟨o1,e2,h⟩:=bnd h;refine q0h (fun e w =>∃(n3:Int) (M:Mem),e=[(0,vp0),(2,ptr bk2 0),(3,I n3)]∧St w0 M0 M [.blk bk2 (.cells #[I 0,I 0] 27)] w∧GlF (fun w =>∃m,w.cell? ⟨2,0,none⟩=some (.int .i64 m)) M∧Tabs M∧SlR xrl34 M vp0 p0∧some n3=some o1) [] ?_ ?_ (trivial)
 ·
  refine BL (q0A (fun m e w =>∃(n4:Int) (n5:Int) (M:Mem),e=[(0,vp0),(2,ptr bk2 0),(3,I n4),(9,vp0),(10,I (p0.length:Int)),(11,I n5)]∧St w0 M0 M [.blk bk2 (.cells #[I 0,I 0] 27)] w∧GlF (fun w =>∃m,w.cell? ⟨2,0,none⟩=some (.int .i64 m)) M∧Tabs M∧SlR xrl34 M vp0 p0∧Y10 p0 m n4 n5=some o1) FU [(0,_),(2,_),(3,_),(9,_),(10,_),(11,_)] ⟨rfl,rfl,rfl,rfl,rfl,rfl,trivial⟩ ⟨_,_,_,rfl,H,gM,gT,hp0,e2⟩ ?_);rintro m6 e w ⟨n4,n5,M,rfl,H,gM,gT,hp0,e2⟩;rcases m6 with _|m6
  · rw[Y10] at e2;cases e2
  rw[Y10] at e2;refine SQ (RG (ST (q0n G G) G (NL (TN (SQ ?_)))));refine CB (p:=n5<(p0.length:Int)) G (fun hk7=>?_) fun hk7=>?_
  ·
   rw[if_pos hk7] at e2;refine SK (TN (SQ (BL (SQ ?_))));obtain⟨a8,hxa8,e2⟩:=bnd e2;obtain⟨bk13,o13,fq13,ha13,hc13,hr13⟩:=hp0.atC hxa8;obtain⟨f13_0,f13_1,q13_2⟩:=fq13;replace hr13:f13_0=a8.1∧f13_1=a8.2.1∧SlS M 3 xenc24 (hv q13_2) a8.2.2:=hr13;obtain⟨rfl,rfl,hs13_2⟩:=hr13;refine RG (ST (q0u ha13 Tu22 Ts34 G G) G (ST (q1i H G hc13 Ta34 Ts34 Kf) G ?_));refine q0j [_,_,_] H Tz34 G (q00 G) G ?_;intro bk5 w H;refine q0c [_,_,_] H G G G Ku Ts34 G Kf (by simp only[l0H,l2d,(hs13_2).one.2];rfl) (q00 G) ?_;intro w H;refine NL (TN (RG (MV G G (ST (q03 Tu34 G Ts30 Dc G) G (ST (XL H Ta30) G ?_)))));refine ST (q1o Tu30 hs13_2 G) G (ST (Ex.add G G) G (AS G G (NL (IB (TN ?_)))));obtain⟨n9,hxn9,e2⟩:=bnd e2;refine RG (ST (q0p G G hxn9) G (MV G G (NL ?_)));exact AG m6 ⟨_,_,_,G,(H.pick (L':=[.blk bk2 (.cells #[I 0,I 0] 27)]) Kp),gM,gT,hp0,e2⟩ (l0b _)
  rw[if_neg hk7] at e2;refine q0m (q06 (q06 (q0d ?_)));exact MN ⟨_,_,G,H,gM,gT,hp0,e2⟩
 rintro e w ⟨n3,M,rfl,H,gM,gT,hp0,q10⟩;obtain rfl:=oI q10;refine TN (SQ (SQ ?_));obtain⟨o11,e12,h⟩:=bnd h;refine q0h (fun e w =>∃(b13:Bool) (M:Mem),e=[(0,vp0),(2,ptr bk2 0),(27,Value.bool b13)]∧St w0 M0 M [.blk bk2 (.cells #[I 0,I 0] 27)] w∧GlF (fun w =>∃m,w.cell? ⟨2,0,none⟩=some (.int .i64 m)) M∧Tabs M∧SlR xrl34 M vp0 p0∧some b13=some o11) [] ?_ ?_ (trivial)
 ·
  refine RG (MV G G (ST (q1v Tu22 hp0 G) G ?_));by_cases hk14:(60:Int)<(p0.length:Int)
  ·
   rw[if_pos hk14] at e12;refine DT hk14 (q0E G G) G (MV G G (GT G G G (GT G G G (PT G G G (NL ?_)))));exact MN ⟨_,_,G,H,gM,gT,hp0,e12⟩
  rw[if_neg hk14] at e12;refine DF hk14 (q0E G G) G (MV G G (SG (q01 G) G G G (SG (q0E G G) G G G (PF G G G (NL ?_)))));exact MN ⟨_,_,G,H,gM,gT,hp0,e12⟩
 rintro e w ⟨b13,M,rfl,H,gM,gT,hp0,q15⟩;obtain rfl:=oI q15;refine TN ?_;refine q0k G (fun hk16=>?_) (fun hk16=>?_)
 ·
  subst hk16;rw[if_pos rfl] at h;refine SQ ?_;obtain⟨⟨n17,n18⟩,hx19,h⟩:=bnd h;try dsimp only at h
  refine RG (q05 H (Y07 hx19) G trivial (q00 G) G ?_);intro v28 M w H hle hR;try dsimp only at hR
  obtain rfl:=hR;refine q0c [_,_] H G G G Ku Ts27 G Kf Kf (q00 G) ?_;intro w H;refine NL (TN (RT ?_));obtain rfl:=oI h;exact q07 G ⟨_,G,H.loadAgg Km Ta27 Ts27 Kf⟩ H.ext G
 subst hk16;rw[if_neg l06] at h;refine SK (TN (SQ (SQ (RG (MV G G (ST (q1v Tu22 hp0 G) G (MV G G (NL (TN ?_)))))))));obtain⟨o20,e21,h⟩:=bnd h;refine q0h (fun e w =>∃(n22:Int) (n23:Int) (M:Mem),e=[(2,ptr bk2 0)]∧St w0 M0 M [.blk bk2 (.cells #[I n22,I n23] 27)] w∧GlF (fun w =>∃m,w.cell? ⟨2,0,none⟩=some (.int .i64 m)) M∧Tabs M∧some (.inl (n22,n23))=some o20) [] ?_ ?_ (trivial)
 ·
  refine BL (q0A (fun m e w =>∃(n24:Int) (n25:Int) (n26:Int) (M:Mem),e=[(2,ptr bk2 0),(29,vp0),(30,I (p0.length:Int)),(31,I n26)]∧St w0 M0 M [.blk bk2 (.cells #[I n24,I n25] 27)] w∧GlF (fun w =>∃m,w.cell? ⟨2,0,none⟩=some (.int .i64 m)) M∧Tabs M∧SlR xrl34 M vp0 p0∧Y11 p0 m n24 n25 n26=some o20) FU [(2,_),(29,_),(30,_),(31,_)] ⟨rfl,rfl,rfl,rfl,trivial⟩ ⟨_,_,_,_,rfl,H,gM,gT,hp0,e21⟩ ?_);rintro m27 e w ⟨n24,n25,n26,M,rfl,H,gM,gT,hp0,e21⟩;rcases m27 with _|m27
  · rw[Y11] at e21;cases e21
  rw[Y11] at e21;refine SQ (RG (ST (q0n G G) G (NL (TN (SQ ?_)))));refine CB (p:=n26<(p0.length:Int)) G (fun hk28=>?_) fun hk28=>?_
  ·
   rw[if_pos hk28] at e21;refine SK (TN (SQ (BL (SQ ?_))));obtain⟨a29,hxa29,e21⟩:=bnd e21;obtain⟨bk34,o34,fq34,ha34,hc34,hr34⟩:=hp0.atC hxa29;obtain⟨f34_0,f34_1,q34_2⟩:=fq34;replace hr34:f34_0=a29.1∧f34_1=a29.2.1∧SlS M 3 xenc24 (hv q34_2) a29.2.2:=hr34;obtain⟨rfl,rfl,hs34_2⟩:=hr34;refine RG (MV G G (ST (q0u ha34 Tu22 Ts34 G G) G (ST (q1i H G hc34 Ta34 Ts34 Kf) G ?_)));refine q0j [_,_,_] H Tz34 G (q00 G) G ?_;intro bk7 w H;refine AS G G (q0c [_,_,_] H G G G Ku Ts34 G Kf (by simp only[l0H,l2d,(hs34_2).one.2];rfl) (q00 G) ?_);intro w H;refine NL (TN (SQ ?_));obtain⟨n30,hx31,e21⟩:=bnd e21;refine RG (ST (q0w H G Km Ta34 Ts34 Kf) G ?_);refine q05 H (Y4W hx31) G ⟨gM,gT,hs34_2⟩ (q00 G) G ?_;intro v37 M w H hle hR;replace gM:=gM.mono hle;replace gT:=gT.mono hle;replace hp0:=hp0.mono hle;obtain rfl:=hR;refine AS G G (NL (TN (SQ (RG (MV G G (ST (q1p G G) G (NL (TN ?_))))))));refine q0k G (fun hk32=>?_) (fun hk32=>?_)
   ·
    replace hk32 :¬(n30=(0:Int)):=of_not_decide hk32;rw[if_neg hk32] at e21;refine SQ ?_;obtain⟨⟨n33,n34⟩,hx35,e21⟩:=bnd e21;try dsimp only at e21
    refine RG (MV G G (MV G G (q05 H (Y07 hx35) G trivial (q00 G) G ?_)));intro v42 M w H hle hR;try dsimp only at hR
    obtain rfl:=hR;refine q0c [_,_] H G G G Ku Ts27 G Kf Kf (q00 G) ?_;intro w H;refine NL (TN (RT ?_));obtain rfl:=oI e21;try dsimp only at h
    obtain rfl:=oI h;exact q07 G ⟨_,G,H.loadAgg Km Ta27 Ts27 Kf⟩ H.ext G
   replace hk32:n30=(0:Int):=of_not_decide' hk32;rw[if_pos hk32] at e21;refine SK (IB (TN ?_));obtain⟨n36,hxn36,e21⟩:=bnd e21;refine RG (ST (q0p G G hxn36) G (MV G G (NL ?_)));exact AG m27 ⟨_,_,_,_,G,(H.pick (L':=[.blk bk2 (.cells #[I n24,I n25] 27)]) Kp),gM,gT,hp0,e21⟩ (l0b _)
  rw[if_neg hk28] at e21;refine q0m (q06 (q06 (q0d ?_)));exact MN ⟨_,_,_,G,H,gM,gT,e21⟩
 rintro e w ⟨n22,n23,M,rfl,H,gM,gT,q37⟩;obtain rfl:=oI q37;try dsimp only at h
 refine TN (SQ ?_);obtain⟨⟨n38,n39⟩,hx40,h⟩:=bnd h;try dsimp only at h
 refine RG (q05 H (Y0L hx40) G trivial (q00 G) G ?_);intro v44 M w H hle hR;try dsimp only at hR
 obtain rfl:=hR;refine q0c [_,_] H G G G Ku Ts27 G Kf Kf (q00 G) ?_;intro w H;refine NL (TN (RT ?_));obtain rfl:=oI h;exact q07 G ⟨_,G,H.loadAgg Km Ta27 Ts27 Kf⟩ H.ext G
theorem Y3c {p0:UInt8}{r:Bool}(h:Y2u p0=some r):Ct Tryz.prog 80 [encB p0] (fun M=>True) (fun v M=>v=Value.bool r):=by
 refine Ct.of Tryz.func80 (enters Tryz.func80 Kr G) G G G ?_;intro w0 M0 H hp;unfold Y2u at h;refine SQ (RG (AS G G (NL (TN (SQ ?_)))));obtain⟨o1,e2,h⟩:=bnd h;refine q0h (fun e w =>∃(b3:Bool) (M:Mem),e=[(2,Value.bool b3)]∧St w0 M0 M [] w∧some b3=some o1) [] ?_ ?_ (trivial)
 ·
  obtain⟨b4,hx5,e2⟩:=bnd e2;refine RG (MV G G (q05 H (Y3I hx5) G trivial (q00 G) G ?_));intro v4 M w H hle hR;obtain rfl:=hR;refine MV G G ?_;rcases b4 with _|_
  ·
   rw[if_neg l06] at e2;obtain⟨n6,hx7,e2⟩:=bnd e2;refine SG (q01 G) G G G (q05 H (Y2p hx7) G trivial (q04 G G G) G ?_);intro v7 M w H hle hR;obtain rfl:=hR;refine SG (q1a G G) G G G (PF G G G (AS G G (NL ?_)));exact MN ⟨_,_,G,H,e2⟩
  rw[if_pos rfl] at e2;refine q0i 3 G G (PT G G G (AS G G (NL ?_)));exact MN ⟨_,_,G,H,e2⟩
 rintro e w ⟨b3,M,rfl,H,q8⟩;obtain rfl:=oI q8;refine TN (RT ?_);obtain rfl:=oI h;exact q07 G G H.ext G
theorem Y3Z {p0:Ls}{r:Bool}(h:Y1Y p0=some r):Ct Tryz.prog 93 [S p0] (fun M=>GlF (fun w =>∃m,w.cell? ⟨2,0,none⟩=some (.int .i64 m)) M∧Tabs M) (fun v M=>v=Value.bool r):=by
 refine Ct.of Tryz.func93 (enters Tryz.func93 Kr G) G G G ?_;intro w0 M0 H hp;obtain⟨gM,gT⟩:=hp;unfold Y1Y at h;refine SQ (RG (AS G G (NL (TN (SQ ?_)))));obtain⟨b1,hx2,h⟩:=bnd h;refine RG (MV G G (q05 H (Y49 hx2) G ⟨gM,gT,(⟨⟨G,G⟩,(fun _ _ h=>FnV.of (Y3c h) (fun _ _=>trivial))⟩:FnT90 _ _ _)⟩ (q00 G) G ?_));intro v4 M w H hle hR;obtain rfl:=hR;refine AS G G (NL (TN (RT ?_)));obtain rfl:=oI h;exact q07 G G H.ext G
theorem Y3l {p0:Ls}{r:Ls}(h:Y2k p0=some r):Ct Tryz.prog 81 [S p0] (fun M=>True) (fun v M=>v=S r):=by
 refine Ct.of Tryz.func81 (enters Tryz.func81 Kr G) G G G ?_;intro w0 M0 H hp;unfold Y2k at h;refine SQ (RG (AS G G (NL (TN (SQ ?_)))));obtain⟨_,hx1,h⟩:=bnd h;obtain⟨s2,hxs2,h⟩:=bnd h;obtain⟨s3,hxs3,h⟩:=bnd h;obtain⟨s4,hxs4,h⟩:=bnd h;refine RG (q0F (enc:=encS) xty55 ([[92],[92,92],[34],[92,34]]:List Ls) H G Kf (fun _=>G) G G (q00 G) G ?_);intro v3 M w H hle hs3;refine q0x (A:=[]) (B:=[]) H (Y4b hx1) (q0o _) G (hs3) (q00 G) G ?_;intro v4 M w its H hle hR;obtain⟨bk4,x4,rfl,hr4,rfl⟩:=hR;simp only[l04,l07] at H;refine MV G G ?_;refine q0x (A:=[.blk bk4 (.cells x4 166)]) (B:=[]) (H.pick (L':=[.blk bk4 (.cells x4 166)]) Kp) (Y3G hxs2) (.left (q0o _)) G hr4 (q00 G) G ?_;intro v6 M w its H hle hR;obtain⟨x6,rfl,hr6,rfl⟩:=hR;simp only[l04,l07] at H;refine ST (q0q G G hxs3) G (ST (q0q G G hxs4) G (AS G G (NL (TN (RT ?_)))));obtain rfl:=oI h;exact q07 G G H.ext G
theorem Y1I {p0:(Ls × Ls × Ls)}{r:Ls}(h:Y0q p0=some r):Ct Tryz.prog 56 [Value.agg #[S p0.1,S p0.2.1,S p0.2.2]] (fun M=>GlF (fun w =>∃m,w.cell? ⟨2,0,none⟩=some (.int .i64 m)) M∧Tabs M) (fun v M=>v=S r):=by
 refine Ct.of Tryz.func56 (enters Tryz.func56 Kr G) G G G ?_;intro w0 M0 H hp;obtain⟨gM,gT⟩:=hp;unfold Y0q at h;refine SQ (RG (q1z [_,_,_] H G G (q00 G) G ?_));intro bk1 w H;refine AS G G (NL (TN (SQ (SQ ?_))));obtain⟨b1,hx2,h⟩:=bnd h;refine RG (ST (q03 Tu24 G Ts9 Dc G) G (ST (XL H Ta9) G ?_));refine q05 H (Y3Z hx2) G ⟨gM,gT⟩ (q00 G) G ?_;intro v5 M w H hle hR;replace gM:=gM.mono hle;replace gT:=gT.mono hle;obtain rfl:=hR;refine NL (TN ?_);refine q0k G (fun hk3=>?_) (fun hk3=>?_)
 ·
  subst hk3;rw[if_pos rfl] at h;refine SQ ?_;obtain⟨s4,hxs4,h⟩:=bnd h;obtain⟨s5,hxs5,h⟩:=bnd h;refine RG (ST (q03 Tu24 G Ts9 Dc G) G (ST (XL H Ta9) G ?_));refine ST (q0q G G hxs4) G (ST (q03 Tu24 G Ts9 Dc G) G (ST (XL H Ta9) G ?_));refine ST (q0q G G hxs5) G (AS G G (NL (TN (RT ?_))));obtain rfl:=oI h;exact q07 G G H.ext G
 subst hk3;rw[if_neg l06] at h;refine SK (TN (SQ ?_));obtain⟨s6,hx7,h⟩:=bnd h;obtain⟨s8,hxs8,h⟩:=bnd h;obtain⟨s9,hxs9,h⟩:=bnd h;refine q2f (fun e w =>∃  (M:Mem),e=[(2,S s9)]∧St w0 M0 M [] w∧GlF (fun w =>∃m,w.cell? ⟨2,0,none⟩=some (.int .i64 m)) M∧Tabs M) ?_ ?_
 ·
  refine q0H (m:=8) G G H ?_;intro w H;refine TK 0 G (fun _=>q03 Tu24 G Ts9 Dc G) G (TK 4 G (fun _=>q03 Tu24 G Ts9 Dc G) G (q1e (i:=1) [5] G Kr Kr Kr (XL H Ta9) (q00 G) G G (fun _ _=>G) ?_));refine q0R (i:=2) (j:=5) Kr G G ?_ ?_
  ·
   refine q05 H (Y3l hx7) G trivial (q00 G) G ?_;intro v14 M w H hle hR;replace gM:=gM.mono hle;replace gT:=gT.mono hle;obtain rfl:=hR;refine NA (TK 3 G (fun _=>q0q G G hxs8) G (q0v (fuel:=0) [5,6,7] G Kr (ST (XL H Ta9) G ?_)));refine ST (q0q G G hxs9) G (AS G G (NA (q0l Kr ?_)));exact MP ⟨_,G,(H.pick (L':=[]) Kp),gM,gT⟩
  refine ST (XL H Ta9) G ?_;refine NA (q0v (fuel:=0) [2,3,6,7] G Kr (q05 H (Y3l hx7) G trivial (q00 G) G ?_));intro v14 M w H hle hR;replace gM:=gM.mono hle;replace gT:=gT.mono hle;obtain rfl:=hR;refine ST (q0q G G hxs8) G (ST (q0q G G hxs9) G (AS G G (NA (q0l Kr ?_))));exact MP ⟨_,G,(H.pick (L':=[]) Kp),gM,gT⟩
 rintro e w ⟨M,rfl,H,gM,gT⟩;refine TN (RT ?_);obtain rfl:=oI h;exact q07 G G H.ext G
theorem Y40 {p0:Ls}{p1:Ls}{r:Bool}(h:Y17 p0 p1=some r):Ct Tryz.prog 168 [S p0,S p1] (fun M=>True) (fun v M=>v=Value.bool r):=by
 refine Ct.of Tryz.func168 (enters Tryz.func168 Kr G) G G G ?_;intro w0 M0 H hp;unfold Y17 at h;refine SQ (RG (AS G G (NL (TN (SQ ?_)))));obtain⟨o1,e2,h⟩:=bnd h;refine q0h (fun e w =>∃(b3:Bool) (M:Mem),e=[(4,Value.bool b3)]∧St w0 M0 M [] w∧some b3=some o1) [] ?_ ?_ (trivial)
 ·
  refine RG (MV G G (ST (q0g Tu9 G) G (MV G G (ST (q0g Tu9 G) G ?_))));by_cases hk4:(p1.length:Int)≤(p0.length:Int)
  ·
   rw[if_pos hk4] at e2;obtain⟨s5,hxs5,e2⟩:=bnd e2;refine DT hk4 (q1a G G) G (MV G G (SG (q01 G) G G G (SG (q01 G) G G G (SG (q0g Tu9 G) G G G (SG (q2m Tu9 G G hxs5) G G G (SG (q01 G) G G G (SG (q0z G G) G G G (PT G G G (AS G G (NL ?_))))))))));exact MN ⟨_,_,G,H,e2⟩
  rw[if_neg hk4] at e2;refine DF hk4 (q1a G G) G (MV G G (q0i 6 G G (PF G G G (AS G G (NL ?_)))));exact MN ⟨_,_,G,H,e2⟩
 rintro e w ⟨b3,M,rfl,H,q6⟩;obtain rfl:=oI q6;refine TN (RT ?_);obtain rfl:=oI h;exact q07 G G H.ext G
theorem Y2R {p0:Ls}{p1:Ls}{r:Bool}(h:Y0S p0 p1=some r):Ct Tryz.prog 135 [S p0,S p1] (fun M=>True) (fun v M=>v=Value.bool r):=by
 refine Ct.of Tryz.func135 (enters Tryz.func135 Kr G) G G G ?_;intro w0 M0 H hp;unfold Y0S at h;refine SQ (RG (AS G G (NL (TN (SQ ?_)))));obtain⟨b1,hx2,h⟩:=bnd h;refine RG (MV G G (MV G G (q05 H (Y40 hx2) G trivial (q00 G) G ?_)));intro v7 M w H hle hR;obtain rfl:=hR;refine AS G G (NL (TN (RT ?_)));obtain rfl:=oI h;exact q07 G G H.ext G
theorem Y3a {p0:Ls}{p1:Ls}{r:Bool}(h:Y0i p0 p1=some r):Ct Tryz.prog 108 [S p0,S p1] (fun M=>True) (fun v M=>v=Value.bool r):=by
 refine Ct.of Tf108 (enters Tf108 Kr G) G G G ?_;intro w0 M0 H hp;unfold Y0i at h;refine SQ (RG (AS G G (NL (TN (SQ ?_)))));obtain⟨o1,e2,h⟩:=bnd h;refine q0h (fun e w =>∃(b3:Bool) (M:Mem),e=[(4,Value.bool b3)]∧St w0 M0 M [] w∧some b3=some o1) [] ?_ ?_ (trivial)
 ·
  refine RG (MV G G (ST (q0g Tu9 G) G (MV G G (ST (q0g Tu9 G) G ?_))));by_cases hk4:(p1.length:Int)≤(p0.length:Int)
  ·
   rw[if_pos hk4] at e2;obtain⟨n5,hxn5,e2⟩:=bnd e2;obtain⟨s6,hxs6,e2⟩:=bnd e2;refine DT hk4 (q1a G G) G (MV G G (SG (q01 G) G G G (SG (q01 G) G G G (SG (q0g Tu9 G) G G G (SG (q01 G) G G G (SG (q0g Tu9 G) G G G (SG (q1E G G hxn5) G G G (SG (q1U Tu9 G G hxs6) G G G (SG (q01 G) G G G (SG (q0z G G) G G G (PT G G G (AS G G (NL ?_)))))))))))));exact MN ⟨_,_,G,H,e2⟩
  rw[if_neg hk4] at e2;refine DF hk4 (q1a G G) G (MV G G (q0i 9 G G (PF G G G (AS G G (NL ?_)))));exact MN ⟨_,_,G,H,e2⟩
 rintro e w ⟨b3,M,rfl,H,q7⟩;obtain rfl:=oI q7;refine TN (RT ?_);obtain rfl:=oI h;exact q07 G G H.ext G
theorem Y4m {p0:Ls}{p1:Ls}{r:Bool}(h:Y18 p0 p1=some r):Ct Tryz.prog 136 [S p0,S p1] (fun M=>True) (fun v M=>v=Value.bool r):=by
 refine Ct.of Tryz.func136 (enters Tryz.func136 Kr G) G G G ?_;intro w0 M0 H hp;unfold Y18 at h;refine SQ (RG (AS G G (NL (TN (SQ ?_)))));obtain⟨b1,hx2,h⟩:=bnd h;refine RG (MV G G (MV G G (q05 H (Y3a hx2) G trivial (q00 G) G ?_)));intro v7 M w H hle hR;obtain rfl:=hR;refine AS G G (NL (TN (RT ?_)));obtain rfl:=oI h;exact q07 G G H.ext G
theorem Y55 {p0:Ls}{r:Bool}(h:Y3C p0=some r):Ct Tryz.prog 109 [S p0] (fun M=>GlF (fun w =>∃m,w.cell? ⟨2,0,none⟩=some (.int .i64 m)) M) (fun v M=>v=Value.bool r):=by
 refine Ct.of Tryz.func109 (enters Tryz.func109 Kr G) G G G ?_;intro w0 M0 H hp;have gM:=hp;unfold Y3C at h;refine SQ (RG (AS G G (NL (TN (SQ (SQ (RG (MV G G (ST (q0g Tu9 G) G (MV G G (NL (TN ?_))))))))))));obtain⟨o1,e2,h⟩:=bnd h;refine q0h (fun e w =>∃  (M:Mem),e=[(0,S p0)]∧St w0 M0 M [] w∧GlF (fun w =>∃m,w.cell? ⟨2,0,none⟩=some (.int .i64 m)) M∧some (.inl ())=some o1) [] ?_ ?_ (trivial)
 ·
  refine BL (q0A (fun m e w =>∃(n3:Int) (M:Mem),e=[(0,S p0),(5,I (p0.length:Int)),(6,I n3)]∧St w0 M0 M [] w∧GlF (fun w =>∃m,w.cell? ⟨2,0,none⟩=some (.int .i64 m)) M∧Y1X p0 m n3=some o1) FU [(0,_),(5,_),(6,_)] ⟨rfl,rfl,rfl,trivial⟩ ⟨_,_,rfl,H,gM,e2⟩ ?_);rintro m4 e w ⟨n3,M,rfl,H,gM,e2⟩;rcases m4 with _|m4
  · rw[Y1X] at e2;cases e2
  rw[Y1X] at e2;refine SQ (RG (ST (q0n G G) G (NL (TN (SQ ?_)))));refine CB (p:=n3<(p0.length:Int)) G (fun hk5=>?_) fun hk5=>?_
  ·
   rw[if_pos hk5] at e2;refine SK (TN (SQ (BL (SQ (RG (MV G G (AS G G (NL (TN (SQ ?_))))))))));obtain⟨o6,e7,e2⟩:=bnd e2;refine q0h (fun e w =>∃(b8:Bool) (M:Mem),e=[(0,S p0),(5,I (p0.length:Int)),(6,I n3),(18,Value.bool b8)]∧St w0 M0 M [] w∧GlF (fun w =>∃m,w.cell? ⟨2,0,none⟩=some (.int .i64 m)) M∧some b8=some o6) [] ?_ ?_ (trivial)
   ·
    obtain⟨c9,hxc9,e7⟩:=bnd e7;refine RG (MV G G (MV G G (ST (q0t Tu9 G G hxc9) G ?_)));by_cases hk10:c9.toNat<32
    ·
     rw[if_pos hk10] at e7;refine DT hk10 (Ex.lssB (i:=c9.toNat) (j:=32) G G) G (MV G G (q0i 4 G G (PT G G G (NL ?_))));exact MN ⟨_,_,G,H,gM,e7⟩
    rw[if_neg hk10] at e7;obtain⟨c11,hxc11,e7⟩:=bnd e7;refine DF hk10 (Ex.lssB (i:=c9.toNat) (j:=32) G G) G (MV G G (SG (q01 G) G G G (SG (q01 G) G G G (SG (q0t Tu9 G G hxc11) G G G (SG (Ex.gtrB (i:=c11.toNat) (j:=126) G G) G G G (PF G G G (NL ?_)))))));exact MN ⟨_,_,G,H,gM,e7⟩
   rintro e w ⟨b8,M,rfl,H,gM,q12⟩;obtain rfl:=oI q12;refine TN ?_;refine q0k G (fun hk13=>?_) (fun hk13=>?_)
   ·
    subst hk13;rw[if_pos rfl] at e2;refine SQ (RG (AS G G (NL (TN (RT ?_)))));obtain rfl:=oI e2;try dsimp only at h
    obtain rfl:=oI h;exact q07 G G H.ext G
   subst hk13;rw[if_neg l06] at e2;refine SK (IB (TN ?_));obtain⟨n14,hxn14,e2⟩:=bnd e2;refine RG (ST (q0p G G hxn14) G (MV G G (NL ?_)));exact AG m4 ⟨_,_,G,H,gM,e2⟩ (l0b _)
  rw[if_neg hk5] at e2;refine q0m (q06 (q06 (q0d ?_)));exact MN ⟨_,G,H,gM,e2⟩
 rintro e w ⟨M,rfl,H,gM,q15⟩;obtain rfl:=oI q15;try dsimp only at h
 refine TN (SQ ?_);obtain⟨o16,e17,h⟩:=bnd h;refine q0h (fun e w =>∃(b18:Bool) (M:Mem),e=[(2,Value.bool b18)]∧St w0 M0 M [] w∧GlF (fun w =>∃m,w.cell? ⟨2,0,none⟩=some (.int .i64 m)) M∧some b18=some o16) [] ?_ ?_ (trivial)
 ·
  obtain⟨b19,hx20,e17⟩:=bnd e17;refine RG (MV G G (q05 H (Y2R hx20) G trivial (q00 G) G ?_));intro v21 M w H hle hR;replace gM:=gM.mono hle;obtain rfl:=hR;refine ST (q0L G) G (MV G G ?_);rcases b19 with _|_
  ·
   rw[if_neg l06] at e17;obtain⟨b21,hx22,e17⟩:=bnd e17;refine SG (q01 G) G G G (q05 H (Y4m hx22) G trivial (q04 G G G) G ?_);intro v25 M w H hle hR;replace gM:=gM.mono hle;obtain rfl:=hR;refine SG (q0L G) G G G (PT G G G (MV G G ?_));rcases b21 with _|_
   ·
    rw[if_neg l06] at e17;obtain⟨b23,hx24,e17⟩:=bnd e17;refine SG (q01 G) G G G (q05 H (Y4q hx24) G (gM) (q04 G G G) G ?_);intro v30 M w H hle hR;replace gM:=gM.mono hle;obtain rfl:=hR;refine SG (q0L G) G G G (PT G G G (AS G G (NL ?_)));exact MN ⟨_,_,G,H,gM,e17⟩
   rw[if_pos rfl] at e17;refine q0i 3 G G (PF G G G (AS G G (NL ?_)));exact MN ⟨_,_,G,H,gM,e17⟩
  rw[if_pos rfl] at e17;refine q0i 3 G G (PF G G G (MV G G (q0i 3 G G (PF G G G (AS G G (NL ?_))))));exact MN ⟨_,_,G,H,gM,e17⟩
 rintro e w ⟨b18,M,rfl,H,gM,q25⟩;obtain rfl:=oI q25;refine TN (RT ?_);obtain rfl:=oI h;exact q07 G G H.ext G
theorem Y56 {p0:Ls}{p1:Ls}{r:(Ls × Ls)}(h:Y3D p0 p1=some r):Ct Tryz.prog 111 [S p0,S p1] (fun M=>True) (fun v M =>∃b0_0 b0_1,v=(Value.func (.func 138) #[] #[ptr b0_0 0,ptr b0_1 0])∧PtM M b0_0 (.cells #[S r.1] 9)∧PtM M b0_1 (.cells #[S r.2] 9)):=by
 refine Ct.of Tryz.func111 (enters Tryz.func111 Kr G) G G G ?_;intro w0 M0 H hp;unfold Y3D at h;refine SQ (RG (q1z [_] H G G (q00 G) G ?_));intro bk2 w H;refine q1z [_] H G G (q00 G) G ?_;intro bk3 w H;refine AS G G (NL (TN (SQ (RG ?_))));obtain⟨M,hle,hb1,H⟩:=H.freezeVar (b:=bk3) Kv;obtain⟨M,hle,hb2,H⟩:=H.freezeVar (b:=bk2) Kv;replace hb1:=hb1.mono hle;refine ST (q1T G) G (AS G G (NL (TN (RT ?_))));obtain rfl:=oI h;exact q07 G G H.ext (⟨_,_,G,hb1,hb2⟩)
theorem Y4y {p0:Ls}{vp0:Value}{r:Ls}(h:Y3z p0=some r):Ct Tryz.prog 141 [vp0] (fun M=>GlF (fun w =>∃m,w.cell? ⟨2,0,none⟩=some (.int .i64 m)) M∧Sl M encB vp0 p0) (fun v M=>v=S r):=by
 refine Ct.of Tryz.func141 (enters Tryz.func141 Kr G) G G G ?_;intro w0 M0 H hp;obtain⟨gM,hp0⟩:=hp;unfold Y3z at h;refine SQ (RG (AS G G (NL (TN (SQ ?_)))));obtain⟨⟨l1,⟨n2,n3⟩⟩,hx4,h⟩:=bnd h;try dsimp only at h
 refine RG (MV G G (q05 H (Y4L hx4) G (hp0) (q00 G) G ?_));intro v7 M w H hle hR;replace gM:=gM.mono hle;try dsimp only at hR
 obtain⟨x7_0,rfl,f7_0⟩:=hR;refine MV G G (ST (q0b G G) G (ST (q0b G G) G (q0j [_,_] H Tz27 G (q00 G) G ?_)));intro bk4 w H;refine AS G G (q0c [_,_] H G G G Ku Ts27 G Kf Kf (q00 G) ?_);intro w H;refine NL (TN (SQ ?_));obtain⟨s5,hx6,h⟩:=bnd h;refine RG (MV G G (ST (q1X Tu88 Tu5 Tu9 H (f7_0) G) G (q05 H (Y4f hx6) G (gM) (q00 G) G ?_)));intro v12 M w H hle hR;obtain rfl:=hR;refine AS G G (NL (TN (RT ?_)));obtain rfl:=oI h;exact q07 G G H.ext G
theorem Y1V {p0:Ls}{p1:UInt8}{bp0:Nat}{pp0:Value}{vp0:Value}{r:(Bool × Ls)}(h:Y0s p0 p1=some r):CtX Tryz.prog 157 [ptr bp0 0,encB p1] [.blk bp0 (.cells #[pp0,vp0] 96),RowI 5 encB vp0 p0] (fun M=>BPM M bp0 pp0) (fun v M its =>∃x0 qp0 up0,v=x0∧NilB M x0 r.1∧BPM M bp0 qp0∧its=[.blk bp0 (.cells #[qp0,up0] 96),RowI 5 encB up0 r.2]):=by
 refine CtX.of Tryz.func157 (enters Tryz.func157 Kr G) G G G ?_;intro w0 M0 H hp;have hp0:=hp;unfold Y0s at h;refine SQ (RG (AS G G (NL (TN (SQ (RG (MV G G ?_)))))));refine q0x (A:=[.blk bp0 (.cells #[pp0,vp0] 96)]) (B:=[RowI 5 encB vp0 p0]) (H.pick (L':=[.blk bp0 (.cells #[pp0,vp0] 96),RowI 5 encB vp0 p0]) Kp) (copyCheck_ct hp0) (.left (q0o _)) G trivial (q00 G) G ?_;intro v6 M w its H hle hR;obtain⟨rfl,rfl⟩:=hR;simp only[l04,l07] at H;refine NL (TN (SQ ?_));obtain⟨l2,hxl2,h⟩:=bnd h;refine RG (MV G G (MV G G (FN G G Tu96 G Ts88 G G (ST (XL H Ta88) G ?_))));refine MV G G (q0F (enc:=encB) xty88 ([p1]:Ls) H G Kf (fun _=>G) G G (q00 G) G ?_);intro v13 M w H hle hs13;refine q1g (l:=p0) xty88 G (fun _=>G) H G (fun _=>by repeat first|exact .head|apply Upd.tail) G (hs13) hxl2 (q00 G) G ?_;intro v14 w H;refine FN G G Tu96 G Ts88 G G (q0Q [_,_] H G G (H.rowOne Km) Ku Kf Ts88 (by first|decide|(simp;done)|(simp;omega)) (q00 G) ?_);intro w H;refine NL (TN (SQ (RG (AS G G (NL (TN (RT ?_)))))));obtain rfl:=oI h;exact q1s (its:=[.blk bp0 (.cells #[(ptr bp0 0),v14] 96),RowI 5 encB v14 l2]) G G H Kp ⟨_,_,_,G,(.inl ⟨G,G⟩),BPM.self,G⟩
theorem Y4n {p0:UInt8}{r:UInt8}(h:Y2G p0=some r):Ct Tryz.prog 174 [encB p0] (fun M=>True) (fun v M=>v=encB r):=by
 refine Ct.of Tryz.func174 (enters Tryz.func174 Kr G) G G G ?_;intro w0 M0 H hp;unfold Y2G at h;refine SQ (RG (AS G G (NL (TN (SQ ?_)))));obtain⟨c1,hxc1,h⟩:=bnd h;refine RG (MV G G (ST (Ex.andB (c:=p0) (d:=15) G G) G (ST (q0t Tu9 G G hxc1) G (AS G G (NL (TN (RT ?_)))))));obtain rfl:=oI h;exact q07 G G H.ext G
theorem Y41 {p0:Ls}{p1:Ls}{bp0:Nat}{pp0:Value}{vp0:Value}{vp1:Value}{r:(Int × Bool × Ls)}(h:Y2c p0 p1=some r):CtX Tryz.prog 173 [ptr bp0 0,vp1] [.blk bp0 (.cells #[pp0,vp0] 96),RowI 5 encB vp0 p0] (fun M=>BPM M bp0 pp0∧Sl M encB vp1 p1) (fun v M its =>∃x1 qp0 up0,v=Value.tuple #[I r.1,x1]∧NilB M x1 r.2.1∧BPM M bp0 qp0∧its=[.blk bp0 (.cells #[qp0,up0] 96),RowI 5 encB up0 r.2.2]):=by
 refine CtX.of Tryz.func173 (enters Tryz.func173 Kr G) G G G ?_;intro w0 M0 H hp;obtain⟨hp0,hp1⟩:=hp;unfold Y2c at h;refine SQ (RG (AS G G (AS G G (NL (TN (SQ (RG (MV G G ?_))))))));refine q0x (A:=[.blk bp0 (.cells #[pp0,vp0] 96)]) (B:=[RowI 5 encB vp0 p0]) (H.pick (L':=[.blk bp0 (.cells #[pp0,vp0] 96),RowI 5 encB vp0 p0]) Kp) (copyCheck_ct hp0) (.left (q0o _)) G trivial (q00 G) G ?_;intro v7 M w its H hle hR;replace hp1:=hp1.mono hle;obtain⟨rfl,rfl⟩:=hR;simp only[l04,l07] at H;refine NL (TN (SQ ?_));obtain⟨l2,hxl2,h⟩:=bnd h;refine RG (MV G G (MV G G (FN G G Tu96 G Ts88 G G (ST (XL H Ta88) G ?_))));refine MV G G (q1g (l:=p0) xty88 G (fun _=>G) H G (fun _=>by repeat first|exact .head|apply Upd.tail) G (hp1) hxl2 (q00 G) G ?_);intro v14 w H;refine FN G G Tu96 G Ts88 G G (q0Q [_,_] H G G (H.rowOne Km) Ku Kf Ts88 (by first|decide|(simp;done)|(simp;omega)) (q00 G) ?_);intro w H;refine NL (TN (SQ (RG (MV G G (ST (q0D Tu88 hp1 G) G (AS G G (AS G G (NL (TN (RT ?_))))))))));obtain rfl:=oI h;exact WQ.retX2 (its:=[.blk bp0 (.cells #[(ptr bp0 0),v14] 96),RowI 5 encB v14 l2]) G G G H Kp ⟨_,_,_,G,(.inl ⟨G,G⟩),BPM.self,G⟩
theorem Y2W {p0:Ls}{bp0:Nat}{pp0:Value}{vp0:Value}{r:Ls}(h:Y25 p0=some r):CtX Tryz.prog 76 [ptr bp0 0] [.blk bp0 (.cells #[pp0,vp0] 96),RowI 5 encB vp0 p0] (fun M=>BPM M bp0 pp0) (fun v M its=>v=S r∧its=[]):=by
 refine CtX.of Tf76 (enters Tf76 Kr G) G G G ?_;intro w0 M0 H hp;have hp0:=hp;unfold Y25 at h;refine SQ (RG (AS G G (NL (TN (SQ ?_)))));refine q2f (fun e w =>∃  (M:Mem),e=[(2,S p0)]∧StX (feet [.blk bp0 (.cells #[pp0,vp0] 96),RowI 5 encB vp0 p0]) w0 M0 M [.blk bp0 (.cells #[pp0,vp0] 96)] w) ?_ ?_
 ·
  refine q0H (m:=12) G G H ?_;intro w H;refine TK 0 G (fun _=>q01 G) G (TK 1 G (fun _=>q0K G) G (TK 2 G (fun _=>q03 Tu96 G Ts88 Dc G) G (TK 5 G (fun _=>q01 G) G (TK 6 G (fun _=>q0K G) G (TK 7 G (fun _=>q03 Tu96 G Ts88 Dc G) G ?_)))));refine q0R (i:=3) (j:=8) Kr G G ?_ ?_
  ·
   refine ST (XL H Ta88) G ?_;refine NA ?_;refine q0R (i:=4) (j:=8) Kr G G ?_ ?_
   ·
    refine q2n Tu128 H Km G (q00 G) G ?_;intro q7 w H hq7;refine NA (q0v (fuel:=0) [8,9,10,11] G Kr (ST (XL H Ta88) G ?_));refine ST (q0M (l:=p0) Tu88 H Km G) G ?_;refine q2o Tu128 Kr H Kv hq7 G G (q00 G) G ?_;intro w H;refine AS G G (NA (q0l Kr ?_));exact MP ⟨_,G,H⟩
   refine ST (XL H Ta88) G ?_;refine NA ?_;refine q0R (i:=4) (j:=9) Kr G G ?_ ?_
   ·
    refine q2n Tu128 H Km G (q00 G) G ?_;intro q7 w H hq7;refine NA (q0v (fuel:=0) [9,10,11] G Kr (ST (q0M (l:=p0) Tu88 H Km G) G ?_));refine q2o Tu128 Kr H Kv hq7 G G (q00 G) G ?_;intro w H;refine AS G G (NA (q0l Kr ?_));exact MP ⟨_,G,H⟩
   refine ST (q0M (l:=p0) Tu88 H Km G) G ?_;refine NA (q0v (fuel:=0) [4,10,11] G Kr (q2n Tu128 H Km G (q00 G) G ?_));intro q7 w H hq7;refine q2o Tu128 Kr H Kv hq7 G G (q00 G) G ?_;intro w H;refine AS G G (NA (q0l Kr ?_));exact MP ⟨_,G,H⟩
  refine ST (XL H Ta88) G ?_;refine NA ?_;refine q0R (i:=3) (j:=9) Kr G G ?_ ?_
  ·
   refine ST (XL H Ta88) G ?_;refine NA ?_;refine q0R (i:=4) (j:=9) Kr G G ?_ ?_
   ·
    refine q2n Tu128 H Km G (q00 G) G ?_;intro q7 w H hq7;refine NA (q0v (fuel:=0) [9,10,11] G Kr (ST (q0M (l:=p0) Tu88 H Km G) G ?_));refine q2o Tu128 Kr H Kv hq7 G G (q00 G) G ?_;intro w H;refine AS G G (NA (q0l Kr ?_));exact MP ⟨_,G,H⟩
   refine ST (q0M (l:=p0) Tu88 H Km G) G ?_;refine NA (q0v (fuel:=0) [4,10,11] G Kr (q2n Tu128 H Km G (q00 G) G ?_));intro q7 w H hq7;refine q2o Tu128 Kr H Kv hq7 G G (q00 G) G ?_;intro w H;refine AS G G (NA (q0l Kr ?_));exact MP ⟨_,G,H⟩
  refine ST (q0M (l:=p0) Tu88 H Km G) G ?_;refine NA (q0v (fuel:=0) [3,4,10,11] G Kr (ST (XL H Ta88) G ?_));refine q2n Tu128 H Km G (q00 G) G ?_;intro q7 w H hq7;refine q2o Tu128 Kr H Kv hq7 G G (q00 G) G ?_;intro w H;refine AS G G (NA (q0l Kr ?_));exact MP ⟨_,G,H⟩
 rintro e w ⟨M,rfl,H⟩;refine TN (RT ?_);obtain rfl:=oI h;exact q1s (its:=[]) G G H Kp ⟨G,G⟩
theorem Y5e {p0:Ls}{vp0:Value}{r:Ls}(h:Y3V p0=some r):Ct Tryz.prog 142 [vp0] (fun M=>Sl M encB vp0 p0) (fun v M=>v=S r):=by
 refine Ct.of Tryz.func142 (enters Tryz.func142 Kr G) G G G ?_;intro w0 M0 H hp;have hp0:=hp;unfold Y3V at h;refine SQ (RG (AS G G (NL (TN (SQ (RG (q0j [_,_] H Tz96 G (q00 G) G ?_)))))));intro bk3 w H;refine NL (TN (SQ (SQ (RG (MV G G (ST (q0D Tu88 hp0 G) G (MV G G (NL (TN ?_)))))))));obtain⟨o1,e2,h⟩:=bnd h;refine q0h (fun e w =>∃(v3:Value) (l6:Ls) (v7:Value) (M:Mem),e=[(3,ptr bk3 0)]∧St w0 M0 M [.blk bk3 (.cells #[v3,v7] 96),RowI 5 encB v7 l6] w∧BPM M bk3 v3∧some l6=some o1) [] ?_ ?_ (trivial)
 ·
  refine BL ?_;replace H:=H.newRow 5 encB;refine q0A (fun m e w =>∃(v8:Value) (l11:Ls) (v12:Value) (n13:Int) (M:Mem),e=[(3,ptr bk3 0),(6,vp0),(7,I (p0.length:Int)),(8,I n13)]∧St w0 M0 M [.blk bk3 (.cells #[v8,v12] 96),RowI 5 encB v12 l11] w∧BPM M bk3 v8∧Sl M encB vp0 p0∧Y1t p0 m l11 n13=some o1) FU [(3,_),(6,_),(7,_),(8,_)] ⟨rfl,rfl,rfl,rfl,trivial⟩ ⟨_,_,_,_,_,rfl,(H.pick (L':=[.blk bk3 (.cells #[(Value.pointer none),(Value.slice none 0 0)] 96),RowI 5 encB (Value.slice none 0 0) []]) Kp),BPM.nil,hp0,e2⟩ ?_;rintro m14 e w ⟨v8,l11,v12,n13,M,rfl,H,hs9,hp0,e2⟩;rcases m14 with _|m14
  · rw[Y1t] at e2;cases e2
  rw[Y1t] at e2;refine SQ (RG (ST (q0n G G) G (NL (TN (SQ ?_)))));refine CB (p:=n13<(p0.length:Int)) G (fun hk16=>?_) fun hk16=>?_
  ·
   rw[if_pos hk16] at e2;refine SK (TN (SQ (BL (SQ ?_))));obtain⟨c17,hxc17,e2⟩:=bnd e2;obtain⟨bk10,o10,ha10,hc10⟩:=hp0.atC hxc17;refine RG (ST (q0u ha10 Tu88 Ts5 G G) G (ST (q08 H G hc10 Ta5) G (AS G G (NL (TN (BL (SQ (RG (MV G G (ST (q1B (c:=c17) (d:=32) G G) G (AS G G (NL (TN ?_)))))))))))));refine CB (p:=c17=32) G (fun hk18=>?_) fun hk18=>?_
   ·
    rw[if_pos hk18] at e2;obtain⟨⟨b19,l20⟩,hx21,e2⟩:=bnd e2;try dsimp only at e2
    refine RG ?_;refine q0x (A:=[.blk bk3 (.cells #[v8,v12] 96),RowI 5 encB v12 l11]) (B:=[]) (H.pick (L':=[.blk bk3 (.cells #[v8,v12] 96),RowI 5 encB v12 l11]) Kp) (Y1V hx21) (.left (.left (q0o _))) G (hs9) (q00 G) G ?_;intro v22 M w its H hle hR;replace hp0:=hp0.mono hle;try dsimp only at hR
    obtain⟨x22_0,q22_0,u22_0,rfl,f22_0,hq22_0,rfl⟩:=hR;simp only[l04,l07] at H;refine NL (IB (IB (TN ?_)));obtain⟨n22,hxn22,e2⟩:=bnd e2;refine RG (ST (q0p G G hxn22) G (MV G G (NL ?_)));exact AG m14 ⟨_,_,_,_,_,G,H,hq22_0,hp0,e2⟩ (l0b _)
   rw[if_neg hk18] at e2;refine SQ ?_;obtain⟨b23,hx24,e2⟩:=bnd e2;refine RG (MV G G (q05 H (Y3I hx24) G trivial (q00 G) G ?_));intro v25 M w H hle hR;replace hp0:=hp0.mono hle;replace hs9:=hs9.mono hle;obtain rfl:=hR;refine AS G G (NL (TN ?_));refine q0k G (fun hk25=>?_) (fun hk25=>?_)
   ·
    subst hk25;rw[if_pos rfl] at e2;obtain⟨⟨b26,l27⟩,hx28,e2⟩:=bnd e2;try dsimp only at e2
    refine RG (MV G G ?_);refine q0x (A:=[.blk bk3 (.cells #[v8,v12] 96),RowI 5 encB v12 l11]) (B:=[]) (H.pick (L':=[.blk bk3 (.cells #[v8,v12] 96),RowI 5 encB v12 l11]) Kp) (Y1V hx28) (.left (.left (q0o _))) G (hs9) (q00 G) G ?_;intro v27 M w its H hle hR;replace hp0:=hp0.mono hle;try dsimp only at hR
    obtain⟨x27_0,q27_0,u27_0,rfl,f27_0,hq27_0,rfl⟩:=hR;simp only[l04,l07] at H;refine NL (IB (IB (TN ?_)));obtain⟨n29,hxn29,e2⟩:=bnd e2;refine RG (ST (q0p G G hxn29) G (MV G G (NL ?_)));exact AG m14 ⟨_,_,_,_,_,G,H,hq27_0,hp0,e2⟩ (l0b _)
   subst hk25;rw[if_neg l06] at e2;obtain⟨c30,hx31,e2⟩:=bnd e2;obtain⟨c32,hx33,e2⟩:=bnd e2;obtain⟨⟨n34,b35,l36⟩,hx37,e2⟩:=bnd e2;try dsimp only at e2
   refine RG (MV G G (ST (Ex.shrB (c:=c17) (m:=4) G G Dc) G (q05 H (Y4n hx31) G trivial (q00 G) G ?_)));intro v14 M w H hle hR;replace hp0:=hp0.mono hle;replace hs9:=hs9.mono hle;obtain rfl:=hR;refine MV G G (q05 H (Y4n hx33) G trivial (q00 G) G ?_);intro v16 M w H hle hR;replace hp0:=hp0.mono hle;replace hs9:=hs9.mono hle;obtain rfl:=hR;refine q0F (enc:=encB) xty88 ([61,c30,c32]:Ls) H G Kf (fun _=>G) G G (q00 G) G ?_;intro v17 M w H hle hs17;replace hp0:=hp0.mono hle;replace hs9:=hs9.mono hle;refine q0x (A:=[.blk bk3 (.cells #[v8,v12] 96),RowI 5 encB v12 l11]) (B:=[]) (H.pick (L':=[.blk bk3 (.cells #[v8,v12] 96),RowI 5 encB v12 l11]) Kp) (Y41 hx37) (.left (.left (q0o _))) G ⟨hs9,hs17⟩ (q00 G) G ?_;intro v18 M w its H hle hR;replace hp0:=hp0.mono hle;try dsimp only at hR
   obtain⟨x18_1,q18_0,u18_0,rfl,f18_1,hq18_0,rfl⟩:=hR;simp only[l04,l07] at H;refine NL (IB (IB (TN ?_)));obtain⟨n38,hxn38,e2⟩:=bnd e2;refine RG (ST (q0p G G hxn38) G (MV G G (NL ?_)));exact AG m14 ⟨_,_,_,_,_,G,H,hq18_0,hp0,e2⟩ (l0b _)
  rw[if_neg hk16] at e2;refine q0m (q06 (q06 (q0d ?_)));exact MN ⟨_,_,_,_,G,H,hs9,e2⟩
 rintro e w ⟨v3,l6,v7,M,rfl,H,hs4,q39⟩;obtain rfl:=oI q39;refine TN (SQ ?_);obtain⟨s40,hx41,h⟩:=bnd h;refine RG ?_;refine q0x (A:=[.blk bk3 (.cells #[v3,v7] 96),RowI 5 encB v7 l6]) (B:=[]) (H.pick (L':=[.blk bk3 (.cells #[v3,v7] 96),RowI 5 encB v7 l6]) Kp) (Y2W hx41) (.left (.left (q0o _))) G (hs4) (q00 G) G ?_;intro v29 M w its H hle hR;obtain⟨rfl,rfl⟩:=hR;simp only[l04,l07] at H;refine AS G G (NL (TN (RT ?_)));obtain rfl:=oI h;exact q07 G G H.ext G
theorem Y12 {p0:Ls}{p1:Ls}{r:Ls}(h:Y2L p0 p1=some r):Ct Tryz.prog 112 [S p0,S p1] (fun M=>GlF (fun w =>∃m,w.cell? ⟨2,0,none⟩=some (.int .i64 m)) M∧Tabs M) (fun v M=>v=S r):=by
 refine Ct.of Tryz.func112 (enters Tryz.func112 Kr G) G G G ?_;intro w0 M0 H hp;obtain⟨gM,gT⟩:=hp;unfold Y2L at h;refine SQ (RG (AS G G (NL (TN (SQ ?_)))));obtain⟨⟨l1,⟨n2,n3⟩⟩,hx4,h⟩:=bnd h;try dsimp only at h
 refine RG (MV G G (MV G G (q05 H (Y4G hx4) G (gT) (q00 G) G ?_)));intro v10 M w H hle hR;replace gM:=gM.mono hle;try dsimp only at hR
 obtain⟨x10_0,rfl,f10_0⟩:=hR;refine MV G G (ST (q0b G G) G (ST (q0b G G) G (q0j [_,_] H Tz27 G (q00 G) G ?_)));intro bk6 w H;refine AS G G (q0c [_,_] H G G G Ku Ts27 G Kf Kf (q00 G) ?_);intro w H;refine NL (TN (SQ (SQ (RG (MV G G (ST (q0z G G) G (NL (TN ?_))))))));refine CB (p:=p0=[117,116,102,56]) G (fun hk5=>?_) fun hk5=>?_
 ·
  rw[if_pos hk5] at h;refine SQ ?_;obtain⟨s6,hxs6,h⟩:=bnd h;obtain⟨s7,hxs7,h⟩:=bnd h;obtain⟨s8,hx9,h⟩:=bnd h;obtain⟨s10,hxs10,h⟩:=bnd h;obtain⟨s11,hxs11,h⟩:=bnd h;refine RG (MV G G (ST (q0q G G hxs6) G (ST (q0q G G hxs7) G (MV G G (q05 H (Y4y hx9) G ⟨gM,f10_0⟩ (q00 G) G ?_)))));intro v19 M w H hle hR;obtain rfl:=hR;refine ST (q0q G G hxs10) G (ST (q0q G G hxs11) G (AS G G (NL (TN (RT ?_)))));obtain rfl:=oI h;exact q07 G G H.ext G
 rw[if_neg hk5] at h;refine SK (TN (SQ ?_));obtain⟨s12,hxs12,h⟩:=bnd h;obtain⟨s13,hxs13,h⟩:=bnd h;obtain⟨s14,hx15,h⟩:=bnd h;obtain⟨s16,hxs16,h⟩:=bnd h;obtain⟨s17,hxs17,h⟩:=bnd h;refine RG (MV G G (ST (q0q G G hxs12) G (ST (q0q G G hxs13) G (MV G G (q05 H (Y5e hx15) G (f10_0) (q00 G) G ?_)))));intro v26 M w H hle hR;obtain rfl:=hR;refine ST (q0q G G hxs16) G (ST (q0q G G hxs17) G (AS G G (NL (TN (RT ?_)))));obtain rfl:=oI h;exact q07 G G H.ext G
theorem Y4O {p1:Ls}{p2:Ls}{bp1:Nat}{bp2:Nat}:ItS Tryz.prog 138 [ptr bp1 0,ptr bp2 0] [] (fun M=>GlF (fun w =>∃m,w.cell? ⟨2,0,none⟩=some (.int .i64 m)) M∧Tabs M∧PtM M bp1 (.cells #[S p1] 9)∧PtM M bp2 (.cells #[S p2] 9)) encS (Y2M p1 p2):=by
 refine ItS.of Tryz.func138 (enters Tryz.func138 Kr G) G G G ?_;intro lid σ Y Z C hY s0 r L0 w0 M0 h hzz H hp;simp only[l04,l07] at H;obtain⟨gM,gT,hp1,hp2⟩:=hp;unfold Y2M at h;refine SQ ?_;obtain⟨l1,hx2,h⟩:=bnd h;refine RG (ST (q08 H G (hp1.cell (j:=0) G) Ta9) G (q05 H (grapheme_Split_ct hx2) G (gT) (q00 G) G ?_));intro v9 M w H hle hR;replace gM:=gM.mono hle;replace gT:=gT.mono hle;replace hzz:=hzz.mono hle;replace hp2:=hp2.mono hle;have f9_0:=hR;refine ST (q0D Tu55 f9_0 G) G (MV G G (NL (TN ?_)));obtain⟨o3,e4,h⟩:=bnd h;refine q0h (fun e w =>∃(s5:σ) (Lc:List Ph.Item) (M:Mem),e=[]∧StX C w0 M0 M (Lc) w∧GlF (fun w =>∃m,w.cell? ⟨2,0,none⟩=some (.int .i64 m)) M∧Tabs M∧ZH Z s5 Lc M∧some (.inl s5)=some o3) [] ?_ ?_ (trivial)
 ·
  refine BL (q0A (fun m e w =>∃(n6:Int) (s7:σ) (Lc:List Ph.Item) (M:Mem),e=[(0,(yv lid)),(2,ptr bp2 0),(9,v9),(10,I (l1.length:Int)),(11,I n6)]∧StX C w0 M0 M (Lc) w∧GlF (fun w =>∃m,w.cell? ⟨2,0,none⟩=some (.int .i64 m)) M∧Tabs M∧PtM M bp2 (.cells #[S p2] 9)∧Sl M encS v9 l1∧ZH Z s7 Lc M∧Y0O Y p2 l1 m n6 s7=some o3) FU [(0,_),(2,_),(9,_),(10,_),(11,_)] ⟨rfl,rfl,rfl,rfl,rfl,trivial⟩ ⟨_,_,_,_,rfl,H,gM,gT,hp2,f9_0,hzz,e4⟩ ?_);rintro m8 e w ⟨n6,s7,Lc,M,rfl,H,gM,gT,hp2,f9_0,hzz,e4⟩;rcases m8 with _|m8
  · rw[Y0O] at e4;cases e4
  rw[Y0O] at e4;refine SQ (RG (ST (q0n G G) G (NL (TN (SQ ?_)))));refine CB (p:=n6<(l1.length:Int)) G (fun hk9=>?_) fun hk9=>?_
  ·
   rw[if_pos hk9] at e4;refine SK (TN (SQ (BL (SQ ?_))));obtain⟨a10,hxa10,e4⟩:=bnd e4;obtain⟨bk13,o13,ha13,hc13⟩:=f9_0.atC hxa10;refine RG (ST (q0u ha13 Tu55 Ts9 G G) G (ST (q08 H G hc13 Ta9) G (AS G G (NL (TN (SQ (SQ ?_)))))));obtain⟨s11,hx12,e4⟩:=bnd e4;refine RG (ST (q08 H G (hp2.cell (j:=0) G) Ta9) G (MV G G (q05 H (Y12 hx12) G ⟨gM,gT⟩ (q00 G) G ?_)));intro v17 M w H hle hR;replace gM:=gM.mono hle;replace gT:=gT.mono hle;replace hzz:=hzz.mono hle;replace f9_0:=f9_0.mono hle;replace hp2:=hp2.mono hle;obtain rfl:=hR;refine ST (q0g Tu9 G) G (ST (q1C G G) G (NL (TN ?_)));refine CB (p:=(s11.length:Int)≤(75:Int)) G (fun hk13=>?_) fun hk13=>?_
   ·
    rw[if_pos hk13] at e4;refine SQ (SQ ?_);obtain⟨⟨s14,b15⟩,hx16,e4⟩:=bnd e4;try dsimp only at e4
    refine RG (MV G G (MV G G (WR.yieldS H (q1S _) hY hzz hx16 G G (q00 G) G ?_)));intro w M Lc H hle hzz;simp only[l04,l07] at H;replace gM:=gM.mono hle;replace gT:=gT.mono hle;replace f9_0:=f9_0.mono hle;replace hp2:=hp2.mono hle;refine ST (q0L G) G (NL (TN ?_));refine q0k G (fun hk17=>?_) (fun hk17=>?_)
    ·
     replace hk17:b15=false:=by simpa using hk17
     subst hk17;rw[if_neg l06] at e4;refine RT ?_;obtain rfl:=oI e4;try dsimp only at h
     obtain rfl:=oI h;exact WQ.retZ G H (by repeat(first|exact List.Sublist.refl _|apply List.Sublist.cons)) hzz G
    replace hk17:b15=true:=by simpa using hk17
    subst hk17;rw[if_pos rfl] at e4;refine SK (TN (q0m (q06 (q0d (TN ?_)))));obtain⟨n18,hxn18,e4⟩:=bnd e4;refine RG (ST (q0p G G hxn18) G (MV G G (NL ?_)));exact AG m8 ⟨_,_,_,_,G,H,gM,gT,hp2,f9_0,hzz,e4⟩ (l0b _)
   rw[if_neg hk13] at e4;refine SK (TN (SQ (RG (MV G G (q2c H Tu9 G (q00 G) G ?_)))));intro bk25 w H;refine NL (TN ?_);obtain⟨o19,e20,e4⟩:=bnd e4;refine q0h (fun e w =>∃(s21:σ) (Lc:List Ph.Item) (M:Mem),e=[(0,(yv lid)),(2,ptr bp2 0),(9,v9),(10,I (l1.length:Int)),(11,I n6)]∧StX C w0 M0 M (Lc) w∧GlF (fun w =>∃m,w.cell? ⟨2,0,none⟩=some (.int .i64 m)) M∧Tabs M∧PtM M bp2 (.cells #[S p2] 9)∧Sl M encS v9 l1∧ZH Z s21 Lc M∧some (.inl s21)=some o19) [] ?_ ?_ (trivial)
   ·
    refine BL (q0A (fun m e w =>∃(ps22:Nat) (s23:σ) (Lc:List Ph.Item) (M:Mem),e=[(0,(yv lid)),(2,ptr bp2 0),(9,v9),(10,I (l1.length:Int)),(11,I n6),(25,ptr bk25 0)]∧StX C w0 M0 M (.blk bk25 (.stringIter ⟨((a10):Ls).toArray⟩ ps22)::Lc) w∧GlF (fun w =>∃m,w.cell? ⟨2,0,none⟩=some (.int .i64 m)) M∧Tabs M∧PtM M bp2 (.cells #[S p2] 9)∧Sl M encS v9 l1∧ZH Z s23 Lc M∧Y1j Y a10 m ps22 s23=some o19) FU [(0,_),(2,_),(9,_),(10,_),(11,_),(25,_)] ⟨rfl,rfl,rfl,rfl,rfl,rfl,trivial⟩ ⟨_,_,_,_,rfl,H,gM,gT,hp2,f9_0,hzz,e20⟩ ?_);rintro m24 e w ⟨ps22,s23,Lc,M,rfl,H,gM,gT,hp2,f9_0,hzz,e20⟩;rcases m24 with _|m24
    · rw[Y1j] at e20;cases e20
    rw[Y1j] at e20;refine SQ ?_;by_cases hk25:ps22<a10.length
    ·
     rw[if_pos hk25] at e20;refine RG (WR.nextT H hk25 G Ku (q00 G) G ?_);intro w H;refine ST (q0b G G) G (NL (TN (SQ (CT G (SK (TN (BL (SQ (RG (ST (q0b G G) G (AS G G (NL (TN (SQ ?_))))))))))))));obtain⟨⟨s26,b27⟩,hx28,e20⟩:=bnd e20;try dsimp only at e20
     refine RG (MV G G (MV G G (ST (Ex.runeStr Tu21 Tu9 G) G (WR.yieldS H (.right (q1S _)) hY hzz hx28 G G (q00 G) G ?_))));intro w M Lc H hle hzz;simp only[l04,l07] at H;replace gM:=gM.mono hle;replace gT:=gT.mono hle;replace f9_0:=f9_0.mono hle;replace hp2:=hp2.mono hle;refine ST (q0L G) G (NL (TN ?_));refine q0k G (fun hk29=>?_) (fun hk29=>?_)
     ·
      replace hk29:b27=false:=by simpa using hk29
      subst hk29;rw[if_neg l06] at e20;refine RT ?_;obtain rfl:=oI e20;try dsimp only at e4
      obtain rfl:=oI e4;try dsimp only at h
      obtain rfl:=oI h;exact WQ.retZ G H (by repeat(first|exact List.Sublist.refl _|apply List.Sublist.cons)) hzz G
     replace hk29:b27=true:=by simpa using hk29
     subst hk29;rw[if_pos rfl] at e20;refine SK (IB ?_);exact AG m24 ⟨_,_,_,_,G,H,gM,gT,hp2,f9_0,hzz,e20⟩ (l0b _)
    rw[if_neg hk25] at e20;refine RG (WR.nextF H (l1B hk25) G Km (q00 G) G ?_);refine ST (q0b G G) G (NL (TN (SQ (CF G (q0m (q06 (q06 (q0d ?_))))))));exact MN ⟨_,_,_,G,(H.pick (L':=(Lc)) (by repeat(first|refine Pick.cons Kv ?_|exact Pick.ofSub (by repeat(first|exact List.Sublist.refl _|apply List.Sublist.cons))))),gM,gT,hp2,f9_0,hzz,e20⟩
   rintro e w ⟨s21,Lc,M,rfl,H,gM,gT,hp2,f9_0,hzz,q30⟩;obtain rfl:=oI q30;try dsimp only at e4
   refine IB (TN ?_);obtain⟨n31,hxn31,e4⟩:=bnd e4;refine RG (ST (q0p G G hxn31) G (MV G G (NL ?_)));exact AG m8 ⟨_,_,_,_,G,H,gM,gT,hp2,f9_0,hzz,e4⟩ (l0b _)
  rw[if_neg hk9] at e4;refine q0m (q06 (q06 (q0d ?_)));exact MN ⟨_,_,_,G,H,gM,gT,hzz,e4⟩
 rintro e w ⟨s5,Lc,M,rfl,H,gM,gT,hzz,q34⟩;obtain rfl:=oI q34;try dsimp only at h
 obtain rfl:=oI h;exact WQ.endZ G H (by repeat(first|exact List.Sublist.refl _|apply List.Sublist.cons)) hzz G
set_option maxHeartbeats 4000000 in
theorem Y4X {p0:Ls} {r:(Ls × (Int × Int))} (h:Y0y p0=some r):Ct Tryz.prog 78 [S p0] (fun M=>GlF (fun w =>∃m,w.cell? ⟨2,0,none⟩=some (.int .i64 m)) M∧Tabs M) (fun v M=>v=Value.tuple #[S r.1,Value.agg #[I r.2.1,I r.2.2]]):=by
 refine Ct.ofM Tryz.func78 (enters Tryz.func78 Kr G) G G G ?_;intro w0 M0 H hp;obtain⟨gM,gT⟩:=hp;unfold Y0y at h;refine SQ (RG (AS G G (q0j [_,_] H Tz27 G (q00 G) G ?_)));intro bk3 w H;refine NL (TN (SQ (SQ (RG (MV G G (ST (q0g Tu9 G) G (ST (q0E G G) G (NL (TN ?_)))))))));refine CB (p:=(1000:Int)<(p0.length:Int)) G (fun hk1=>?_) fun hk1=>?_
 ·
  rw[if_pos hk1] at h;refine SQ ?_;obtain⟨⟨n2,n3⟩,hx4,h⟩:=bnd h;try dsimp only at h
  refine RG (q05 H (Y07 hx4) G trivial (q00 G) G ?_);intro v11 M w H hle hR;try dsimp only at hR
  obtain rfl:=hR;refine AS G G (q0c [_,_] H G G G Ku Ts27 G Kf Kf (q00 G) ?_);intro w H;refine NL (TN (RT ?_));obtain rfl:=oI h;exact WQ.mret2 G G ⟨_,G,H.loadAgg Km Ta27 Ts27 Kf⟩ H.ext G
 rw[if_neg hk1] at h;refine SK (TN (SQ (SQ ?_)));obtain⟨b5,hx6,h⟩:=bnd h;refine RG (MV G G (q05 H (Y3F hx6) G (gT) (q00 G) G ?_));intro v13 M w H hle hR;replace gM:=gM.mono hle;replace gT:=gT.mono hle;obtain rfl:=hR;refine ST (q0L G) G (NL (TN ?_));refine q0k G (fun hk7=>?_) (fun hk7=>?_)
 ·
  replace hk7:b5=false:=by simpa using hk7
  subst hk7;rw[if_neg l06] at h;refine SQ ?_;obtain⟨⟨n8,n9⟩,hx10,h⟩:=bnd h;try dsimp only at h
  refine RG (q05 H (Y07 hx10) G trivial (q00 G) G ?_);intro v15 M w H hle hR;try dsimp only at hR
  obtain rfl:=hR;refine AS G G (q0c [_,_] H G G G Ku Ts27 G Kf Kf (q00 G) ?_);intro w H;refine NL (TN (RT ?_));obtain rfl:=oI h;exact WQ.mret2 G G ⟨_,G,H.loadAgg Km Ta27 Ts27 Kf⟩ H.ext G
 replace hk7:b5=true:=by simpa using hk7
 subst hk7;rw[if_pos rfl] at h;refine SK (TN (SQ (SQ ?_)));obtain⟨b11,hx12,h⟩:=bnd h;refine RG (MV G G (q05 H (Y55 hx12) G (gM) (q00 G) G ?_));intro v17 M w H hle hR;replace gM:=gM.mono hle;replace gT:=gT.mono hle;obtain rfl:=hR;refine NL (TN ?_);refine q0k G (fun hk13=>?_) (fun hk13=>?_)
 ·
  subst hk13;rw[if_pos rfl] at h;refine SQ ?_;obtain⟨⟨n14,n15⟩,hx16,h⟩:=bnd h;try dsimp only at h
  refine RG (MV G G (q05 H (Y0L hx16) G trivial (q00 G) G ?_));intro v19 M w H hle hR;try dsimp only at hR
  obtain rfl:=hR;refine AS G G (q0c [_,_] H G G G Ku Ts27 G Kf Kf (q00 G) ?_);intro w H;refine NL (TN (RT ?_));obtain rfl:=oI h;exact WQ.mret2 G G ⟨_,G,H.loadAgg Km Ta27 Ts27 Kf⟩ H.ext G
 subst hk13;rw[if_neg l06] at h;refine SK (TN (SQ ?_));obtain⟨s17,hx18,h⟩:=bnd h;refine RG (MV G G (q05 H (Y4V hx18) G trivial (q00 G) G ?_));intro v21 M w H hle hR;replace gM:=gM.mono hle;replace gT:=gT.mono hle;obtain rfl:=hR;refine q0j [_] H Tz9 G (q00 G) G ?_;intro bk4 w H;refine q0c [_] H G G G Ku Ts9 G Kf Kf (q00 G) ?_;intro w H;refine NL (TN (SQ (RG (q0j [_] H Tz55 G (q00 G) G ?_))));intro bk5 w H;refine NL (TN (SQ (RG (q0j [_] H Tz9 G (q00 G) G ?_))));intro bk6 w H;refine q0c [_] H G G G Ku Ts9 G Kf Kf (q00 G) ?_;intro w H;refine NL (TN (SQ (SQ ?_)));obtain⟨⟨z19,z21⟩,hx23,h⟩:=bnd h;try dsimp only at h
 refine RG (ST (XL H Ta9) G ?_);refine MV G G (q05 H (Y56 hx23) G trivial (q00 G) G ?_);intro v24 M w H hle hR;replace gM:=gM.mono hle;replace gT:=gT.mono hle;try dsimp only at hR
 obtain⟨bk24_0_0,bk24_0_1,rfl,f24_0_0,f24_0_1⟩:=hR;refine NL (TN (BL ?_));replace H:=H.newRow 9 encS;obtain⟨o30,e31,h⟩:=bnd h;refine WC.rangeS (A:=[]) (L:=[.blk bk3 (.cells #[I 0,I 0] 27), .blk bk4 (.cells #[S s17] 9), .blk bk5 (.cells #[(Value.slice none 0 0)] 55),RowI 9 encS (Value.slice none 0 0) [], .blk bk6 (.cells #[S []] 9)]) (B:=[]) (H.pick (L':=[.blk bk3 (.cells #[I 0,I 0] 27), .blk bk4 (.cells #[S s17] 9), .blk bk5 (.cells #[(Value.slice none 0 0)] 55),RowI 9 encS (Value.slice none 0 0) [], .blk bk6 (.cells #[S []] 9)]) Kp) rfl Y4O (.left (.left (.left (.left (.left (q0o _)))))) ⟨gM,gT,f24_0_0,f24_0_1⟩ rfl (fun s L M =>∃(l25:List Ls) (v26:Value) (s27:Ls),s=(l25,s27)∧L=[.blk bk3 (.cells #[I 0,I 0] 27), .blk bk4 (.cells #[S s17] 9), .blk bk5 (.cells #[v26] 55),RowI 9 encS v26 l25, .blk bk6 (.cells #[S s27] 9)]∧GlF (fun w =>∃m,w.cell? ⟨2,0,none⟩=some (.int .i64 m)) M∧Tabs M) (fun _=>none) goOn (fun _=>rfl) (Y1K s17) ([],[]) o30 e31 (by rintro s L M M' ⟨l25,v26,s27,rfl,rfl,gM,gT⟩ hle;exact ⟨_,_,_,rfl,rfl,gM.mono hle,gT.mono hle⟩) rfl ⟨_,_,_,rfl,rfl,gM,gT⟩ ?_ ?_ ?_
 ·
  rintro lid28 rc28 hrc28 s x32 sx28 L wb28 Mb28 hE e33 ⟨l25,v26,s27,rfl,rfl,gM,gT⟩ H;unfold Y1K at e33;try dsimp only at e33
  refine RG (AS G G (NL (WQ.begin hrc28 H Ku ?_)));intro w H;refine BL (SQ (SQ ?_));obtain⟨o34,e35,e33⟩:=bnd e33;refine q0h (fun e w =>∃(b36:Bool) (M:Mem),e=[(3,ptr bk3 0),(4,ptr bk4 0),(5,ptr bk5 0),(6,ptr bk6 0),(7,S x32),(36,Value.bool b36)]∧StX (feet (.blk lid28 (.loop (rc28 .ready none))::[.blk bk3 (.cells #[I 0,I 0] 27), .blk bk4 (.cells #[S s17] 9), .blk bk5 (.cells #[v26] 55),RowI 9 encS v26 l25, .blk bk6 (.cells #[S s27] 9)])) wb28 Mb28 M [.blk bk3 (.cells #[I 0,I 0] 27), .blk bk4 (.cells #[S s17] 9), .blk bk5 (.cells #[v26] 55),RowI 9 encS v26 l25, .blk bk6 (.cells #[S s27] 9), .blk lid28 (.loop (rc28 .busy none))] w∧GlF (fun w =>∃m,w.cell? ⟨2,0,none⟩=some (.int .i64 m)) M∧Tabs M∧some b36=some o34) [] ?_ ?_ (trivial)
  ·
   by_cases hk37:s27=[]
   ·
    rw[if_pos hk37] at e35;refine RG (ST (XL H Ta9) G ?_);refine q09 (v' := .bool false) (q1q G G) (congrArg Value.bool (by rw[decide_eq_true hk37];rfl)) (q00 G) G G ?_;refine MV G G (q0i 7 G G (PF G G G (NL ?_)));exact MN ⟨_,_,G,(H.pick (L':=[.blk bk3 (.cells #[I 0,I 0] 27), .blk bk4 (.cells #[S s17] 9), .blk bk5 (.cells #[v26] 55),RowI 9 encS v26 l25, .blk bk6 (.cells #[S s27] 9), .blk lid28 (.loop (rc28 .busy none))]) Kp),gM,gT,e35⟩
   rw[if_neg hk37] at e35;obtain⟨s38,hxs38,e35⟩:=bnd e35;obtain⟨s39,hx40,e35⟩:=bnd e35;refine RG (ST (XL H Ta9) G ?_);refine q09 (v' := .bool true) (q1q G G) (congrArg Value.bool (by rw[decide_eq_false hk37];rfl)) (q00 G) G G ?_;refine MV G G (SG (XL H Ta9) G G G ?_);refine SG (XL H Ta9) G G G ?_;refine SG (q01 G) G G G (SG (q0q G G hxs38) G G G (q05 H (Y12 hx40) G ⟨gM,gT⟩ (q04 G G G) G ?_));intro v33 M w H hle hR;replace gM:=gM.mono hle;replace gT:=gT.mono hle;obtain rfl:=hR;refine SG (q0g Tu9 G) G G G (SG (q0E G G) G G G (PT G G G (NL ?_)));exact MN ⟨_,_,G,(H.pick (L':=[.blk bk3 (.cells #[I 0,I 0] 27), .blk bk4 (.cells #[S s17] 9), .blk bk5 (.cells #[v26] 55),RowI 9 encS v26 l25, .blk bk6 (.cells #[S s27] 9), .blk lid28 (.loop (rc28 .busy none))]) Kp),gM,gT,e35⟩
  rintro e w ⟨b36,M,rfl,H,gM,gT,q41⟩;obtain rfl:=oI q41;refine TN ?_;refine q0k G (fun hk42=>?_) (fun hk42=>?_)
  ·
   subst hk42;rw[if_pos rfl] at e33;refine SQ ?_;obtain⟨s43,hx44,e33⟩:=bnd e33;obtain⟨l45,hxl45,e33⟩:=bnd e33;refine q2f (fun e w =>∃(v46:Value) (M:Mem),e=[(3,ptr bk3 0),(4,ptr bk4 0),(5,ptr bk5 0),(6,ptr bk6 0),(7,S x32)]∧StX (feet (.blk lid28 (.loop (rc28 .ready none))::[.blk bk3 (.cells #[I 0,I 0] 27), .blk bk4 (.cells #[S s17] 9), .blk bk5 (.cells #[v26] 55),RowI 9 encS v26 l25, .blk bk6 (.cells #[S s27] 9)])) wb28 Mb28 M [.blk bk3 (.cells #[I 0,I 0] 27), .blk bk4 (.cells #[S s17] 9), .blk bk5 (.cells #[v46] 55),RowI 9 encS v46 l45, .blk bk6 (.cells #[S s27] 9), .blk lid28 (.loop (rc28 .busy none))] w∧GlF (fun w =>∃m,w.cell? ⟨2,0,none⟩=some (.int .i64 m)) M∧Tabs M) ?_ ?_
   ·
    refine q0H (m:=7) G G H ?_;intro w H;refine WA.three (i:=0) (j:=1) (k:=2) Kr G G G ?_ ?_ ?_
    ·
     refine ST (XL H Ta55) G ?_;refine NA ?_;refine q0R (i:=1) (j:=2) Kr G G ?_ ?_
     ·
      refine ST (XL H Ta9) G ?_;refine NA (q0v (fuel:=0) [2,3,4,5,6] G Kr (ST (XL H Ta9) G ?_));refine q05 H (Y12 hx44) G ⟨gM,gT⟩ (q00 G) G ?_;intro v40 M w H hle hR;replace gM:=gM.mono hle;replace gT:=gT.mono hle;obtain rfl:=hR;refine q0F (enc:=encS) xty55 ([s43]:List Ls) H G Kf (fun _=>G) G G (q00 G) G ?_;intro v41 M w H hle hs41;replace gM:=gM.mono hle;replace gT:=gT.mono hle;refine q1g (l:=l25) xty55 G (fun _=>G) H G (fun _=>by repeat first|exact .head|apply Upd.tail) G (hs41) hxl45 (q00 G) G ?_;intro v42 w H;refine q0Q [_] H G G (H.rowOne Km) Ku Kf Ts55 (by first|decide|(simp;done)|(simp;omega)) (q00 G) ?_;intro w H;refine NA (q0l Kr ?_);exact MP ⟨_,_,G,H,gM,gT⟩
     refine ST (XL H Ta9) G ?_;refine NA (q0v (fuel:=0) [1,3,4,5,6] G Kr (ST (XL H Ta9) G ?_));refine q05 H (Y12 hx44) G ⟨gM,gT⟩ (q00 G) G ?_;intro v40 M w H hle hR;replace gM:=gM.mono hle;replace gT:=gT.mono hle;obtain rfl:=hR;refine q0F (enc:=encS) xty55 ([s43]:List Ls) H G Kf (fun _=>G) G G (q00 G) G ?_;intro v41 M w H hle hs41;replace gM:=gM.mono hle;replace gT:=gT.mono hle;refine q1g (l:=l25) xty55 G (fun _=>G) H G (fun _=>by repeat first|exact .head|apply Upd.tail) G (hs41) hxl45 (q00 G) G ?_;intro v42 w H;refine q0Q [_] H G G (H.rowOne Km) Ku Kf Ts55 (by first|decide|(simp;done)|(simp;omega)) (q00 G) ?_;intro w H;refine NA (q0l Kr ?_);exact MP ⟨_,_,G,H,gM,gT⟩
    ·
     refine ST (XL H Ta9) G ?_;refine NA ?_;refine q0R (i:=0) (j:=2) Kr G G ?_ ?_
     ·
      refine ST (XL H Ta55) G ?_;refine NA (q0v (fuel:=0) [2,3,4,5,6] G Kr (ST (XL H Ta9) G ?_));refine q05 H (Y12 hx44) G ⟨gM,gT⟩ (q00 G) G ?_;intro v40 M w H hle hR;replace gM:=gM.mono hle;replace gT:=gT.mono hle;obtain rfl:=hR;refine q0F (enc:=encS) xty55 ([s43]:List Ls) H G Kf (fun _=>G) G G (q00 G) G ?_;intro v41 M w H hle hs41;replace gM:=gM.mono hle;replace gT:=gT.mono hle;refine q1g (l:=l25) xty55 G (fun _=>G) H G (fun _=>by repeat first|exact .head|apply Upd.tail) G (hs41) hxl45 (q00 G) G ?_;intro v42 w H;refine q0Q [_] H G G (H.rowOne Km) Ku Kf Ts55 (by first|decide|(simp;done)|(simp;omega)) (q00 G) ?_;intro w H;refine NA (q0l Kr ?_);exact MP ⟨_,_,G,H,gM,gT⟩
     refine ST (XL H Ta9) G ?_;refine NA ?_;refine q0R (i:=0) (j:=3) Kr G G ?_ ?_
     ·
      refine ST (XL H Ta55) G ?_;refine NA (q0v (fuel:=0) [3,4,5,6] G Kr (q05 H (Y12 hx44) G ⟨gM,gT⟩ (q00 G) G ?_));intro v40 M w H hle hR;replace gM:=gM.mono hle;replace gT:=gT.mono hle;obtain rfl:=hR;refine q0F (enc:=encS) xty55 ([s43]:List Ls) H G Kf (fun _=>G) G G (q00 G) G ?_;intro v41 M w H hle hs41;replace gM:=gM.mono hle;replace gT:=gT.mono hle;refine q1g (l:=l25) xty55 G (fun _=>G) H G (fun _=>by repeat first|exact .head|apply Upd.tail) G (hs41) hxl45 (q00 G) G ?_;intro v42 w H;refine q0Q [_] H G G (H.rowOne Km) Ku Kf Ts55 (by first|decide|(simp;done)|(simp;omega)) (q00 G) ?_;intro w H;refine NA (q0l Kr ?_);exact MP ⟨_,_,G,H,gM,gT⟩
     refine q05 H (Y12 hx44) G ⟨gM,gT⟩ (q00 G) G ?_;intro v40 M w H hle hR;replace gM:=gM.mono hle;replace gT:=gT.mono hle;obtain rfl:=hR;refine NA ?_;refine q0R (i:=0) (j:=4) Kr G G ?_ ?_
     ·
      refine ST (XL H Ta55) G ?_;refine NA (q0v (fuel:=0) [4,5,6] G Kr (q0F (enc:=encS) xty55 ([s43]:List Ls) H G Kf (fun _=>G) G G (q00 G) G ?_));intro v41 M w H hle hs41;replace gM:=gM.mono hle;replace gT:=gT.mono hle;refine q1g (l:=l25) xty55 G (fun _=>G) H G (fun _=>by repeat first|exact .head|apply Upd.tail) G (hs41) hxl45 (q00 G) G ?_;intro v42 w H;refine q0Q [_] H G G (H.rowOne Km) Ku Kf Ts55 (by first|decide|(simp;done)|(simp;omega)) (q00 G) ?_;intro w H;refine NA (q0l Kr ?_);exact MP ⟨_,_,G,H,gM,gT⟩
     refine q0F (enc:=encS) xty55 ([s43]:List Ls) H G Kf (fun _=>G) G G (q00 G) G ?_;intro v41 M w H hle hs41;replace gM:=gM.mono hle;replace gT:=gT.mono hle;refine NA (q0v (fuel:=0) [0,5,6] G Kr (ST (XL H Ta55) G ?_));refine q1g (l:=l25) xty55 G (fun _=>G) H G (fun _=>by repeat first|exact .head|apply Upd.tail) G (hs41) hxl45 (q00 G) G ?_;intro v42 w H;refine q0Q [_] H G G (H.rowOne Km) Ku Kf Ts55 (by first|decide|(simp;done)|(simp;omega)) (q00 G) ?_;intro w H;refine NA (q0l Kr ?_);exact MP ⟨_,_,G,H,gM,gT⟩
    refine ST (XL H Ta9) G ?_;refine NA ?_;refine q0R (i:=0) (j:=1) Kr G G ?_ ?_
    ·
     refine ST (XL H Ta55) G ?_;refine NA (q0v (fuel:=0) [1,3,4,5,6] G Kr (ST (XL H Ta9) G ?_));refine q05 H (Y12 hx44) G ⟨gM,gT⟩ (q00 G) G ?_;intro v40 M w H hle hR;replace gM:=gM.mono hle;replace gT:=gT.mono hle;obtain rfl:=hR;refine q0F (enc:=encS) xty55 ([s43]:List Ls) H G Kf (fun _=>G) G G (q00 G) G ?_;intro v41 M w H hle hs41;replace gM:=gM.mono hle;replace gT:=gT.mono hle;refine q1g (l:=l25) xty55 G (fun _=>G) H G (fun _=>by repeat first|exact .head|apply Upd.tail) G (hs41) hxl45 (q00 G) G ?_;intro v42 w H;refine q0Q [_] H G G (H.rowOne Km) Ku Kf Ts55 (by first|decide|(simp;done)|(simp;omega)) (q00 G) ?_;intro w H;refine NA (q0l Kr ?_);exact MP ⟨_,_,G,H,gM,gT⟩
    refine ST (XL H Ta9) G ?_;refine NA ?_;refine q0R (i:=0) (j:=3) Kr G G ?_ ?_
    ·
     refine ST (XL H Ta55) G ?_;refine NA (q0v (fuel:=0) [3,4,5,6] G Kr (q05 H (Y12 hx44) G ⟨gM,gT⟩ (q00 G) G ?_));intro v40 M w H hle hR;replace gM:=gM.mono hle;replace gT:=gT.mono hle;obtain rfl:=hR;refine q0F (enc:=encS) xty55 ([s43]:List Ls) H G Kf (fun _=>G) G G (q00 G) G ?_;intro v41 M w H hle hs41;replace gM:=gM.mono hle;replace gT:=gT.mono hle;refine q1g (l:=l25) xty55 G (fun _=>G) H G (fun _=>by repeat first|exact .head|apply Upd.tail) G (hs41) hxl45 (q00 G) G ?_;intro v42 w H;refine q0Q [_] H G G (H.rowOne Km) Ku Kf Ts55 (by first|decide|(simp;done)|(simp;omega)) (q00 G) ?_;intro w H;refine NA (q0l Kr ?_);exact MP ⟨_,_,G,H,gM,gT⟩
    refine q05 H (Y12 hx44) G ⟨gM,gT⟩ (q00 G) G ?_;intro v40 M w H hle hR;replace gM:=gM.mono hle;replace gT:=gT.mono hle;obtain rfl:=hR;refine NA ?_;refine q0R (i:=0) (j:=4) Kr G G ?_ ?_
    ·
     refine ST (XL H Ta55) G ?_;refine NA (q0v (fuel:=0) [4,5,6] G Kr (q0F (enc:=encS) xty55 ([s43]:List Ls) H G Kf (fun _=>G) G G (q00 G) G ?_));intro v41 M w H hle hs41;replace gM:=gM.mono hle;replace gT:=gT.mono hle;refine q1g (l:=l25) xty55 G (fun _=>G) H G (fun _=>by repeat first|exact .head|apply Upd.tail) G (hs41) hxl45 (q00 G) G ?_;intro v42 w H;refine q0Q [_] H G G (H.rowOne Km) Ku Kf Ts55 (by first|decide|(simp;done)|(simp;omega)) (q00 G) ?_;intro w H;refine NA (q0l Kr ?_);exact MP ⟨_,_,G,H,gM,gT⟩
    refine q0F (enc:=encS) xty55 ([s43]:List Ls) H G Kf (fun _=>G) G G (q00 G) G ?_;intro v41 M w H hle hs41;replace gM:=gM.mono hle;replace gT:=gT.mono hle;refine NA (q0v (fuel:=0) [0,5,6] G Kr (ST (XL H Ta55) G ?_));refine q1g (l:=l25) xty55 G (fun _=>G) H G (fun _=>by repeat first|exact .head|apply Upd.tail) G (hs41) hxl45 (q00 G) G ?_;intro v42 w H;refine q0Q [_] H G G (H.rowOne Km) Ku Kf Ts55 (by first|decide|(simp;done)|(simp;omega)) (q00 G) ?_;intro w H;refine NA (q0l Kr ?_);exact MP ⟨_,_,G,H,gM,gT⟩
   rintro e w ⟨v46,M,rfl,H,gM,gT⟩;refine TN (RG (q0c [_] H G G G Ku Ts9 G Kf Kf (q00 G) ?_));intro w H;refine NL (TN ?_);obtain⟨s47,hxs47,e33⟩:=bnd e33;refine RG (ST (XL H Ta9) G ?_);refine MV G G (ST (q0q G G hxs47) G (q0c [_] H G G G Ku Ts9 G Kf Kf (q00 G) ?_));intro w H;refine NL (IB ?_);obtain rfl:=oI e33;exact WQ.rsOn hrc28 (H.pick (L':=[.blk lid28 (.loop (rc28 .busy none)), .blk bk3 (.cells #[I 0,I 0] 27), .blk bk4 (.cells #[S s17] 9), .blk bk5 (.cells #[v46] 55),RowI 9 encS v46 l45, .blk bk6 (.cells #[S s47] 9)]) Kp) G ⟨_,_,_,G,G,gM,gT⟩
  subst hk42;rw[if_neg l06] at e33;refine SK (TN ?_);obtain⟨s48,hxs48,e33⟩:=bnd e33;refine RG (ST (XL H Ta9) G ?_);refine MV G G (ST (q0q G G hxs48) G (q0c [_] H G G G Ku Ts9 G Kf Kf (q00 G) ?_));intro w H;refine NL (IB ?_);obtain rfl:=oI e33;exact WQ.rsOn hrc28 (H.pick (L':=[.blk lid28 (.loop (rc28 .busy none)), .blk bk3 (.cells #[I 0,I 0] 27), .blk bk4 (.cells #[S s17] 9), .blk bk5 (.cells #[v26] 55),RowI 9 encS v26 l25, .blk bk6 (.cells #[S s48] 9)]) Kp) G ⟨_,_,_,G,G,gM,gT⟩
 ·
  rintro Dm28 w M L H hle hE ⟨l25,v26,s27,rfl,rfl,gM,gT⟩;simp only[l04,l07,l0g] at H;try dsimp only at h
  refine IB (TN (SQ ?_));obtain⟨s49,hx50,h⟩:=bnd h;obtain⟨l51,hxl51,h⟩:=bnd h;obtain⟨s53,hx54,h⟩:=bnd h;obtain⟨⟨n55,n56⟩,hx57,h⟩:=bnd h;try dsimp only at h
  refine q2f (fun e w =>∃  (M:Mem),e=[(2,S s53),(3,ptr bk3 0)]∧St w0 M0 M [.blk bk3 (.cells #[I n55,I n56] 27), .blk Dm28 (.deferred (some []))] w∧GlF (fun w =>∃m,w.cell? ⟨2,0,none⟩=some (.int .i64 m)) M∧Tabs M) ?_ ?_
  ·
   refine q0H (m:=10) G G H ?_;intro w H;refine q1e (i:=1) [0,2] G Kr Kr Kr (XL H Ta9) (q00 G) G G (fun _ _=>G) ?_;refine q1e (i:=2) [0] G Kr Kr Kr (XL H Ta9) (q00 G) G G (fun _ _=>G) ?_;refine q0R (i:=0) (j:=3) Kr G G ?_ ?_
   ·
    refine ST (XL H Ta55) G ?_;refine NA (q0v (fuel:=0) [3,4,5,6,7,8,9] G Kr (q05 H (Y12 hx50) G ⟨gM,gT⟩ (q00 G) G ?_));intro v49 M w H hle hR;replace gM:=gM.mono hle;replace gT:=gT.mono hle;obtain rfl:=hR;refine q0F (enc:=encS) xty55 ([s49]:List Ls) H G Kf (fun _=>G) G G (q00 G) G ?_;intro v50 M w H hle hs50;replace gM:=gM.mono hle;replace gT:=gT.mono hle;refine q1g (l:=l25) xty55 G (fun _=>G) H G (fun _=>by repeat first|exact .head|apply Upd.tail) G (hs50) hxl51 (q00 G) G ?_;intro v51 w H;obtain⟨M,hle,hs52,H⟩:=H.freezeRow (v:=v51) (enc:=encS) (t:=9) Kv;replace gM:=gM.mono hle;replace gT:=gT.mono hle;refine q05 H (Y1E hx54) G (hs52) (q00 G) G ?_;intro v52 M w H hle hR;replace gM:=gM.mono hle;replace gT:=gT.mono hle;obtain rfl:=hR;refine q05 H (Y0L hx57) G trivial (q00 G) G ?_;intro v53 M w H hle hR;replace gM:=gM.mono hle;replace gT:=gT.mono hle;try dsimp only at hR
    obtain rfl:=hR;refine AS G G (q0c [_,_] H G G G Ku Ts27 G Kf Kf (q00 G) ?_);intro w H;refine NA (q0l Kr ?_);exact MP ⟨_,G,(H.pick (L':=[.blk bk3 (.cells #[I n55,I n56] 27), .blk Dm28 (.deferred (some []))]) Kp),gM,gT⟩
   refine q05 H (Y12 hx50) G ⟨gM,gT⟩ (q00 G) G ?_;intro v49 M w H hle hR;replace gM:=gM.mono hle;replace gT:=gT.mono hle;obtain rfl:=hR;refine NA ?_;refine q0R (i:=0) (j:=4) Kr G G ?_ ?_
   ·
    refine ST (XL H Ta55) G ?_;refine NA (q0v (fuel:=0) [4,5,6,7,8,9] G Kr (q0F (enc:=encS) xty55 ([s49]:List Ls) H G Kf (fun _=>G) G G (q00 G) G ?_));intro v50 M w H hle hs50;replace gM:=gM.mono hle;replace gT:=gT.mono hle;refine q1g (l:=l25) xty55 G (fun _=>G) H G (fun _=>by repeat first|exact .head|apply Upd.tail) G (hs50) hxl51 (q00 G) G ?_;intro v51 w H;obtain⟨M,hle,hs52,H⟩:=H.freezeRow (v:=v51) (enc:=encS) (t:=9) Kv;replace gM:=gM.mono hle;replace gT:=gT.mono hle;refine q05 H (Y1E hx54) G (hs52) (q00 G) G ?_;intro v52 M w H hle hR;replace gM:=gM.mono hle;replace gT:=gT.mono hle;obtain rfl:=hR;refine q05 H (Y0L hx57) G trivial (q00 G) G ?_;intro v53 M w H hle hR;replace gM:=gM.mono hle;replace gT:=gT.mono hle;try dsimp only at hR
    obtain rfl:=hR;refine AS G G (q0c [_,_] H G G G Ku Ts27 G Kf Kf (q00 G) ?_);intro w H;refine NA (q0l Kr ?_);exact MP ⟨_,G,(H.pick (L':=[.blk bk3 (.cells #[I n55,I n56] 27), .blk Dm28 (.deferred (some []))]) Kp),gM,gT⟩
   refine q0F (enc:=encS) xty55 ([s49]:List Ls) H G Kf (fun _=>G) G G (q00 G) G ?_;intro v50 M w H hle hs50;replace gM:=gM.mono hle;replace gT:=gT.mono hle;refine NA (q0v (fuel:=0) [0,5,6,7,8,9] G Kr (ST (XL H Ta55) G ?_));refine q1g (l:=l25) xty55 G (fun _=>G) H G (fun _=>by repeat first|exact .head|apply Upd.tail) G (hs50) hxl51 (q00 G) G ?_;intro v51 w H;obtain⟨M,hle,hs52,H⟩:=H.freezeRow (v:=v51) (enc:=encS) (t:=9) Kv;replace gM:=gM.mono hle;replace gT:=gT.mono hle;refine q05 H (Y1E hx54) G (hs52) (q00 G) G ?_;intro v52 M w H hle hR;replace gM:=gM.mono hle;replace gT:=gT.mono hle;obtain rfl:=hR;refine q05 H (Y0L hx57) G trivial (q00 G) G ?_;intro v53 M w H hle hR;replace gM:=gM.mono hle;replace gT:=gT.mono hle;try dsimp only at hR
   obtain rfl:=hR;refine AS G G (q0c [_,_] H G G G Ku Ts27 G Kf Kf (q00 G) ?_);intro w H;refine NA (q0l Kr ?_);exact MP ⟨_,G,(H.pick (L':=[.blk bk3 (.cells #[I n55,I n56] 27), .blk Dm28 (.deferred (some []))]) Kp),gM,gT⟩
  rintro e w ⟨M,rfl,H,gM,gT⟩;refine TN (RT ?_);obtain rfl:=oI h;exact WQ.nret2 G H Kv (fun w H=>⟨G,⟨_,G,H.loadAgg Km Ta27 Ts27 Kf⟩⟩) G
 intro Dm w M L c H hle hE;cases hE
theorem Y3m {p0:Ls}{r:Ls}(h:Y2l p0=some r):Ct Tryz.prog 43 [S p0] (fun M=>GlF (fun w =>∃m,w.cell? ⟨2,0,none⟩=some (.int .i64 m)) M∧Tabs M) (fun v M=>v=S r):=by
 refine Ct.ofM Tryz.func43 (enters Tryz.func43 Kr G) G G G ?_;intro w0 M0 H hp;obtain⟨gM,gT⟩:=hp;unfold Y2l at h;refine SQ (RG (q1z [_] H G G (q00 G) G ?_));intro bk1 w H;refine q0j [_] H Tz9 G (q00 G) G ?_;intro bk2 w H;refine NL (TN (SQ (SQ ?_)));obtain⟨⟨s1,⟨n2,n3⟩⟩,hx4,h⟩:=bnd h;try dsimp only at h
 refine RG (ST (XL H Ta9) G ?_);refine q05 H (Y4X hx4) G ⟨gM,gT⟩ (q00 G) G ?_;intro v8 M w H hle hR;replace gM:=gM.mono hle;replace gT:=gT.mono hle;try dsimp only at hR
 obtain rfl:=hR;refine MV G G (ST (q0b G G) G (ST (q0b G G) G (q0j [_,_] H Tz27 G (q00 G) G ?_)));intro bk4 w H;refine AS G G (q0c [_,_] H G G G Ku Ts27 G Kf Kf (q00 G) ?_);intro w H;refine NL (TN (SQ (RG (MV G G (ST (XL H Ta9) G ?_)))));refine ST (q1q G G) G (NL (TN ?_));refine q0k G (fun hk5=>?_) (fun hk5=>?_)
 ·
  replace hk5 :¬(s1=p0):=of_not_decide hk5;rw[if_neg hk5] at h;refine SQ (RG (MV G G (q0c [_] H G G G Ku Ts9 G Kf Kf (q00 G) ?_)));intro w H;refine NL (TN (RT ?_));obtain rfl:=oI h;exact WQ.mret1 G ⟨_,G,H.load1 Km Ta9 Kf⟩ H.ext G
 replace hk5:s1=p0:=of_not_decide' hk5;rw[if_pos hk5] at h;refine SK (TN (SQ (SQ (RG (ST (XL H Ta9) G ?_)))));refine q0x (A:=[]) (B:=[.blk bk4 (.cells #[I n2,I n3] 27), .blk bk2 (.cells #[S []] 9), .blk bk1 (.cells #[S p0] 9)]) H Y3H (q0o _) G trivial (q00 G) G ?_;intro v16 M w its H hle hR;replace gM:=gM.mono hle;replace gT:=gT.mono hle;obtain⟨bk16_0,bk16_1,bk16_2,rfl,rfl⟩:=hR;simp only[l04,l07] at H;refine NL (TN (BL ?_));obtain⟨o9,e10,h⟩:=bnd h;refine WC.rangeS (A:=[.blk bk16_0 (.cells #[S [32]] 9), .blk bk16_1 (.cells #[S p0] 9), .blk bk16_2 (.cells #[I 0] 3)]) (L:=[.blk bk1 (.cells #[S p0] 9), .blk bk2 (.cells #[S []] 9)]) (B:=[]) (H.pick (L':=[.blk bk16_0 (.cells #[S [32]] 9), .blk bk16_1 (.cells #[S p0] 9), .blk bk16_2 (.cells #[I 0] 3), .blk bk1 (.cells #[S p0] 9), .blk bk2 (.cells #[S []] 9)]) Kp) rfl Y3t (.left (.left (.left (.left (.left (q0o _)))))) ⟨gM,gT⟩ rfl (fun s L M =>∃(s6:Ls) (tg8:Nat),s=(s6,tg8)∧L=[.blk bk1 (.cells #[S p0] 9), .blk bk2 (.cells #[S s6] 9)]∧GlF (fun w =>∃m,w.cell? ⟨2,0,none⟩=some (.int .i64 m)) M∧Tabs M) (fun s=>exE [.ret] s.2) exStop (fun s=>exE_stop _ s) (Y23 p0) ([],0) o9 e10 (by rintro s L M M' ⟨s6,tg8,rfl,rfl,gM,gT⟩ hle;exact ⟨_,_,rfl,rfl,gM.mono hle,gT.mono hle⟩) rfl ⟨_,_,rfl,rfl,gM,gT⟩ ?_ ?_ ?_
 ·
  rintro lid7 rc7 hrc7 s x11 sx7 L wb7 Mb7 hE e12 ⟨s6,tg8,rfl,rfl,gM,gT⟩ H;unfold Y23 at e12;try dsimp only at e12
  refine RG (AS G G (NL (WQ.begin hrc7 H Ku ?_)));intro w H;refine BL (SQ ?_);obtain⟨o13,e14,e12⟩:=bnd e12;refine q0h (fun e w =>∃(b15:Bool) (M:Mem),e=[(1,ptr bk1 0),(2,ptr bk2 0),(24,Value.bool b15)]∧StX (feet (.blk lid7 (.loop (rc7 .ready none))::[.blk bk1 (.cells #[S p0] 9), .blk bk2 (.cells #[S s6] 9)])) wb7 Mb7 M [.blk bk1 (.cells #[S p0] 9), .blk bk2 (.cells #[S s6] 9), .blk lid7 (.loop (rc7 .busy none))] w∧GlF (fun w =>∃m,w.cell? ⟨2,0,none⟩=some (.int .i64 m)) M∧Tabs M∧some b15=some o13) [] ?_ ?_ (trivial)
  ·
   by_cases hk16:x11=[]
   ·
    rw[if_pos hk16] at e14;refine RG (MV G G (DT hk16 (q0z G G) G (MV G G (q0i 3 G G (PT G G G (NL ?_))))));exact MN ⟨_,_,G,(H.pick (L':=[.blk bk1 (.cells #[S p0] 9), .blk bk2 (.cells #[S s6] 9), .blk lid7 (.loop (rc7 .busy none))]) Kp),gM,gT,e14⟩
   rw[if_neg hk16] at e14;obtain⟨b17,hx18,e14⟩:=bnd e14;refine RG (MV G G (DF hk16 (q0z G G) G (MV G G (SG (q01 G) G G G (q05 H (Y3N hx18) G ((⟨⟨G,G⟩,(fun _ _ h=>FnV.of (Y3c h) (fun _ _=>trivial))⟩:FnT90 _ _ _)) (q04 G G G) G ?_)))));intro v22 M w H hle hR;replace gM:=gM.mono hle;replace gT:=gT.mono hle;obtain rfl:=hR;refine SG (q0L G) G G G (PF G G G (NL ?_));exact MN ⟨_,_,G,(H.pick (L':=[.blk bk1 (.cells #[S p0] 9), .blk bk2 (.cells #[S s6] 9), .blk lid7 (.loop (rc7 .busy none))]) Kp),gM,gT,e14⟩
  rintro e w ⟨b15,M,rfl,H,gM,gT,q19⟩;obtain rfl:=oI q19;refine TN ?_;refine q0k G (fun hk20=>?_) (fun hk20=>?_)
  ·
   subst hk20;rw[if_pos rfl] at e12;refine SQ ?_;obtain⟨s21,hx22,e12⟩:=bnd e12;refine RG (ST (XL H Ta9) G ?_);refine q05 H (Y3l hx22) G trivial (q00 G) G ?_;intro v26 M w H hle hR;replace gM:=gM.mono hle;replace gT:=gT.mono hle;obtain rfl:=hR;refine q0c [_] H G G G Ku Ts9 G Kf Kf (q00 G) ?_;intro w H;refine NL (TN (RT ?_));obtain rfl:=oI e12;exact WQ.rsRet hrc7 (H.pick (L':=[.blk lid7 (.loop (rc7 .busy none)), .blk bk1 (.cells #[S p0] 9), .blk bk2 (.cells #[S s21] 9)]) Kp) G ⟨_,_,G,G,gM,gT⟩
  subst hk20;rw[if_neg l06] at e12;refine SK (IB ?_);obtain rfl:=oI e12;exact WQ.rsOn hrc7 (H.pick (L':=[.blk lid7 (.loop (rc7 .busy none)), .blk bk1 (.cells #[S p0] 9), .blk bk2 (.cells #[S s6] 9)]) Kp) G ⟨_,_,G,G,gM,gT⟩
 ·
  rintro Dm7 w M L H hle hE ⟨s6,tg8,rfl,rfl,gM,gT⟩;simp only[l04,l07,l0g] at H;try dsimp only at h
  obtain rfl:=exE_none hE;rw[if_pos rfl] at h;refine IB (TN (SQ (RG (ST (XL H Ta9) G ?_))));refine q0c [_] H G G G Ku Ts9 G Kf Kf (q00 G) ?_;intro w H;refine NL (TN (RT ?_));obtain rfl:=oI h;exact WQ.nret1 G H Kv (fun w H=>⟨_,G,H.load1 Km Ta9 Kf⟩) G
 rintro Dm7 w M L c H hle hE ⟨s6,tg8,rfl,rfl,gM,gT⟩;simp only[l04,l07,l0g] at H;try dsimp only at h
 by_cases kt7:tg8=1
 ·
  subst kt7;obtain rfl:=oI hE;rw[if_neg Dc,if_pos rfl] at h;refine RT ?_;obtain rfl:=oI h;exact WQ.nret1 G H Kv (fun w H=>⟨_,G,H.load1 Km Ta9 Kf⟩) G
 have kn7_1:=kt7;rw[if_neg (exE_ne hE),if_neg kn7_1] at h;cases h
theorem Y4z {p0:(Ls × Ls × Ls)}{r:Ls}(h:Y2K p0=some r):Ct Tryz.prog 40 [Value.agg #[S p0.1,S p0.2.1,S p0.2.2]] (fun M=>GlF (fun w =>∃m,w.cell? ⟨2,0,none⟩=some (.int .i64 m)) M∧Tabs M) (fun v M=>v=S r):=by
 refine Ct.of Tryz.func40 (enters Tryz.func40 Kr G) G G G ?_;intro w0 M0 H hp;obtain⟨gM,gT⟩:=hp;unfold Y2K at h;refine SQ (RG (q1z [_,_,_] H G G (q00 G) G ?_));intro bk1 w H;refine AS G G (NL (TN (SQ (SQ (RG (ST (q03 Tu24 G Ts9 Dc G) G (ST (XL H Ta9) G ?_)))))));refine ST (q0z G G) G (NL (TN ?_));refine CB (p:=p0.1=[]) G (fun hk1=>?_) fun hk1=>?_
 ·
  rw[if_pos hk1] at h;refine SQ ?_;obtain⟨s2,hx3,h⟩:=bnd h;refine RG (ST (q0w H G Km Ta24 Ts24 Kf) G ?_);refine q05 H (Y1I hx3) G ⟨gM,gT⟩ (q00 G) G ?_;intro v7 M w H hle hR;obtain rfl:=hR;refine AS G G (NL (TN (RT ?_)));obtain rfl:=oI h;exact q07 G G H.ext G
 rw[if_neg hk1] at h;refine SK (TN (SQ ?_));obtain⟨s4,hx5,h⟩:=bnd h;obtain⟨s6,hxs6,h⟩:=bnd h;obtain⟨s7,hx8,h⟩:=bnd h;obtain⟨s9,hxs9,h⟩:=bnd h;obtain⟨s10,hxs10,h⟩:=bnd h;refine q2f (fun e w =>∃  (M:Mem),e=[(2,S s10)]∧St w0 M0 M [] w∧GlF (fun w =>∃m,w.cell? ⟨2,0,none⟩=some (.int .i64 m)) M∧Tabs M) ?_ ?_
 ·
  refine q0H (m:=9) G G H ?_;intro w H;refine TK 0 G (fun _=>q03 Tu24 G Ts9 Dc G) G (q1e (i:=1) [4] G Kr Kr Kr (XL H Ta9) (q00 G) G G (fun _ _=>G) ?_);refine q0R (i:=2) (j:=4) Kr G G ?_ ?_
  ·
   refine q05 H (Y3m hx5) G ⟨gM,gT⟩ (q00 G) G ?_;intro v10 M w H hle hR;replace gM:=gM.mono hle;replace gT:=gT.mono hle;obtain rfl:=hR;refine NA (TK 3 G (fun _=>q0q G G hxs6) G (q0v (fuel:=0) [4,5,6,7,8] G Kr (ST (q0w H G Km Ta24 Ts24 Kf) G ?_)));refine q05 H (Y1I hx8) G ⟨gM,gT⟩ (q00 G) G ?_;intro v13 M w H hle hR;replace gM:=gM.mono hle;replace gT:=gT.mono hle;obtain rfl:=hR;refine ST (q0q G G hxs9) G (ST (q0q G G hxs10) G (AS G G (NA (q0l Kr ?_))));exact MP ⟨_,G,(H.pick (L':=[]) Kp),gM,gT⟩
  refine ST (q0w H G Km Ta24 Ts24 Kf) G ?_;refine NA (ON 2 Kr G (q05 H (Y3m hx5) G ⟨gM,gT⟩ (q00 G) G ?_));intro v10 M w H hle hR;replace gM:=gM.mono hle;replace gT:=gT.mono hle;obtain rfl:=hR;refine NA (TK 3 G (fun _=>q0q G G hxs6) G (q0v (fuel:=0) [5,6,7,8] G Kr (q05 H (Y1I hx8) G ⟨gM,gT⟩ (q00 G) G ?_)));intro v13 M w H hle hR;replace gM:=gM.mono hle;replace gT:=gT.mono hle;obtain rfl:=hR;refine ST (q0q G G hxs9) G (ST (q0q G G hxs10) G (AS G G (NA (q0l Kr ?_))));exact MP ⟨_,G,(H.pick (L':=[]) Kp),gM,gT⟩
 rintro e w ⟨M,rfl,H,gM,gT⟩;refine TN (RT ?_);obtain rfl:=oI h;exact q07 G G H.ext G
theorem Y3R {p0:Ls}{p1:Ls}{r:Ls}(h:Y0W p0 p1=some r):Ct Tryz.prog 77 [S p0,S p1] (fun M=>True) (fun v M=>v=S r):=by
 refine Ct.of Tryz.func77 (enters Tryz.func77 Kr G) G G G ?_;intro w0 M0 H hp;unfold Y0W at h;refine SQ (RG (AS G G (NL (TN (SQ (SQ ?_))))));obtain⟨b1,hx2,h⟩:=bnd h;refine RG (MV G G (MV G G (q05 H (Y3a hx2) G trivial (q00 G) G ?_)));intro v7 M w H hle hR;obtain rfl:=hR;refine NL (TN ?_);refine q0k G (fun hk3=>?_) (fun hk3=>?_)
 ·
  subst hk3;rw[if_pos rfl] at h;refine SQ ?_;obtain⟨n4,hxn4,h⟩:=bnd h;obtain⟨s5,hxs5,h⟩:=bnd h;refine RG (MV G G (MV G G (ST (q0g Tu9 G) G (MV G G (ST (q0g Tu9 G) G (ST (q1E G G hxn4) G (ST (q2m Tu9 G G hxs5) G (AS G G (NL (TN (RT ?_)))))))))));obtain rfl:=oI h;exact q07 G G H.ext G
 subst hk3;rw[if_neg l06] at h;refine SK (TN (SQ (RG (MV G G (AS G G (NL (TN (RT ?_))))))));obtain rfl:=oI h;exact q07 G G H.ext G
theorem Y4g {p0:Ls}{p1:Ls}{r:Ls}(h:Y0J p0 p1=some r):Ct Tryz.prog 42 [S p0,S p1] (fun M=>True) (fun v M=>v=S r):=by
 refine Ct.of Tryz.func42 (enters Tryz.func42 Kr G) G G G ?_;intro w0 M0 H hp;unfold Y0J at h;refine SQ (RG (AS G G (NL (TN (SQ ?_)))));obtain⟨s1,hx2,h⟩:=bnd h;refine RG (MV G G (MV G G (q05 H (Y3R hx2) G trivial (q00 G) G ?_)));intro v7 M w H hle hR;obtain rfl:=hR;refine AS G G (NL (TN (RT ?_)));obtain rfl:=oI h;exact q07 G G H.ext G
theorem Y3u {p0:List (Ls × Bool × List (Ls × Ls × Ls))}{vp0:Value}{r:(Ls × (Int × Int))}(h:Y2g p0=some r):Ct Tryz.prog 16 [vp0] (fun M=>GlF (fun w =>∃m,w.cell? ⟨2,0,none⟩=some (.int .i64 m)) M∧Tabs M∧SlR xrl34 M vp0 p0) (fun v M=>v=Value.tuple #[S r.1,Value.agg #[I r.2.1,I r.2.2]]):=by
 refine Ct.of Tryz.func16 (enters Tryz.func16 Kr G) G G G ?_;intro w0 M0 H hp;obtain⟨gM,gT,hp0⟩:=hp;unfold Y2g at h;refine SQ (RG (AS G G (q0j [_,_] H Tz27 G (q00 G) G ?_)));intro bk3 w H;refine NL (TN (SQ (SQ ?_)));obtain⟨⟨n1,n2⟩,hx3,h⟩:=bnd h;try dsimp only at h
 refine RG (MV G G (q05 H (Y2z hx3) G ⟨gM,gT,hp0⟩ (q00 G) G ?_));intro v14 M w H hle hR;replace gM:=gM.mono hle;replace gT:=gT.mono hle;replace hp0:=hp0.mono hle;try dsimp only at hR
 obtain rfl:=hR;refine q0j [_,_] H Tz27 G (q00 G) G ?_;intro bk4 w H;refine q0c [_,_] H G G G Ku Ts27 G Kf Kf (q00 G) ?_;intro w H;refine NL (TN (SQ ?_));obtain⟨b4,hx5,h⟩:=bnd h;refine RG (ST (q0w H G Km Ta27 Ts27 Kf) G ?_);refine q05 H (Y2t hx5) G trivial (q00 G) G ?_;intro v16 M w H hle hR;replace gM:=gM.mono hle;replace gT:=gT.mono hle;replace hp0:=hp0.mono hle;obtain rfl:=hR;refine NL (TN ?_);refine q0k G (fun hk6=>?_) (fun hk6=>?_)
 ·
  subst hk6;rw[if_pos rfl] at h;refine SQ (q0H (m:=3) G G H ?_);intro w H;refine TK 1 G (fun _=>Ex.assign G) G (q0v (fuel:=0) [0,2] G Kr (ST (q0w H G Km Ta27 Ts27 Kf) G ?_));refine q0c [_,_] H G G G Ku Ts27 G Kf Kf (q00 G) ?_;intro w H;refine NA (q0l Kr (TN (RT ?_)));obtain rfl:=oI h;exact q0y G G ⟨_,G,H.loadAgg Km Ta27 Ts27 Kf⟩ H.ext G
 subst hk6;rw[if_neg l06] at h;refine SK (TN (SQ (RG (AS G G (NL (TN (SQ (SQ (RG (MV G G (ST (q1v Tu22 hp0 G) G (MV G G (NL (TN ?_))))))))))))));obtain⟨o7,e8,h⟩:=bnd h;refine q0h (fun e w =>∃(l10:List Ls) (v11:Value) (M:Mem),e=[(3,ptr bk3 0),(5,v11)]∧St w0 M0 M [.blk bk3 (.cells #[I 0,I 0] 27),RowI 9 encS v11 l10] w∧GlF (fun w =>∃m,w.cell? ⟨2,0,none⟩=some (.int .i64 m)) M∧Tabs M∧some l10=some o7) [] ?_ ?_ (trivial)
 ·
  refine BL ?_;replace H:=H.newRow 9 encS;refine q0A (fun m e w =>∃(l13:List Ls) (v14:Value) (n15:Int) (M:Mem),e=[(3,ptr bk3 0),(5,v14),(18,vp0),(19,I (p0.length:Int)),(20,I n15)]∧St w0 M0 M [.blk bk3 (.cells #[I 0,I 0] 27),RowI 9 encS v14 l13] w∧GlF (fun w =>∃m,w.cell? ⟨2,0,none⟩=some (.int .i64 m)) M∧Tabs M∧SlR xrl34 M vp0 p0∧Y0A p0 m l13 n15=some o7) FU [(3,_),(5,_),(18,_),(19,_),(20,_)] ⟨rfl,rfl,rfl,rfl,rfl,trivial⟩ ⟨_,_,_,_,rfl,(H.pick (L':=[.blk bk3 (.cells #[I 0,I 0] 27),RowI 9 encS (Value.slice none 0 0) []]) Kp),gM,gT,hp0,e8⟩ ?_;rintro m16 e w ⟨l13,v14,n15,M,rfl,H,gM,gT,hp0,e8⟩;rcases m16 with _|m16
  · rw[Y0A] at e8;cases e8
  rw[Y0A] at e8;refine SQ (RG (ST (q0n G G) G (NL (TN (SQ ?_)))));refine CB (p:=n15<(p0.length:Int)) G (fun hk18=>?_) fun hk18=>?_
  ·
   rw[if_pos hk18] at e8;refine SK (TN (SQ (BL (SQ ?_))));obtain⟨a19,hxa19,e8⟩:=bnd e8;obtain⟨bk22,o22,fq22,ha22,hc22,hr22⟩:=hp0.atC hxa19;obtain⟨f22_0,f22_1,q22_2⟩:=fq22;replace hr22:f22_0=a19.1∧f22_1=a19.2.1∧SlS M 3 xenc24 (hv q22_2) a19.2.2:=hr22;obtain⟨rfl,rfl,hs22_2⟩:=hr22;refine RG (ST (q0u ha22 Tu22 Ts34 G G) G (ST (q1i H G hc22 Ta34 Ts34 Kf) G ?_));refine q0j [_,_,_] H Tz34 G (q00 G) G ?_;intro bk7 w H;refine q0c [_,_,_] H G G G Ku Ts34 G Kf (by simp only[l0H,l2d,(hs22_2).one.2];rfl) (q00 G) ?_;intro w H;refine NL (TN (SQ (RG (AS G G (NL (TN (SQ (SQ (RG (ST (q03 Tu34 G Ts30 Dc G) G (ST (XL H Ta30) G ?_)))))))))));refine ST (q1o Tu30 hs22_2 G) G (MV G G (NL (TN ?_)));obtain⟨o20,e21,e8⟩:=bnd e8;refine q0h (fun e w =>∃(l23:List Ls) (v24:Value) (M:Mem),e=[(3,ptr bk3 0),(5,v14),(7,ptr bk7 0),(8,v24),(18,vp0),(19,I (p0.length:Int)),(20,I n15)]∧St w0 M0 M [.blk bk3 (.cells #[I 0,I 0] 27),RowI 9 encS v14 l13, .blk bk7 (.cells #[S a19.1,Value.bool a19.2.1,(hv q22_2)] 34),RowI 9 encS v24 l23] w∧GlF (fun w =>∃m,w.cell? ⟨2,0,none⟩=some (.int .i64 m)) M∧Tabs M∧SlS M 3 xenc24 (hv q22_2) a19.2.2∧SlR xrl34 M vp0 p0∧some l23=some o20) [] ?_ ?_ (trivial)
   ·
    refine BL ?_;replace H:=H.newRow 9 encS;refine q0A (fun m e w =>∃(l26:List Ls) (v27:Value) (n28:Int) (M:Mem),e=[(3,ptr bk3 0),(5,v14),(7,ptr bk7 0),(8,v27),(18,vp0),(19,I (p0.length:Int)),(20,I n15),(25,(hv q22_2)),(26,I (a19.2.2.length:Int)),(27,I n28)]∧St w0 M0 M [.blk bk3 (.cells #[I 0,I 0] 27),RowI 9 encS v14 l13, .blk bk7 (.cells #[S a19.1,Value.bool a19.2.1,(hv q22_2)] 34),RowI 9 encS v27 l26] w∧GlF (fun w =>∃m,w.cell? ⟨2,0,none⟩=some (.int .i64 m)) M∧Tabs M∧SlS M 3 xenc24 (hv q22_2) a19.2.2∧SlR xrl34 M vp0 p0∧Y0P a19 m l26 n28=some o20) FU [(3,_),(5,_),(7,_),(8,_),(18,_),(19,_),(20,_),(25,_),(26,_),(27,_)] ⟨rfl,rfl,rfl,rfl,rfl,rfl,rfl,rfl,rfl,rfl,trivial⟩ ⟨_,_,_,_,rfl,(H.pick (L':=[.blk bk3 (.cells #[I 0,I 0] 27),RowI 9 encS v14 l13, .blk bk7 (.cells #[S a19.1,Value.bool a19.2.1,(hv q22_2)] 34),RowI 9 encS (Value.slice none 0 0) []]) Kp),gM,gT,hs22_2,hp0,e21⟩ ?_;rintro m29 e w ⟨l26,v27,n28,M,rfl,H,gM,gT,hs22_2,hp0,e21⟩;rcases m29 with _|m29
    · rw[Y0P] at e21;cases e21
    rw[Y0P] at e21;refine SQ (RG (ST (q0n G G) G (NL (TN (SQ ?_)))));refine CB (p:=n28<(a19.2.2.length:Int)) G (fun hk31=>?_) fun hk31=>?_
    ·
     rw[if_pos hk31] at e21;refine SK (TN (SQ (BL (SQ ?_))));obtain⟨a32,hxa32,e21⟩:=bnd e21;obtain⟨bk29,o29,ha29,hc29⟩:=hs22_2.atC hxa32;refine RG (ST (q0u ha29 Tu30 Ts24 G G) G (ST (q1i H G hc29 Ta24 Ts24 Kf) G ?_));refine q0j [_,_,_] H Tz24 G (q00 G) G ?_;intro bk10 w H;refine q0c [_,_,_] H G G G Ku Ts24 G Kf Kf (q00 G) ?_;intro w H;refine NL (TN ?_);obtain⟨s33,hx34,e21⟩:=bnd e21;obtain⟨l35,hxl35,e21⟩:=bnd e21;refine RG (MV G G (ST (q0w H G Km Ta24 Ts24 Kf) G ?_));refine q05 H (Y4z hx34) G ⟨gM,gT⟩ (q00 G) G ?_;intro v33 M w H hle hR;replace gM:=gM.mono hle;replace gT:=gT.mono hle;replace hp0:=hp0.mono hle;replace hs22_2:=hs22_2.mono hle;obtain rfl:=hR;refine q0F (enc:=encS) xty55 ([s33]:List Ls) H G Kf (fun _=>G) G G (q00 G) G ?_;intro v34 M w H hle hs34;replace gM:=gM.mono hle;replace gT:=gT.mono hle;replace hp0:=hp0.mono hle;replace hs22_2:=hs22_2.mono hle;refine q1g (l:=l26) xty55 G (fun _=>G) H G (fun _=>by repeat first|exact .head|apply Upd.tail) G (hs34) hxl35 (q00 G) G ?_;intro v35 w H;refine AS G G (NL (IB (TN ?_)));obtain⟨n36,hxn36,e21⟩:=bnd e21;refine RG (ST (q0p G G hxn36) G (MV G G (NL ?_)));exact AG m29 ⟨_,_,_,_,G,(H.pick (L':=[.blk bk3 (.cells #[I 0,I 0] 27),RowI 9 encS v14 l13, .blk bk7 (.cells #[S a19.1,Value.bool a19.2.1,(hv q22_2)] 34),RowI 9 encS v35 l35]) Kp),gM,gT,hs22_2,hp0,e21⟩ (l0b _)
    rw[if_neg hk31] at e21;refine q0m (q06 (q06 (q0d ?_)));exact MN ⟨_,_,_,G,H,gM,gT,hs22_2,hp0,e21⟩
   rintro e w ⟨l23,v24,M,rfl,H,gM,gT,hs22_2,hp0,q37⟩;obtain rfl:=oI q37;refine TN (SQ ?_);obtain⟨s39,hx40,e8⟩:=bnd e8;refine RG (MV G G ?_);obtain⟨M,hle,hs38,H⟩:=H.freezeRow (v:=v24) (enc:=encS) (t:=9) Kv;replace gM:=gM.mono hle;replace gT:=gT.mono hle;replace hp0:=hp0.mono hle;refine q05 H (Y1E hx40) G (hs38) (q00 G) G ?_;intro v38 M w H hle hR;replace gM:=gM.mono hle;replace gT:=gT.mono hle;replace hp0:=hp0.mono hle;obtain rfl:=hR;refine AS G G (NL (TN (SQ (SQ (RG (ST (q03 Tu34 G Ts4 Dc G) G (ST (XL H Ta4) G ?_)))))));refine NL (TN ?_);obtain⟨o41,e42,e8⟩:=bnd e8;refine q0h (fun e w =>∃(s43:Ls) (M:Mem),e=[(3,ptr bk3 0),(5,v14),(11,S s43),(18,vp0),(19,I (p0.length:Int)),(20,I n15)]∧St w0 M0 M [.blk bk3 (.cells #[I 0,I 0] 27),RowI 9 encS v14 l13] w∧GlF (fun w =>∃m,w.cell? ⟨2,0,none⟩=some (.int .i64 m)) M∧Tabs M∧SlR xrl34 M vp0 p0∧some s43=some o41) [] ?_ ?_ (trivial)
   ·
    refine q0k G (fun hk44=>?_) (fun hk44=>?_)
    ·
     rw[if_pos hk44] at e42;obtain⟨s45,hx46,e42⟩:=bnd e42;obtain⟨s47,hxs47,e42⟩:=bnd e42;obtain⟨s48,hxs48,e42⟩:=bnd e42;obtain⟨s49,hx50,e42⟩:=bnd e42;obtain⟨s51,hxs51,e42⟩:=bnd e42;refine RG (ST (q03 Tu34 G Ts9 Dc G) G (ST (XL H Ta9) G ?_));refine q05 H (Y3m hx46) G ⟨gM,gT⟩ (q00 G) G ?_;intro v43 M w H hle hR;replace gM:=gM.mono hle;replace gT:=gT.mono hle;replace hp0:=hp0.mono hle;obtain rfl:=hR;refine ST (q0q G G hxs47) G (MV G G (ST (q0q G G hxs48) G (q05 H (Y4g hx50) G trivial (q00 G) G ?_)));intro v47 M w H hle hR;replace gM:=gM.mono hle;replace gT:=gT.mono hle;replace hp0:=hp0.mono hle;obtain rfl:=hR;refine ST (q0q G G hxs51) G (AS G G (NL ?_));exact MN ⟨_,_,G,(H.pick (L':=[.blk bk3 (.cells #[I 0,I 0] 27),RowI 9 encS v14 l13]) Kp),gM,gT,hp0,e42⟩
    rw[if_neg (by rw[hk44];exact l06)] at e42;refine SK ?_;exact MN ⟨_,_,G,(H.pick (L':=[.blk bk3 (.cells #[I 0,I 0] 27),RowI 9 encS v14 l13]) Kp),gM,gT,hp0,e42⟩
   rintro e w ⟨s43,M,rfl,H,gM,gT,hp0,q52⟩;obtain rfl:=oI q52;refine TN ?_;obtain⟨l53,hxl53,e8⟩:=bnd e8;refine RG (MV G G (MV G G (q0F (enc:=encS) xty55 ([s43]:List Ls) H G Kf (fun _=>G) G G (q00 G) G ?_)));intro v51 M w H hle hs51;replace gM:=gM.mono hle;replace gT:=gT.mono hle;replace hp0:=hp0.mono hle;refine q1g (l:=l13) xty55 G (fun _=>G) H G (fun _=>by repeat first|exact .head|apply Upd.tail) G (hs51) hxl53 (q00 G) G ?_;intro v52 w H;refine AS G G (NL (IB (TN ?_)));obtain⟨n54,hxn54,e8⟩:=bnd e8;refine RG (ST (q0p G G hxn54) G (MV G G (NL ?_)));exact AG m16 ⟨_,_,_,_,G,H,gM,gT,hp0,e8⟩ (l0b _)
  rw[if_neg hk18] at e8;refine q0m (q06 (q06 (q0d ?_)));exact MN ⟨_,_,_,G,H,gM,gT,e8⟩
 rintro e w ⟨l10,v11,M,rfl,H,gM,gT,q55⟩;obtain rfl:=oI q55;refine TN (SQ ?_);obtain⟨s57,hx58,h⟩:=bnd h;refine RG (MV G G ?_);obtain⟨M,hle,hs56,H⟩:=H.freezeRow (v:=v11) (enc:=encS) (t:=9) Kv;refine q05 H (Y1E hx58) G (hs56) (q00 G) G ?_;intro v55 M w H hle hR;obtain rfl:=hR;refine AS G G (NL (TN (SQ (SQ (RG (MV G G (ST (q0g Tu9 G) G (ST (q0E G G) G (NL (TN ?_))))))))));refine CB (p:=(4000:Int)<(s57.length:Int)) G (fun hk59=>?_) fun hk59=>?_
 ·
  rw[if_pos hk59] at h;refine SQ ?_;obtain⟨⟨n60,n61⟩,hx62,h⟩:=bnd h;try dsimp only at h
  refine RG (q05 H (Y07 hx62) G trivial (q00 G) G ?_);intro v59 M w H hle hR;try dsimp only at hR
  obtain rfl:=hR;refine AS G G (q0c [_,_] H G G G Ku Ts27 G Kf Kf (q00 G) ?_);intro w H;refine NL (TN (RT ?_));obtain rfl:=oI h;exact q0y G G ⟨_,G,H.loadAgg Km Ta27 Ts27 Kf⟩ H.ext G
 rw[if_neg hk59] at h;refine SK (TN (SQ ?_));obtain⟨⟨n63,n64⟩,hx65,h⟩:=bnd h;try dsimp only at h
 refine RG (MV G G (q05 H (Y0L hx65) G trivial (q00 G) G ?_));intro v61 M w H hle hR;try dsimp only at hR
 obtain rfl:=hR;refine AS G G (q0c [_,_] H G G G Ku Ts27 G Kf Kf (q00 G) ?_);intro w H;refine NL (TN (RT ?_));obtain rfl:=oI h;exact q0y G G ⟨_,G,H.loadAgg Km Ta27 Ts27 Kf⟩ H.ext G
theorem parse_ret {K:World→Prop}{b1 b2 b3:Nat}{w:World}(hK:K w):(∀ar w,(callFunc 45 ar).run Tryz.prog w = .ok (.enter 45 ar) w)∧CallsDIn (Wd none) 0 Tryz.prog 45 ([ptr b1 0,ptr b2 0,ptr b3 0]:List Value).toArray .returning w fun e u' w'=>(∃v,e = .returned v)∧settle u' = .returning∧K w':=by
 refine⟨enters Tryz.func45 Kr G,callsD_of Tryz.func45 G G G G G G ?_⟩;refine BL (SQ (RG (ST (Ex.eqlNil (M:=fun _=>none) (b:=true) Tu20 (.inl ⟨G,G⟩) G) G (NL (TN (CT G (RG (AS G G (NL ?_)))))))));exact WQ.inBlock (WQ.postD0 G hK)
theorem parse_pan {s:Ls}{n:Int}{b1 b2 b3 m:Nat}{z1 z2 z3:Value}{e:Env}{w0 w:World}{M0 M:Mem}{L:List Ph.Item}{R:Value→Mem→Prop}(H:St w0 M0 M L w)(hp:Pick L [.blk b2 (.cells #[z1] 22), .blk b3 (.cells #[z2,z3] 27)])(hb:PtM M b1 (.cells #[S s] 9))
 (h2:get e 2=some (ptr b2 0)) (h3:get e 3=some (ptr b3 0)) (hR :∀M,R (.tuple #[.slice none 0 0, .agg #[I 11,I (min n (s.length:Int))]]) M) :
 WQ (bodyPostDIn (Wd none) 0 Tryz.prog Tryz.f19 (Ret w0 M0 R)) (.panic (onePanic (.iface 69 (.agg #[I n])))) m [dfrOf 45 [ptr b1 0,ptr b2 0,ptr b3 0]] e w:=fun a ha=>by
 show LeavesIn _ _ _ _ _ _ _ _ _
 rw[ha.defers];refine leaves_one (enters Tryz.func45 Kr G) Sm (callsD_of Tryz.func45 G G G G G G ?_);replace H:=H.pick hp;refine BL (SQ (RG (ST (Ex.eqlNil (M:=M) (b:=false) Tu20 (.inr ⟨G,_,_,G⟩) G) G (NL (TN (CF G (SQ (RG (ST (Ex.assertSame Tu69 G) G (ST (q0b G G) G (ST (q0b G G) G (NL (TN (CT G (SQ (RG (q0j [_] H Tryz.zeroValue69 G (q00 G) G ?_)))))))))))))))));intro b4 w H;refine q0c [_] H G G G Ku Tryz.sizeOf69 G Kf Kf (q00 G) ?_;intro w H;refine NL (TN (RG (ST (q03 Tu69 G Ts3 Dc G) G (ST (XL H Ta3) G ?_))));refine ST (q08 H G (hb.cell (j:=0) G) Ta9) G (ST (q0g Tu9 G) G (ST (Ex.min2 G G) G (q05 H (Y07 (p0:=11) (p1:=min n (s.length:Int)) (r:=(11,min n (s.length:Int))) G) G trivial (q00 G) G ?_)));intro v17 M w H hle hR2;try dsimp only at hR2
 obtain rfl:=hR2;refine q0Q [_] H G G (q1u _ _ _) Ku Kf Ts22 (by first|decide|(simp;done)|(simp;omega)) (q00 G) ?_;intro w H;refine q0c [_,_] H G G G Ku Ts27 G Kf Kf (q00 G) ?_;intro w H;refine NL ?_;refine WQ.inBlock (WQ.postD0 G ⟨_,resv_run2 (P:=Tryz.prog) (e:=e) (x := .cell 2 22) (y := .cell 3 27) (v1 := .slice none 0 0) (v2 := .agg #[I 11,I (min n (s.length:Int))]) G ⟨_,h2,H.load1 Km Ta22 Kf⟩ ⟨_,h3,H.loadAgg Km Ta27 Ts27 Kf⟩ a ha,_,M,G,H.ext,hR M⟩)
theorem Y21 {p0:UInt8}{r:Bool}(h:Y13 p0=some r):Ct Tryz.prog 62 [encB p0] (fun M=>True) (fun v M=>v=Value.bool r):=by
 refine Ct.of Tryz.func62 (enters Tryz.func62 Kr G) G G G ?_;intro w0 M0 H hp;unfold Y13 at h;refine SQ (RG (AS G G (NL (TN (SQ ?_)))));obtain⟨o1,e2,h⟩:=bnd h;refine q0h (fun e w =>∃(b3:Bool) (M:Mem),e=[(2,Value.bool b3)]∧St w0 M0 M [] w∧some b3=some o1) [] ?_ ?_ (trivial)
 ·
  by_cases hk4:p0=32
  ·
   rw[if_pos hk4] at e2;refine RG (MV G G (DT hk4 (q1B (c:=p0) (d:=32) G G) G (MV G G (GT G G G (GT G G G (PT G G G (AS G G (NL ?_))))))));exact MN ⟨_,_,G,H,e2⟩
  rw[if_neg hk4] at e2;refine RG (MV G G (DF hk4 (q1B (c:=p0) (d:=32) G G) G (MV G G (SG (q01 G) G G G (SG (q1B (c:=p0) (d:=9) G G) G G G (PF G G G (AS G G (NL ?_))))))));exact MN ⟨_,_,G,H,e2⟩
 rintro e w ⟨b3,M,rfl,H,q5⟩;obtain rfl:=oI q5;refine TN (RT ?_);obtain rfl:=oI h;exact q07 G G H.ext G
theorem Y03 {p0:(Ls × Int)}{bp0:Nat}{r:((Ls × Int) ⊕ Int)}(h:Y0e p0=some r):CtS Tryz.prog 49 [ptr bp0 0] [.blk bp0 (.cells #[S p0.1,I p0.2] 72)] (fun M=>True) (fun x=>fun v M its=>v=Value.tuple #[]∧its=[.blk bp0 (.cells #[S x.1,I x.2] 72)]) (fun n=>Value.iface 69 (Value.agg #[I n])) r:=by
 refine CtS.of Tryz.func49 (enters Tryz.func49 Kr G) G G G ?_;intro w0 M0 H hp;unfold Y0e at h;obtain rfl:=oI h;refine RG (MV G G (FN G G Tu72 G Ts3 G G (ST (XL H Ta3) G ?_)));refine ST (q0N [I p0.2] Tu69 Tryz.zeroValue69 (xplaces69 Tu69) G G) G (ST (Ex.ifaceV Kr G) G (WR.panicI G (q00 G) ?_))
 (repeat(first|refine q0O ?_|refine q0X ?_|refine q0T ?_|refine q0Y ?_))
 exact q0U H
theorem Y2X {p0:(Ls × Int)}{bp0:Nat}{r:((Ls × Int) ⊕ Int)}(h:Y1p p0=some r):CtS Tryz.prog 155 [ptr bp0 0] [.blk bp0 (.cells #[S p0.1,I p0.2] 72)] (fun M=>True) (fun x=>fun v M its=>v=Value.tuple #[]∧its=[.blk bp0 (.cells #[S x.1,I x.2] 72)]) (fun n=>Value.iface 69 (Value.agg #[I n])) r:=by
 refine CtS.of Tryz.func155 (enters Tryz.func155 Kr G) G G G ?_;intro w0 M0 H hp;unfold Y1p at h;refine SQ (RG (AS G G (NL (TN ?_))));obtain⟨o1,e2,h⟩:=bnd h;refine BL (q0A (fun m e w =>∃(s3:Ls) (n4:Int) (n5:Int) (M:Mem),e=[(0,ptr bp0 0),(2,I n5)]∧StX (feet [.blk bp0 (.cells #[S p0.1,I p0.2] 72)]) w0 M0 M [.blk bp0 (.cells #[S s3,I n4] 72)] w∧Y05  m s3 n4 n5=some o1) FU [(0,_),(2,_)] ⟨rfl,rfl,trivial⟩ ⟨_,_,_,_,rfl,H,e2⟩ ?_);rintro m6 e w ⟨s3,n4,n5,M,rfl,H,e2⟩;rcases m6 with _|m6
 · rw[Y05] at e2;cases e2
 rw[Y05] at e2;refine SQ (BL (SQ (SQ (q0H (m:=10) G G H ?_))));intro w H;refine TK 0 G (fun _=>q01 G) G (TK 1 G (fun _=>q0K G) G (TK 2 G (fun _=>q03 Tu72 G Ts3 Dc G) G (TK 4 G (fun _=>q01 G) G (TK 5 G (fun _=>q0K G) G (TK 6 G (fun _=>q03 Tu72 G Ts9 Dc G) G ?_)))));refine q1e (i:=7) [3] G Kr Kr Kr (XL H Ta9) (q00 G) G G (fun _ _=>G) ?_;refine TK 8 G (fun _=>q0g Tu9 G) G (q0v (fuel:=0) [3,9] G Kr (ST (XL H Ta3) G ?_));refine ST (q1a G G) G (NA (q0l Kr (TN ?_)));obtain⟨o7,e8,e2⟩:=bnd e2;refine q0h (fun e w =>∃(s9:Ls) (n10:Int) (M:Mem),e=[(0,ptr bp0 0),(2,I n5)]∧StX (feet [.blk bp0 (.cells #[S p0.1,I p0.2] 72)]) w0 M0 M [.blk bp0 (.cells #[S s9,I n10] 72)] w∧some (.inl (s9,n10))=some o7) [] ?_ ?_ (trivial)
 ·
  refine CB (p:=(s3.length:Int)≤n4) G (fun hk11=>?_) fun hk11=>?_
  ·
   rw[if_pos hk11] at e8;obtain⟨o14,hx13,e8⟩:=bnd e8;rcases o14 with o12|n15
   ·
    try dsimp only at e8
    refine RG (MV G G ?_);refine q0x (A:=[.blk bp0 (.cells #[S s3,I n4] 72)]) (B:=[]) (H.pick (L':=[.blk bp0 (.cells #[S s3,I n4] 72)]) Kp) (Y03 hx13) (.left (q0o _)) G trivial (q00 G) G ?_;intro v21 M w its H hle hR;try dsimp only at hR
    obtain⟨rfl,rfl⟩:=hR;simp only[l04,l07] at H;refine NL ?_;exact MN ⟨_,_,_,G,H,e8⟩
   try dsimp only at e8
   obtain rfl:=oI e8;try dsimp only at e2
   obtain rfl:=oI e2;try dsimp only at h
   obtain rfl:=oI h;refine RG (MV G G ?_);refine q0I (A:=[.blk bp0 (.cells #[S s3,I n4] 72)]) (B:=[]) (H.pick (L':=[.blk bp0 (.cells #[S s3,I n4] 72)]) Kp) (Y03 hx13) (.left (q0o _)) G trivial (q00 G) ?_;intro M w H hle
   (repeat(first|refine q0O ?_|refine q0X ?_|refine q0T ?_|refine q0Y ?_))
   exact q0U H
  rw[if_neg hk11] at e8;refine SK ?_;exact MN ⟨_,_,_,G,H,e8⟩
 rintro e w ⟨s9,n10,M,rfl,H,q16⟩;obtain rfl:=oI q16;try dsimp only at e2
 refine TN (SQ ?_);obtain⟨c17,hxc17,e2⟩:=bnd e2;refine q0H (m:=9) G G H ?_;intro w H;refine TK 0 G (fun _=>q01 G) G (TK 1 G (fun _=>q0K G) G (TK 2 G (fun _=>q03 Tu72 G Ts9 Dc G) G (TK 4 G (fun _=>q01 G) G (TK 5 G (fun _=>q0K G) G (TK 6 G (fun _=>q03 Tu72 G Ts3 Dc G) G ?_)))));refine q1e (i:=3) [7] G Kr Kr Kr (XL H Ta9) (q00 G) G G (fun _ _=>G) ?_;refine q0v (fuel:=0) [7,8] G Kr (ST (XL H Ta3) G ?_);refine ST (q0t Tu9 G G hxc17) G (NA (q0l Kr (TN (BL (SQ (RG (ST (q1B (c:=c17) (d:=40) G G) G (AS G G (NL (TN ?_))))))))));obtain⟨o18,e19,e2⟩:=bnd e2;refine q0h (fun e w =>∃(s20:Ls) (n21:Int) (n22:Int) (M:Mem),e=[(0,ptr bp0 0),(2,I n22)]∧StX (feet [.blk bp0 (.cells #[S p0.1,I p0.2] 72)]) w0 M0 M [.blk bp0 (.cells #[S s20,I n21] 72)] w∧some (.inl (s20,n21,n22))=some o18) [] ?_ ?_ (trivial)
 ·
  refine CB (p:=c17=40) G (fun hk23=>?_) fun hk23=>?_
  ·
   rw[if_pos hk23] at e19;obtain⟨n24,hxn24,e19⟩:=bnd e19;refine RG (MV G G (ST (q0p G G hxn24) G (AS G G (NL ?_))));exact MN ⟨_,_,_,_,G,H,e19⟩
  rw[if_neg hk23] at e19;refine SQ (RG (ST (q1B (c:=c17) (d:=41) G G) G (AS G G (NL (TN ?_)))));refine CB (p:=c17=41) G (fun hk25=>?_) fun hk25=>?_
  ·
   rw[if_pos hk25] at e19;refine SQ ?_;obtain⟨n26,hxn26,e19⟩:=bnd e19;refine RG (MV G G (ST (q1E G G hxn26) G (AS G G (NL (TN (SQ (RG (MV G G (ST (q0e G G) G (NL (TN ?_)))))))))));refine CB (p:=n26=(0:Int)) G (fun hk27=>?_) fun hk27=>?_
   ·
    rw[if_pos hk27] at e19;refine SQ ?_;obtain⟨n28,hxn28,e19⟩:=bnd e19;refine RG (MV G G (FN G G Tu72 G Ts3 G G (ST (XL H Ta3) G ?_)));refine ST (q0p G G hxn28) G (FN G G Tu72 G Ts3 G G (q1y [_,_] H G G Ku Kf Ts3 (by first|decide|(simp;done)|(simp;omega)) Kf Kf (q00 G) ?_));intro w H;refine NL (TN (RT ?_));obtain rfl:=oI e19;try dsimp only at e2
    obtain rfl:=oI e2;try dsimp only at h
    obtain rfl:=oI h;exact WQ.retX0 (its:=[.blk bp0 (.cells #[S s9,I n28] 72)]) G H Kp ⟨G,G⟩
   rw[if_neg hk27] at e19;refine SK ?_;exact MN ⟨_,_,_,_,G,H,e19⟩
  rw[if_neg hk25] at e19;refine SQ (RG (ST (q1B (c:=c17) (d:=92) G G) G (AS G G (NL (TN ?_)))));refine CB (p:=c17=92) G (fun hk29=>?_) fun hk29=>?_
  ·
   rw[if_pos hk29] at e19;obtain⟨n30,hxn30,e19⟩:=bnd e19;refine RG (MV G G (FN G G Tu72 G Ts3 G G (ST (XL H Ta3) G ?_)));refine ST (q0p G G hxn30) G (FN G G Tu72 G Ts3 G G (q1y [_,_] H G G Ku Kf Ts3 (by first|decide|(simp;done)|(simp;omega)) Kf Kf (q00 G) ?_));intro w H;refine NL ?_;exact MN ⟨_,_,_,_,G,H,e19⟩
  rw[if_neg hk29] at e19;refine SK ?_;exact MN ⟨_,_,_,_,G,H,e19⟩
 rintro e w ⟨s20,n21,n22,M,rfl,H,q31⟩;obtain rfl:=oI q31;try dsimp only at e2
 refine IB (IB (TN ?_));obtain⟨n32,hxn32,e2⟩:=bnd e2;refine RG (MV G G (FN G G Tu72 G Ts3 G G (ST (XL H Ta3) G ?_)));refine ST (q0p G G hxn32) G (FN G G Tu72 G Ts3 G G (q1y [_,_] H G G Ku Kf Ts3 (by first|decide|(simp;done)|(simp;omega)) Kf Kf (q00 G) ?_));intro w H;refine NL ?_;exact AG m6 ⟨_,_,_,_,G,H,e2⟩ (l0b _)
end Go.Proofs.YtkmjdamkifbddaaGreatDoor
end
section
namespace Go.Proofs.YtkmjdamkifbddaaGreatDoor
open Go Go.RowKit Go.Ph Go.Ph.Pl Go.Ph.Pf
theorem Y3f {p0:(Ls × Int)}{bp0:Nat}{r:((Ls × Int) ⊕ Int)}(h:Y2w p0=some r):CtS Tryz.prog 121 [ptr bp0 0] [.blk bp0 (.cells #[S p0.1,I p0.2] 72)] (fun M=>True) (fun x=>fun v M its=>v=Value.tuple #[]∧its=[.blk bp0 (.cells #[S x.1,I x.2] 72)]) (fun n=>Value.iface 69 (Value.agg #[I n])) r:=by
 refine CtS.of Tryz.func121 (enters Tryz.func121 Kr G) G G G ?_;intro w0 M0 H hp;unfold Y2w at h;obtain⟨o1,e2,h⟩:=bnd h;refine q0h (fun e w =>∃(s3:Ls) (n4:Int) (M:Mem),e=[]∧StX (feet [.blk bp0 (.cells #[S p0.1,I p0.2] 72)]) w0 M0 M [.blk bp0 (.cells #[S s3,I n4] 72)] w∧some (.inl (s3,n4))=some o1) [] ?_ ?_ (trivial)
 ·
  refine BL (q0A (fun m e w =>∃(s5:Ls) (n6:Int) (M:Mem),e=[(0,ptr bp0 0)]∧StX (feet [.blk bp0 (.cells #[S p0.1,I p0.2] 72)]) w0 M0 M [.blk bp0 (.cells #[S s5,I n6] 72)] w∧Y0d  m s5 n6=some o1) FU [(0,_)] ⟨rfl,trivial⟩ ⟨_,_,_,rfl,H,e2⟩ ?_);rintro m7 e w ⟨s5,n6,M,rfl,H,e2⟩;rcases m7 with _|m7
  · rw[Y0d] at e2;cases e2
  rw[Y0d] at e2;refine SQ (SQ (q0H (m:=10) G G H ?_));intro w H;refine TK 0 G (fun _=>q01 G) G (TK 1 G (fun _=>q0K G) G (TK 2 G (fun _=>q03 Tu72 G Ts3 Dc G) G (TK 4 G (fun _=>q01 G) G (TK 5 G (fun _=>q0K G) G (TK 6 G (fun _=>q03 Tu72 G Ts9 Dc G) G ?_)))));refine q1e (i:=7) [3] G Kr Kr Kr (XL H Ta9) (q00 G) G G (fun _ _=>G) ?_;refine TK 8 G (fun _=>q0g Tu9 G) G (q0v (fuel:=0) [3,9] G Kr (ST (XL H Ta3) G ?_));refine ST (q0n G G) G (NA (q0l Kr (TN ?_)));refine CB (p:=n6<(s5.length:Int)) G (fun hk8=>?_) fun hk8=>?_
  ·
   rw[if_pos hk8] at e2;refine SK (TN (BL (SQ ?_)));obtain⟨c9,hxc9,e2⟩:=bnd e2;refine q0H (m:=10) G G H ?_;intro w H;refine TK 0 G (fun _=>q01 G) G (TK 1 G (fun _=>q0K G) G (TK 2 G (fun _=>q03 Tu72 G Ts9 Dc G) G (TK 4 G (fun _=>q01 G) G (TK 5 G (fun _=>q0K G) G (TK 6 G (fun _=>q03 Tu72 G Ts3 Dc G) G ?_)))));refine q1e (i:=3) [7] G Kr Kr Kr (XL H Ta9) (q00 G) G G (fun _ _=>G) ?_;refine q0v (fuel:=0) [7,8,9] G Kr (ST (XL H Ta3) G ?_);refine ST (q0t Tu9 G G hxc9) G (AS G G (NA (q0l Kr (TN (BL (SQ ?_))))));obtain⟨b10,hx11,e2⟩:=bnd e2;refine RG (MV G G (q05 H (Y21 hx11) G trivial (q00 G) G ?_));intro v24 M w H hle hR;obtain rfl:=hR;refine AS G G (NL (TN ?_));refine q0k G (fun hk12=>?_) (fun hk12=>?_)
   ·
    subst hk12;rw[if_pos rfl] at e2;obtain⟨n13,hxn13,e2⟩:=bnd e2;refine RG (MV G G (FN G G Tu72 G Ts3 G G (ST (XL H Ta3) G ?_)));refine ST (q0p G G hxn13) G (FN G G Tu72 G Ts3 G G (q1y [_,_] H G G Ku Kf Ts3 (by first|decide|(simp;done)|(simp;omega)) Kf Kf (q00 G) ?_));intro w H;refine NL (IB (IB ?_));exact AG m7 ⟨_,_,_,G,H,e2⟩ (l0b _)
   subst hk12;rw[if_neg l06] at e2;refine SQ (RG (MV G G (ST (q1B (c:=c9) (d:=40) G G) G (AS G G (NL (TN ?_))))));refine CB (p:=c9=40) G (fun hk14=>?_) fun hk14=>?_
   ·
    rw[if_pos hk14] at e2;obtain⟨o17,hx16,e2⟩:=bnd e2;rcases o17 with o15|n18
    ·
     try dsimp only at e2
     refine RG (MV G G ?_);refine q0x (A:=[.blk bp0 (.cells #[S s5,I n6] 72)]) (B:=[]) (H.pick (L':=[.blk bp0 (.cells #[S s5,I n6] 72)]) Kp) (Y2X hx16) (.left (q0o _)) G trivial (q00 G) G ?_;intro v36 M w its H hle hR;try dsimp only at hR
     obtain⟨rfl,rfl⟩:=hR;simp only[l04,l07] at H;refine NL (IB (IB ?_));exact AG m7 ⟨_,_,_,G,H,e2⟩ (l0b _)
    try dsimp only at e2
    obtain rfl:=oI e2;try dsimp only at h
    obtain rfl:=oI h;refine RG (MV G G ?_);refine q0I (A:=[.blk bp0 (.cells #[S s5,I n6] 72)]) (B:=[]) (H.pick (L':=[.blk bp0 (.cells #[S s5,I n6] 72)]) Kp) (Y2X hx16) (.left (q0o _)) G trivial (q00 G) ?_;intro M w H hle
    (repeat(first|refine q0O ?_|refine q0X ?_|refine q0T ?_|refine q0Y ?_))
    exact q0U H
   rw[if_neg hk14] at e2;refine RT ?_;obtain rfl:=oI e2;try dsimp only at h
   obtain rfl:=oI h;exact WQ.retX0 (its:=[.blk bp0 (.cells #[S s5,I n6] 72)]) G H Kp ⟨G,G⟩
  rw[if_neg hk8] at e2;refine q0m (q06 (q06 (q0d ?_)));exact MN ⟨_,_,_,G,H,e2⟩
 rintro e w ⟨s3,n4,M,rfl,H,q19⟩;obtain rfl:=oI q19;try dsimp only at h
 obtain rfl:=oI h;exact WQ.endX0 (its:=[.blk bp0 (.cells #[S s3,I n4] 72)]) G H Kp ⟨G,G⟩
theorem Y3d {p0:(Ls × Int)}{bp0:Nat}{r:((Ls × (Ls × Int)) ⊕ Int)}(h:Y1R p0=some r):CtS Tryz.prog 122 [ptr bp0 0] [.blk bp0 (.cells #[S p0.1,I p0.2] 72)] (fun M=>True) (fun x=>fun v M its=>v=S x.1∧its=[.blk bp0 (.cells #[S x.2.1,I x.2.2] 72)]) (fun n=>Value.iface 69 (Value.agg #[I n])) r:=by
 refine CtS.of Tryz.func122 (enters Tryz.func122 Kr G) G G G ?_;intro w0 M0 H hp;unfold Y1R at h;refine SQ (RG (AS G G (NL (TN (SQ (RG (AS G G (NL (TN (SQ ?_))))))))));obtain⟨n1,hxn1,h⟩:=bnd h;refine RG (MV G G (FN G G Tu72 G Ts3 G G (ST (XL H Ta3) G ?_)));refine ST (q0p G G hxn1) G (FN G G Tu72 G Ts3 G G (q1y [_,_] H G G Ku Kf Ts3 (by first|decide|(simp;done)|(simp;omega)) Kf Kf (q00 G) ?_));intro w H;refine NL (TN ?_);obtain⟨o2,e3,h⟩:=bnd h;refine BL ?_;replace H:=H.newRow 5 encB;refine q0A (fun m e w =>∃(s4:Ls) (n5:Int) (l7:Ls) (v8:Value) (M:Mem),e=[(0,ptr bp0 0),(3,v8)]∧StX (feet [.blk bp0 (.cells #[S p0.1,I p0.2] 72)]) w0 M0 M [.blk bp0 (.cells #[S s4,I n5] 72),RowI 5 encB v8 l7] w∧Y0g  m s4 n5 l7=some o2) FU [(0,_),(3,_)] ⟨rfl,rfl,trivial⟩ ⟨_,_,_,_,_,rfl,(H.pick (L':=[.blk bp0 (.cells #[S p0.1,I n1] 72),RowI 5 encB (Value.slice none 0 0) []]) Kp),e3⟩ ?_;rintro m9 e w ⟨s4,n5,l7,v8,M,rfl,H,e3⟩;rcases m9 with _|m9
 · rw[Y0g] at e3;cases e3
 rw[Y0g] at e3;refine SQ (BL (SQ (SQ (q0H (m:=10) G G H ?_))));intro w H;refine TK 0 G (fun _=>q01 G) G (TK 1 G (fun _=>q0K G) G (TK 2 G (fun _=>q03 Tu72 G Ts3 Dc G) G (TK 4 G (fun _=>q01 G) G (TK 5 G (fun _=>q0K G) G (TK 6 G (fun _=>q03 Tu72 G Ts9 Dc G) G ?_)))));refine q1e (i:=7) [3] G Kr Kr Kr (XL H Ta9) (q00 G) G G (fun _ _=>G) ?_;refine TK 8 G (fun _=>q0g Tu9 G) G (q0v (fuel:=0) [3,9] G Kr (ST (XL H Ta3) G ?_));refine ST (q1a G G) G (NA (q0l Kr (TN ?_)));obtain⟨o11,e12,e3⟩:=bnd e3;refine q0h (fun e w =>∃(s13:Ls) (n14:Int) (M:Mem),e=[(0,ptr bp0 0),(3,v8)]∧StX (feet [.blk bp0 (.cells #[S p0.1,I p0.2] 72)]) w0 M0 M [.blk bp0 (.cells #[S s13,I n14] 72),RowI 5 encB v8 l7] w∧some (.inl (s13,n14))=some o11) [] ?_ ?_ (trivial)
 ·
  refine CB (p:=(s4.length:Int)≤n5) G (fun hk15=>?_) fun hk15=>?_
  ·
   rw[if_pos hk15] at e12;obtain⟨o18,hx17,e12⟩:=bnd e12;rcases o18 with o16|n19
   ·
    try dsimp only at e12
    refine RG (MV G G ?_);refine q0x (A:=[.blk bp0 (.cells #[S s4,I n5] 72)]) (B:=[RowI 5 encB v8 l7]) (H.pick (L':=[.blk bp0 (.cells #[S s4,I n5] 72),RowI 5 encB v8 l7]) Kp) (Y03 hx17) (.left (q0o _)) G trivial (q00 G) G ?_;intro v30 M w its H hle hR;try dsimp only at hR
    obtain⟨rfl,rfl⟩:=hR;simp only[l04,l07] at H;refine NL ?_;exact MN ⟨_,_,_,G,H,e12⟩
   try dsimp only at e12
   obtain rfl:=oI e12;try dsimp only at e3
   obtain rfl:=oI e3;try dsimp only at h
   obtain rfl:=oI h;refine RG (MV G G ?_);refine q0I (A:=[.blk bp0 (.cells #[S s4,I n5] 72)]) (B:=[RowI 5 encB v8 l7]) (H.pick (L':=[.blk bp0 (.cells #[S s4,I n5] 72),RowI 5 encB v8 l7]) Kp) (Y03 hx17) (.left (q0o _)) G trivial (q00 G) ?_;intro M w H hle
   (repeat(first|refine q0O ?_|refine q0X ?_|refine q0T ?_|refine q0Y ?_))
   exact q0U H
  rw[if_neg hk15] at e12;refine SK ?_;exact MN ⟨_,_,_,G,H,e12⟩
 rintro e w ⟨s13,n14,M,rfl,H,q20⟩;obtain rfl:=oI q20;try dsimp only at e3
 refine TN (SQ ?_);obtain⟨c21,hxc21,e3⟩:=bnd e3;refine q0H (m:=10) G G H ?_;intro w H;refine TK 0 G (fun _=>q01 G) G (TK 1 G (fun _=>q0K G) G (TK 2 G (fun _=>q03 Tu72 G Ts9 Dc G) G (TK 4 G (fun _=>q01 G) G (TK 5 G (fun _=>q0K G) G (TK 6 G (fun _=>q03 Tu72 G Ts3 Dc G) G ?_)))));refine q1e (i:=3) [7] G Kr Kr Kr (XL H Ta9) (q00 G) G G (fun _ _=>G) ?_;refine q0v (fuel:=0) [7,8,9] G Kr (ST (XL H Ta3) G ?_);refine ST (q0t Tu9 G G hxc21) G (AS G G (NA (q0l Kr (TN (SQ (RG (MV G G (NL (TN (BL (SQ (RG (ST (q1B (c:=c21) (d:=34) G G) G (AS G G (NL (TN ?_))))))))))))))));refine CB (p:=c21=34) G (fun hk22=>?_) fun hk22=>?_
 ·
  rw[if_pos hk22] at e3;refine SQ ?_;obtain⟨n23,hxn23,e3⟩:=bnd e3;refine RG (MV G G (FN G G Tu72 G Ts3 G G (ST (XL H Ta3) G ?_)));refine ST (q0p G G hxn23) G (FN G G Tu72 G Ts3 G G (q1y [_,_] H G G Ku Kf Ts3 (by first|decide|(simp;done)|(simp;omega)) Kf Kf (q00 G) ?_));intro w H;refine NL (TN (SQ (RG (MV G G ?_))));obtain⟨M,hle,hs24,H⟩:=H.freezeRowN (v:=v8) (enc:=encB) (t:=5) Kv ⟨⟨_,Km⟩,trivial⟩;refine ST (q1X Tu88 Tu5 Tu9 H (hs24) G) G (AS G G (NL (TN (RT ?_))));obtain rfl:=oI e3;try dsimp only at h
  obtain rfl:=oI h;exact q1s (its:=[.blk bp0 (.cells #[S s13,I n23] 72)]) G G H Kp ⟨G,G⟩
 rw[if_neg hk22] at e3;refine SQ (RG (ST (q1B (c:=c21) (d:=92) G G) G (AS G G (NL (TN ?_)))));obtain⟨o25,e26,e3⟩:=bnd e3;refine q0h (fun e w =>∃(s27:Ls) (n28:Int) (l30:Ls) (v31:Value) (M:Mem),e=[(0,ptr bp0 0),(3,v31)]∧StX (feet [.blk bp0 (.cells #[S p0.1,I p0.2] 72)]) w0 M0 M [.blk bp0 (.cells #[S s27,I n28] 72),RowI 5 encB v31 l30] w∧some (.inl (s27,n28,l30))=some o25) [] ?_ ?_ (trivial)
 ·
  refine CB (p:=c21=92) G (fun hk32=>?_) fun hk32=>?_
  ·
   rw[if_pos hk32] at e26;refine SQ (SQ ?_);obtain⟨n33,hxn33,e26⟩:=bnd e26;refine RG (MV G G (FN G G Tu72 G Ts3 G G (ST (XL H Ta3) G ?_)));refine ST (q0p G G hxn33) G (FN G G Tu72 G Ts3 G G (q1y [_,_] H G G Ku Kf Ts3 (by first|decide|(simp;done)|(simp;omega)) Kf Kf (q00 G) ?_));intro w H;refine NL (TN (SQ (q0H (m:=10) G G H ?_)));intro w H;refine TK 0 G (fun _=>q01 G) G (TK 1 G (fun _=>q0K G) G (TK 2 G (fun _=>q03 Tu72 G Ts3 Dc G) G (TK 4 G (fun _=>q01 G) G (TK 5 G (fun _=>q0K G) G (TK 6 G (fun _=>q03 Tu72 G Ts9 Dc G) G ?_)))));refine q1e (i:=7) [3] G Kr Kr Kr (XL H Ta9) (q00 G) G G (fun _ _=>G) ?_;refine TK 8 G (fun _=>q0g Tu9 G) G (q0v (fuel:=0) [3,9] G Kr (ST (XL H Ta3) G ?_));refine ST (q1a G G) G (NA (q0l Kr (TN ?_)));obtain⟨o34,e35,e26⟩:=bnd e26;refine q0h (fun e w =>∃(s36:Ls) (n37:Int) (M:Mem),e=[(0,ptr bp0 0),(3,v8)]∧StX (feet [.blk bp0 (.cells #[S p0.1,I p0.2] 72)]) w0 M0 M [.blk bp0 (.cells #[S s36,I n37] 72),RowI 5 encB v8 l7] w∧some (.inl (s36,n37))=some o34) [] ?_ ?_ (trivial)
   ·
    refine CB (p:=(s13.length:Int)≤n33) G (fun hk38=>?_) fun hk38=>?_
    ·
     rw[if_pos hk38] at e35;obtain⟨o41,hx40,e35⟩:=bnd e35;rcases o41 with o39|n42
     ·
      try dsimp only at e35
      refine RG (MV G G ?_);refine q0x (A:=[.blk bp0 (.cells #[S s13,I n33] 72)]) (B:=[RowI 5 encB v8 l7]) (H.pick (L':=[.blk bp0 (.cells #[S s13,I n33] 72),RowI 5 encB v8 l7]) Kp) (Y03 hx40) (.left (q0o _)) G trivial (q00 G) G ?_;intro v76 M w its H hle hR;try dsimp only at hR
      obtain⟨rfl,rfl⟩:=hR;simp only[l04,l07] at H;refine NL ?_;exact MN ⟨_,_,_,G,H,e35⟩
     try dsimp only at e35
     obtain rfl:=oI e35;try dsimp only at e26
     obtain rfl:=oI e26;try dsimp only at e3
     obtain rfl:=oI e3;try dsimp only at h
     obtain rfl:=oI h;refine RG (MV G G ?_);refine q0I (A:=[.blk bp0 (.cells #[S s13,I n33] 72)]) (B:=[RowI 5 encB v8 l7]) (H.pick (L':=[.blk bp0 (.cells #[S s13,I n33] 72),RowI 5 encB v8 l7]) Kp) (Y03 hx40) (.left (q0o _)) G trivial (q00 G) ?_;intro M w H hle
     (repeat(first|refine q0O ?_|refine q0X ?_|refine q0T ?_|refine q0Y ?_))
     exact q0U H
    rw[if_neg hk38] at e35;refine SK ?_;exact MN ⟨_,_,_,G,H,e35⟩
   rintro e w ⟨s36,n37,M,rfl,H,q43⟩;obtain rfl:=oI q43;try dsimp only at e26
   refine TN ?_;obtain⟨c44,hxc44,e26⟩:=bnd e26;obtain⟨l45,hxl45,e26⟩:=bnd e26;refine q0H (m:=13) G G H ?_;intro w H;refine TK 0 G (fun _=>q01 G) G (TK 1 G (fun _=>q01 G) G (TK 2 G (fun _=>q0K G) G (TK 3 G (fun _=>q03 Tu72 G Ts9 Dc G) G (TK 5 G (fun _=>q01 G) G (TK 6 G (fun _=>q0K G) G (TK 7 G (fun _=>q03 Tu72 G Ts3 Dc G) G ?_))))));refine q1e (i:=4) [8] G Kr Kr Kr (XL H Ta9) (q00 G) G G (fun _ _=>G) ?_;refine q0v (fuel:=0) [8,9,10,11,12] G Kr (ST (XL H Ta3) G ?_);refine ST (q0t Tu9 G G hxc44) G (q0F (enc:=encB) xty88 ([c44]:Ls) H G Kf (fun _=>G) G G (q00 G) G ?_);intro v87 M w H hle hs87;refine q1g (l:=l7) xty88 G (fun _=>G) H G (fun _=>by repeat first|exact .head|apply Upd.tail) G (hs87) hxl45 (q00 G) G ?_;intro v88 w H;refine AS G G (NA (q0l Kr ?_));exact MN ⟨_,_,_,_,_,G,H,e26⟩
  rw[if_neg hk32] at e26;obtain⟨l48,hxl48,e26⟩:=bnd e26;refine RG (MV G G (MV G G (q0F (enc:=encB) xty88 ([c21]:Ls) H G Kf (fun _=>G) G G (q00 G) G ?_)));intro v43 M w H hle hs43;refine q1g (l:=l7) xty88 G (fun _=>G) H G (fun _=>by repeat first|exact .head|apply Upd.tail) G (hs43) hxl48 (q00 G) G ?_;intro v44 w H;refine AS G G (NL ?_);exact MN ⟨_,_,_,_,_,G,H,e26⟩
 rintro e w ⟨s27,n28,l30,v31,M,rfl,H,q49⟩;obtain rfl:=oI q49;try dsimp only at e3
 refine IB (IB (TN ?_));obtain⟨n50,hxn50,e3⟩:=bnd e3;refine RG (MV G G (FN G G Tu72 G Ts3 G G (ST (XL H Ta3) G ?_)));refine ST (q0p G G hxn50) G (FN G G Tu72 G Ts3 G G (q1y [_,_] H G G Ku Kf Ts3 (by first|decide|(simp;done)|(simp;omega)) Kf Kf (q00 G) ?_));intro w H;refine NL ?_;exact AG m9 ⟨_,_,_,_,_,G,H,e3⟩ (l0b _)
theorem Y0u {p0:(Ls × Int)}{bp0:Nat}{r:((Elt × (Ls × Int)) ⊕ Int)}(h:Y0l p0=some r):CtS Tryz.prog 84 [ptr bp0 0] [.blk bp0 (.cells #[S p0.1,I p0.2] 72)] (fun M=>True) (fun x=>fun v M its=>v=encA 76 136 x.1∧its=[.blk bp0 (.cells #[S x.2.1,I x.2.2] 72)]) (fun n=>Value.iface 69 (Value.agg #[I n])) r:=by
 refine CtS.of Tryz.func84 (enters Tryz.func84 Kr G) G G G ?_;intro w0 M0 H hp;unfold Y0l at h;refine SQ (RG (AS G G (NL (TN (SQ ?_)))));obtain⟨o3,hx2,h⟩:=bnd h;rcases o3 with o1|n4
 ·
  try dsimp only at h
  refine RG (MV G G ?_);refine q0x (A:=[.blk bp0 (.cells #[S p0.1,I p0.2] 72)]) (B:=[]) (H.pick (L':=[.blk bp0 (.cells #[S p0.1,I p0.2] 72)]) Kp) (Y3f hx2) (.left (q0o _)) G trivial (q00 G) G ?_;intro v6 M w its H hle hR;try dsimp only at hR
  obtain⟨rfl,rfl⟩:=hR;simp only[l04,l07] at H;refine NL (TN (SQ (SQ (q0H (m:=10) G G H ?_))));intro w H;refine TK 0 G (fun _=>q01 G) G (TK 1 G (fun _=>q0K G) G (TK 2 G (fun _=>q03 Tu72 G Ts3 Dc G) G (TK 4 G (fun _=>q01 G) G (TK 5 G (fun _=>q0K G) G (TK 6 G (fun _=>q03 Tu72 G Ts9 Dc G) G ?_)))));refine q1e (i:=7) [3] G Kr Kr Kr (XL H Ta9) (q00 G) G G (fun _ _=>G) ?_;refine TK 8 G (fun _=>q0g Tu9 G) G (q0v (fuel:=0) [3,9] G Kr (ST (XL H Ta3) G ?_));refine ST (q1a G G) G (NA (q0l Kr (TN ?_)));refine CB (p:=(o1.1.length:Int)≤o1.2) G (fun hk5=>?_) fun hk5=>?_
  ·
   rw[if_pos hk5] at h;refine SQ (RG (AS G G (NL (TN (RT ?_)))));obtain rfl:=oI h;exact q1s (its:=[.blk bp0 (.cells #[S o1.1,I o1.2] 72)]) G G H Kp ⟨G,G⟩
  rw[if_neg hk5] at h;refine SK (TN (SQ ?_));obtain⟨c6,hxc6,h⟩:=bnd h;refine q0H (m:=10) G G H ?_;intro w H;refine TK 0 G (fun _=>q01 G) G (TK 1 G (fun _=>q0K G) G (TK 2 G (fun _=>q03 Tu72 G Ts9 Dc G) G (TK 4 G (fun _=>q01 G) G (TK 5 G (fun _=>q0K G) G (TK 6 G (fun _=>q03 Tu72 G Ts3 Dc G) G ?_)))));refine q1e (i:=3) [7] G Kr Kr Kr (XL H Ta9) (q00 G) G G (fun _ _=>G) ?_;refine q0v (fuel:=0) [7,8,9] G Kr (ST (XL H Ta3) G ?_);refine ST (q0t Tu9 G G hxc6) G (AS G G (NA (q0l Kr (TN (SQ (SQ (RG (MV G G (ST (q1B (c:=c6) (d:=34) G G) G (NL (TN ?_)))))))))));refine CB (p:=c6=34) G (fun hk7=>?_) fun hk7=>?_
  ·
   rw[if_pos hk7] at h;refine SQ ?_;obtain⟨o11,hx10,h⟩:=bnd h;rcases o11 with ⟨s8,o9⟩|n12
   ·
    try dsimp only at h
    refine RG (MV G G ?_);refine q0x (A:=[.blk bp0 (.cells #[S o1.1,I o1.2] 72)]) (B:=[]) (H.pick (L':=[.blk bp0 (.cells #[S o1.1,I o1.2] 72)]) Kp) (Y3d hx10) (.left (q0o _)) G trivial (q00 G) G ?_;intro v29 M w its H hle hR;try dsimp only at hR
    obtain⟨rfl,rfl⟩:=hR;simp only[l04,l07] at H;refine ST (q0N [S s8,Value.bool true] Tu136 Tz136 (xplaces136 Tu136) G G) G (ST (Ex.anyW (ts:=76) (s:=s8) (b:=true) Kr G) G (AS G G (NL (TN (RT ?_)))));obtain rfl:=oI h;exact q1s (its:=[.blk bp0 (.cells #[S o9.1,I o9.2] 72)]) G G H Kp ⟨G,G⟩
   try dsimp only at h
   obtain rfl:=oI h;refine RG (MV G G ?_);refine q0I (A:=[.blk bp0 (.cells #[S o1.1,I o1.2] 72)]) (B:=[]) (H.pick (L':=[.blk bp0 (.cells #[S o1.1,I o1.2] 72)]) Kp) (Y3d hx10) (.left (q0o _)) G trivial (q00 G) ?_;intro M w H hle
   (repeat(first|refine q0O ?_|refine q0X ?_|refine q0T ?_|refine q0Y ?_))
   exact q0U H
  rw[if_neg hk7] at h;refine SK (TN (SQ (SQ ?_)));obtain⟨n13,hx14,h⟩:=bnd h;refine RG (MV G G (q05 H (Y2p hx14) G trivial (q00 G) G ?_));intro v33 M w H hle hR;obtain rfl:=hR;refine ST (q1a G G) G (NL (TN ?_));refine CB (p:=(0:Int)≤n13) G (fun hk15=>?_) fun hk15=>?_
  ·
   rw[if_pos hk15] at h;refine SQ ?_;obtain⟨n16,hxn16,h⟩:=bnd h;refine RG (MV G G (FN G G Tu72 G Ts3 G G (ST (XL H Ta3) G ?_)));refine ST (q0p G G hxn16) G (FN G G Tu72 G Ts3 G G (q1y [_,_] H G G Ku Kf Ts3 (by first|decide|(simp;done)|(simp;omega)) Kf Kf (q00 G) ?_));intro w H;refine NL (TN (SQ (RG (MV G G (ST (Ex.anyS (tw:=136) (c:=c6) Kr G) G (AS G G (NL (TN (RT ?_)))))))));obtain rfl:=oI h;exact q1s (its:=[.blk bp0 (.cells #[S o1.1,I n16] 72)]) G G H Kp ⟨G,G⟩
  rw[if_neg hk15] at h;refine SK (TN (SQ (RG (MV G G (FN G G Tu72 G Ts3 G G (ST (XL H Ta3) G ?_))))));refine AS G G (NL (TN (SQ ?_)));obtain⟨o17,e18,h⟩:=bnd h;refine q0h (fun e w =>∃(s19:Ls) (n20:Int) (M:Mem),e=[(0,ptr bp0 0),(4,I o1.2)]∧StX (feet [.blk bp0 (.cells #[S p0.1,I p0.2] 72)]) w0 M0 M [.blk bp0 (.cells #[S s19,I n20] 72)] w∧some (s19,n20)=some o17) [] ?_ ?_ (trivial)
  ·
   refine BL (q0A (fun m e w =>∃(s21:Ls) (n22:Int) (M:Mem),e=[(0,ptr bp0 0),(4,I o1.2)]∧StX (feet [.blk bp0 (.cells #[S p0.1,I p0.2] 72)]) w0 M0 M [.blk bp0 (.cells #[S s21,I n22] 72)] w∧Y0n  m s21 n22=some o17) FU [(0,_),(4,_)] ⟨rfl,rfl,trivial⟩ ⟨_,_,_,rfl,H,e18⟩ ?_);rintro m23 e w ⟨s21,n22,M,rfl,H,e18⟩;rcases m23 with _|m23
   · rw[Y0n] at e18;cases e18
   rw[Y0n] at e18;refine SQ (SQ ?_);obtain⟨o24,e25,e18⟩:=bnd e18;refine q0h (fun e w =>∃(b26:Bool) (M:Mem),e=[(0,ptr bp0 0),(4,I o1.2),(81,Value.bool b26)]∧StX (feet [.blk bp0 (.cells #[S p0.1,I p0.2] 72)]) w0 M0 M [.blk bp0 (.cells #[S s21,I n22] 72)] w∧some b26=some o24) [] ?_ ?_ (trivial)
   ·
    refine q0H (m:=34) G G H ?_;intro w H;refine TK 0 G (fun _=>q01 G) G (TK 1 G (fun _=>q0K G) G (TK 2 G (fun _=>q03 Tu72 G Ts3 Dc G) G (TK 4 G (fun _=>q01 G) G (TK 5 G (fun _=>q0K G) G (TK 6 G (fun _=>q03 Tu72 G Ts9 Dc G) G ?_)))));refine q1e (i:=7) [3] G Kr Kr Kr (XL H Ta9) (q00 G) G G (fun _ _=>G) ?_;refine TK 8 G (fun _=>q0g Tu9 G) G (ON 3 Kr G (ST (XL H Ta3) G ?_));refine NA ?_;by_cases hk27:n22<(s21.length:Int)
    ·
     rw[if_pos hk27] at e25;obtain⟨c28,hxc28,e25⟩:=bnd e25;obtain⟨b29,hx30,e25⟩:=bnd e25;rcases b29 with _|_
     ·
      rw[if_neg l06] at e25;obtain⟨c31,hxc31,e25⟩:=bnd e25;refine q0v (fuel:=23) [9,10] G Kr (DT hk27 (q0n G G) G (MV G G (NA (q0B (i:=11) G Kr Kr Kr (fun _=>q01 G) (q04 G G G) G G (fun _ _=>G) (q0B (i:=12) G Kr Kr Kr (fun _=>q0K G) (q04 G G G) G G (fun _ _=>G) (q0B (i:=13) G Kr Kr Kr (fun _=>q03 Tu72 G Ts9 Dc G) (q04 G G G) G G (fun _ _=>G) (q0B (i:=15) G Kr Kr Kr (fun _=>q01 G) (q04 G G G) G G (fun _ _=>G) (q0B (i:=16) G Kr Kr Kr (fun _=>q0K G) (q04 G G G) G G (fun _ _=>G) ?_))))))));refine q0B (i:=17) G Kr Kr Kr (fun _=>q03 Tu72 G Ts3 Dc G) (q04 G G G) G G (fun _ _=>G) (q1e (i:=14) [18] G Kr Kr Kr (XL H Ta9) (q04 G G G) G G (fun _ _=>G) ?_);refine q0v (fuel:=12) [18,19,20,21] G Kr (SG (XL H Ta3) G G G ?_);refine SG (q0t Tu9 G G hxc28) G G G (q05 H (Y3c hx30) G trivial (q04 G G G) G ?_);intro v68 M w H hle hR;obtain rfl:=hR;refine SG (q01 G) G G G (NA (q0B (i:=22) G Kr Kr Kr (fun _=>q01 G) (q04 G G G) G G (fun _ _=>G) (q0B (i:=23) G Kr Kr Kr (fun _=>q0K G) (q04 G G G) G G (fun _ _=>G) (q0B (i:=24) G Kr Kr Kr (fun _=>q03 Tu72 G Ts9 Dc G) (q04 G G G) G G (fun _ _=>G) (q0B (i:=26) G Kr Kr Kr (fun _=>q01 G) (q04 G G G) G G (fun _ _=>G) (q0B (i:=27) G Kr Kr Kr (fun _=>q0K G) (q04 G G G) G G (fun _ _=>G) (q0B (i:=28) G Kr Kr Kr (fun _=>q03 Tu72 G Ts3 Dc G) (q04 G G G) G G (fun _ _=>G) ?_)))))));refine q1e (i:=25) [29] G Kr Kr Kr (XL H Ta9) (q04 G G G) G G (fun _ _=>G) ?_;refine q0v (fuel:=0) [29,30,31,32,33] G Kr (SG (XL H Ta3) G G G ?_);refine SG (q0t Tu9 G G hxc31) G G G (SG (q1B (c:=c31) (d:=46) G G) G G G (SG (q0s G G) G G G (PT G G G (NA (q0l Kr ?_)))));exact MN ⟨_,_,G,H,e25⟩
     rw[if_pos rfl] at e25;refine q0v (fuel:=23) [9,10] G Kr (DT hk27 (q0n G G) G (MV G G (NA (q0B (i:=11) G Kr Kr Kr (fun _=>q01 G) (q04 G G G) G G (fun _ _=>G) (q0B (i:=12) G Kr Kr Kr (fun _=>q0K G) (q04 G G G) G G (fun _ _=>G) (q0B (i:=13) G Kr Kr Kr (fun _=>q03 Tu72 G Ts9 Dc G) (q04 G G G) G G (fun _ _=>G) (q0B (i:=15) G Kr Kr Kr (fun _=>q01 G) (q04 G G G) G G (fun _ _=>G) (q0B (i:=16) G Kr Kr Kr (fun _=>q0K G) (q04 G G G) G G (fun _ _=>G) ?_))))))));refine q0B (i:=17) G Kr Kr Kr (fun _=>q03 Tu72 G Ts3 Dc G) (q04 G G G) G G (fun _ _=>G) (q1e (i:=14) [18] G Kr Kr Kr (XL H Ta9) (q04 G G G) G G (fun _ _=>G) ?_);refine q0v (fuel:=12) [18,19,20,21] G Kr (SG (XL H Ta3) G G G ?_);refine SG (q0t Tu9 G G hxc28) G G G (q05 H (Y3c hx30) G trivial (q04 G G G) G ?_);intro v68 M w H hle hR;obtain rfl:=hR;refine SG (q01 G) G G G (NA (q2k (fuel:=8) [22,23,24,25] G Kr Kr G (q0v (fuel:=0) [26,27,28,29,30,31,32,33] G Kr (q0i 6 G G (SG (q0r G G) G G G (PT G G G (NA (q0l Kr ?_))))))));exact MN ⟨_,_,G,H,e25⟩
    rw[if_neg hk27] at e25;refine q0v (fuel:=23) [9,10] G Kr (DF hk27 (q0n G G) G (MV G G (NA (q2k (fuel:=19) [11,12,13,14] G Kr Kr G (q0v (fuel:=12) [15,16,17,18,19,20,21] G Kr (q0i 7 G G (NA (q2k (fuel:=8) [22,23,24,25] G Kr Kr G (q0v (fuel:=0) [26,27,28,29,30,31,32,33] G Kr (q0i 7 G G (PF G G G (NA (q0l Kr ?_)))))))))))));exact MN ⟨_,_,G,H,e25⟩
   rintro e w ⟨b26,M,rfl,H,q32⟩;obtain rfl:=oI q32;refine TN ?_;refine q0k G (fun hk33=>?_) (fun hk33=>?_)
   ·
    subst hk33;rw[if_pos rfl] at e18;refine SK (TN (BL ?_));obtain⟨n34,hxn34,e18⟩:=bnd e18;refine RG (MV G G (FN G G Tu72 G Ts3 G G (ST (XL H Ta3) G ?_)));refine ST (q0p G G hxn34) G (FN G G Tu72 G Ts3 G G (q1y [_,_] H G G Ku Kf Ts3 (by first|decide|(simp;done)|(simp;omega)) Kf Kf (q00 G) ?_));intro w H;refine NL (IB ?_);exact AG m23 ⟨_,_,_,G,H,e18⟩ (l0b _)
   subst hk33;rw[if_neg l06] at e18;refine q0m (q06 (q06 (q0d ?_)));exact MN ⟨_,_,_,G,H,e18⟩
  rintro e w ⟨s19,n20,M,rfl,H,q35⟩;obtain rfl:=oI q35;try dsimp only at h
  refine TN (SQ (SQ (RG (MV G G (FN G G Tu72 G Ts3 G G (ST (XL H Ta3) G ?_))))));refine MV G G (ST (q0e G G) G (NL (TN ?_)));obtain⟨o36,e37,h⟩:=bnd h;refine q0h (fun e w =>∃(s38:Ls) (n39:Int) (M:Mem),e=[(0,ptr bp0 0),(4,I o1.2)]∧StX (feet [.blk bp0 (.cells #[S p0.1,I p0.2] 72)]) w0 M0 M [.blk bp0 (.cells #[S s38,I n39] 72)] w∧some (.inl (s38,n39))=some o36) [] ?_ ?_ (trivial)
  ·
   refine CB (p:=n20=o1.2) G (fun hk40=>?_) fun hk40=>?_
   ·
    rw[if_pos hk40] at e37;obtain⟨o43,hx42,e37⟩:=bnd e37;rcases o43 with o41|n44
    ·
     try dsimp only at e37
     refine RG (MV G G ?_);refine q0x (A:=[.blk bp0 (.cells #[S s19,I n20] 72)]) (B:=[]) (H.pick (L':=[.blk bp0 (.cells #[S s19,I n20] 72)]) Kp) (Y03 hx42) (.left (q0o _)) G trivial (q00 G) G ?_;intro v96 M w its H hle hR;try dsimp only at hR
     obtain⟨rfl,rfl⟩:=hR;simp only[l04,l07] at H;refine NL ?_;exact MN ⟨_,_,_,G,H,e37⟩
    try dsimp only at e37
    obtain rfl:=oI e37;try dsimp only at h
    obtain rfl:=oI h;refine RG (MV G G ?_);refine q0I (A:=[.blk bp0 (.cells #[S s19,I n20] 72)]) (B:=[]) (H.pick (L':=[.blk bp0 (.cells #[S s19,I n20] 72)]) Kp) (Y03 hx42) (.left (q0o _)) G trivial (q00 G) ?_;intro M w H hle
    (repeat(first|refine q0O ?_|refine q0X ?_|refine q0T ?_|refine q0Y ?_))
    exact q0U H
   rw[if_neg hk40] at e37;refine SK ?_;exact MN ⟨_,_,_,G,H,e37⟩
  rintro e w ⟨s38,n39,M,rfl,H,q45⟩;obtain rfl:=oI q45;try dsimp only at h
  refine TN (SQ ?_);obtain⟨s46,hxs46,h⟩:=bnd h;refine q0H (m:=13) G G H ?_;intro w H;refine TK 0 G (fun _=>q01 G) G (TK 1 G (fun _=>q0K G) G (TK 2 G (fun _=>q03 Tu72 G Ts9 Dc G) G (TK 4 G (fun _=>q01 G) G (TK 5 G (fun _=>q01 G) G (TK 6 G (fun _=>q0K G) G (TK 7 G (fun _=>q03 Tu72 G Ts3 Dc G) G ?_))))));refine q1e (i:=3) [8] G Kr Kr Kr (XL H Ta9) (q00 G) G G (fun _ _=>G) ?_;refine q0v (fuel:=0) [8,9,10,11,12] G Kr (ST (XL H Ta3) G ?_);refine ST (Ex.sliceC Tu9 G G G hxs46) G (ST (q0N [S s46,Value.bool false] Tu136 Tz136 (xplaces136 Tu136) G G) G (ST (Ex.anyW (ts:=76) (s:=s46) (b:=false) Kr G) G (AS G G (NA (q0l Kr (TN (RT ?_)))))));obtain rfl:=oI h;exact q1s (its:=[.blk bp0 (.cells #[S s38,I n39] 72)]) G G H Kp ⟨G,G⟩
 try dsimp only at h
 obtain rfl:=oI h;refine RG (MV G G ?_);refine q0I (A:=[.blk bp0 (.cells #[S p0.1,I p0.2] 72)]) (B:=[]) (H.pick (L':=[.blk bp0 (.cells #[S p0.1,I p0.2] 72)]) Kp) (Y3f hx2) (.left (q0o _)) G trivial (q00 G) ?_;intro M w H hle
 (repeat(first|refine q0O ?_|refine q0X ?_|refine q0T ?_|refine q0Y ?_))
 exact q0U H
theorem Y0v {p0:(Ls × Int)}{bp0:Nat}{r:((Elt × (Ls × Int)) ⊕ Int)}(h:Y0f p0=some r):CtS Tryz.prog 46 [ptr bp0 0] [.blk bp0 (.cells #[S p0.1,I p0.2] 72)] (fun M=>True) (fun x=>fun v M its=>v=encA 76 136 x.1∧its=[.blk bp0 (.cells #[S x.2.1,I x.2.2] 72)]) (fun n=>Value.iface 69 (Value.agg #[I n])) r:=by
 refine CtS.of Tryz.func46 (enters Tryz.func46 Kr G) G G G ?_;intro w0 M0 H hp;unfold Y0f at h;refine SQ (RG (AS G G (NL (TN (SQ (RG (MV G G (FN G G Tu72 G Ts3 G G (ST (XL H Ta3) G ?_)))))))));refine AS G G (NL (TN (SQ ?_)));obtain⟨o4,hx3,h⟩:=bnd h;rcases o4 with ⟨n1,o2⟩|n5
 ·
  try dsimp only at h
  refine RG (MV G G ?_);refine q0x (A:=[.blk bp0 (.cells #[S p0.1,I p0.2] 72)]) (B:=[]) (H.pick (L':=[.blk bp0 (.cells #[S p0.1,I p0.2] 72)]) Kp) (Y0u hx3) (.left (q0o _)) G trivial (q00 G) G ?_;intro v10 M w its H hle hR;try dsimp only at hR
  obtain⟨rfl,rfl⟩:=hR;simp only[l04,l07] at H;refine AS G G (NL (TN (SQ (RG (MV G G (MV G G (FN G G Tu72 G Ts3 G G (q1y [_,_] H G G Ku Kf Ts3 (by first|decide|(simp;done)|(simp;omega)) Kf Kf (q00 G) ?_))))))));intro w H;refine NL (TN (SQ (RG (MV G G (AS G G (NL (TN (RT ?_))))))));obtain rfl:=oI h;exact q1s (its:=[.blk bp0 (.cells #[S o2.1,I p0.2] 72)]) G G H Kp ⟨G,G⟩
 try dsimp only at h
 obtain rfl:=oI h;refine RG (MV G G ?_);refine q0I (A:=[.blk bp0 (.cells #[S p0.1,I p0.2] 72)]) (B:=[]) (H.pick (L':=[.blk bp0 (.cells #[S p0.1,I p0.2] 72)]) Kp) (Y0u hx3) (.left (q0o _)) G trivial (q00 G) ?_;intro M w H hle
 (repeat(first|refine q0O ?_|refine q0X ?_|refine q0T ?_|refine q0Y ?_))
 exact q0U H
theorem Y09 {p0:(Ls × Int)}{bp0:Nat}{r:((List (Ls × Bool) × (Ls × Int)) ⊕ Int)}(h:Y0V p0=some r):CtS Tryz.prog 85 [ptr bp0 0] [.blk bp0 (.cells #[S p0.1,I p0.2] 72)] (fun M=>True) (fun x=>fun v M its =>∃x0,v=x0∧SlS M 2 xenc136 x0 x.1∧its=[.blk bp0 (.cells #[S x.2.1,I x.2.2] 72)]) (fun n=>Value.iface 69 (Value.agg #[I n])) r:=by
 refine CtS.of Tryz.func85 (enters Tryz.func85 Kr G) G G G ?_;intro w0 M0 H hp;unfold Y0V at h;refine SQ (RG (AS G G (NL (TN (SQ (RG (AS G G (NL (TN ?_)))))))));obtain⟨o1,e2,h⟩:=bnd h;refine BL ?_;replace H:=H.newRowS 136 2 xenc136;refine q0A (fun m e w =>∃(s3:Ls) (n4:Int) (l6:List (Ls × Bool)) (v7:Value) (M:Mem),e=[(0,ptr bp0 0),(3,v7)]∧StX (feet [.blk bp0 (.cells #[S p0.1,I p0.2] 72)]) w0 M0 M [.blk bp0 (.cells #[S s3,I n4] 72),RowS 136 2 xenc136 v7 l6] w∧Y0h  m s3 n4 l6=some o1) FU [(0,_),(3,_)] ⟨rfl,rfl,trivial⟩ ⟨_,_,_,_,_,rfl,(H.pick (L':=[.blk bp0 (.cells #[S p0.1,I p0.2] 72),RowS 136 2 xenc136 (Value.slice none 0 0) []]) Kp),e2⟩ ?_;rintro m8 e w ⟨s3,n4,l6,v7,M,rfl,H,e2⟩;rcases m8 with _|m8
 · rw[Y0h] at e2;cases e2
 rw[Y0h] at e2;refine BL (SQ ?_);obtain⟨o13,hx12,e2⟩:=bnd e2;rcases o13 with ⟨n10,o11⟩|n14
 ·
  try dsimp only at e2
  refine RG (MV G G ?_);refine q0x (A:=[.blk bp0 (.cells #[S s3,I n4] 72)]) (B:=[RowS 136 2 xenc136 v7 l6]) (H.pick (L':=[.blk bp0 (.cells #[S s3,I n4] 72),RowS 136 2 xenc136 v7 l6]) Kp) (Y0v hx12) (.left (q0o _)) G trivial (q00 G) G ?_;intro v7 M w its H hle hR;try dsimp only at hR
  obtain⟨rfl,rfl⟩:=hR;simp only[l04,l07] at H;refine NL (TN (BL (SQ ?_)));obtain⟨⟨w15,b16⟩,hx17,e2⟩:=bnd e2;try dsimp only at e2
  refine RG (ST (Ex.anyOk Tu136 Tz136 G hx17 G) G (ST (q0b G G) G (ST (q0b G G) G (NL (TN ?_)))));refine q0k G (fun hk18=>?_) (fun hk18=>?_)
  ·
   subst hk18;rw[if_pos rfl] at e2;refine SQ (RG (q0j [_,_] H Tz136 G (q00 G) G ?_));intro bk4 w H;refine q0c [_,_] H G G G Ku Ts136 G Kf Kf (q00 G) ?_;intro w H;refine NL (TN (SQ ?_));obtain⟨o22,hx21,e2⟩:=bnd e2;rcases o22 with ⟨n19,o20⟩|n23
   ·
    try dsimp only at e2
    refine RG (MV G G ?_);refine q0x (A:=[.blk bp0 (.cells #[S o11.1,I o11.2] 72)]) (B:=[.blk bk4 (.cells #[S w15.1,Value.bool w15.2] 136),RowS 136 2 xenc136 v7 l6]) (H.pick (L':=[.blk bp0 (.cells #[S o11.1,I o11.2] 72), .blk bk4 (.cells #[S w15.1,Value.bool w15.2] 136),RowS 136 2 xenc136 v7 l6]) Kp) (Y0u hx21) (.left (q0o _)) G trivial (q00 G) G ?_;intro v13 M w its H hle hR;try dsimp only at hR
    obtain⟨rfl,rfl⟩:=hR;simp only[l04,l07] at H;refine NL (TN ?_);obtain⟨l24,hxl24,e2⟩:=bnd e2;refine RG (MV G G (ST (q0w H G Km Tryz.isAgg136 Ts136 Kf) G ?_));refine q1J (enc:=xenc136) xty107 ([(w15.1,w15.2)]:List (Ls × Bool)) H (fun _=>G) G Kr G G G (q00 G) G ?_;intro v16 M w H hle hs16;refine q2l (l:=l6) xty107 G xone136 H G (fun _=>by repeat first|exact .head|apply Upd.tail) G (hs16) hxl24 (q00 G) G ?_;intro v17 w H;refine AS G G (NL (IB (IB ?_)));exact AG m8 ⟨_,_,_,_,_,G,(H.pick (L':=[.blk bp0 (.cells #[S o20.1,I o20.2] 72),RowS 136 2 xenc136 v17 l24]) Kp),e2⟩ (l0b _)
   try dsimp only at e2
   obtain rfl:=oI e2;try dsimp only at h
   obtain rfl:=oI h;refine RG (MV G G ?_);refine q0I (A:=[.blk bp0 (.cells #[S o11.1,I o11.2] 72)]) (B:=[.blk bk4 (.cells #[S w15.1,Value.bool w15.2] 136),RowS 136 2 xenc136 v7 l6]) (H.pick (L':=[.blk bp0 (.cells #[S o11.1,I o11.2] 72), .blk bk4 (.cells #[S w15.1,Value.bool w15.2] 136),RowS 136 2 xenc136 v7 l6]) Kp) (Y0u hx21) (.left (q0o _)) G trivial (q00 G) ?_;intro M w H hle
   (repeat(first|refine q0O ?_|refine q0X ?_|refine q0T ?_|refine q0Y ?_))
   exact q0U H
  subst hk18;rw[if_neg l06] at e2;refine SQ (RG (AS G G (NL (TN (SQ (RG (MV G G (AS G G (NL (TN (RT ?_)))))))))));obtain⟨M,hle,hs25,H⟩:=H.freezeRowSN (v:=v7) (enc:=xenc136) (t:=136) Kv (fun _=>rfl) ⟨⟨_,Km⟩,trivial⟩;obtain rfl:=oI e2;try dsimp only at h
  obtain rfl:=oI h;exact q1s (its:=[.blk bp0 (.cells #[S o11.1,I o11.2] 72)]) G G H Kp ⟨_,G,hs25,G⟩
 try dsimp only at e2
 obtain rfl:=oI e2;try dsimp only at h
 obtain rfl:=oI h;refine RG (MV G G ?_);refine q0I (A:=[.blk bp0 (.cells #[S s3,I n4] 72)]) (B:=[RowS 136 2 xenc136 v7 l6]) (H.pick (L':=[.blk bp0 (.cells #[S s3,I n4] 72),RowS 136 2 xenc136 v7 l6]) Kp) (Y0v hx12) (.left (q0o _)) G trivial (q00 G) ?_;intro M w H hle
 (repeat(first|refine q0O ?_|refine q0X ?_|refine q0T ?_|refine q0Y ?_))
 exact q0U H
theorem Y0b {p0:(Ls × Int)}{p1:UInt8}{bp0:Nat}{r:((Bool × (Ls × Int)) ⊕ Int)}(h:Y0F p0 p1=some r):CtS Tryz.prog 48 [ptr bp0 0,encB p1] [.blk bp0 (.cells #[S p0.1,I p0.2] 72)] (fun M=>True) (fun x=>fun v M its=>v=Value.bool x.1∧its=[.blk bp0 (.cells #[S x.2.1,I x.2.2] 72)]) (fun n=>Value.iface 69 (Value.agg #[I n])) r:=by
 refine CtS.of Tryz.func48 (enters Tryz.func48 Kr G) G G G ?_;intro w0 M0 H hp;unfold Y0F at h;refine SQ (RG (AS G G (NL (TN (SQ (SQ ?_))))));obtain⟨o4,hx3,h⟩:=bnd h;rcases o4 with ⟨n1,o2⟩|n5
 ·
  try dsimp only at h
  refine RG (MV G G ?_);refine q0x (A:=[.blk bp0 (.cells #[S p0.1,I p0.2] 72)]) (B:=[]) (H.pick (L':=[.blk bp0 (.cells #[S p0.1,I p0.2] 72)]) Kp) (Y0v hx3) (.left (q0o _)) G trivial (q00 G) G ?_;intro v6 M w its H hle hR;try dsimp only at hR
  obtain⟨rfl,rfl⟩:=hR;simp only[l04,l07] at H;refine MV G G (ST (Ex.anyS (tw:=136) (c:=p1) Kr G) G (ST (Ex.neqAnyS Tu20 Dc Kr Tryz.underlying76 G G) G (NL (TN ?_))));refine q0k G (fun hk6=>?_) (fun hk6=>?_)
  ·
   replace hk6 :¬(n1=(eltS p1)):=of_not_decide hk6;rw[if_neg hk6] at h;refine SQ (RG (AS G G (NL (TN (RT ?_)))));obtain rfl:=oI h;exact q1s (its:=[.blk bp0 (.cells #[S o2.1,I o2.2] 72)]) G G H Kp ⟨G,G⟩
  replace hk6:n1=(eltS p1):=of_not_decide' hk6;rw[if_pos hk6] at h;refine SK (TN (SQ ?_));obtain⟨o10,hx9,h⟩:=bnd h;rcases o10 with ⟨n7,o8⟩|n11
  ·
   try dsimp only at h
   refine RG (MV G G ?_);refine q0x (A:=[.blk bp0 (.cells #[S o2.1,I o2.2] 72)]) (B:=[]) (H.pick (L':=[.blk bp0 (.cells #[S o2.1,I o2.2] 72)]) Kp) (Y0u hx9) (.left (q0o _)) G trivial (q00 G) G ?_;intro v11 M w its H hle hR;try dsimp only at hR
   obtain⟨rfl,rfl⟩:=hR;simp only[l04,l07] at H;refine NL (TN (SQ (RG (AS G G (NL (TN (RT ?_)))))));obtain rfl:=oI h;exact q1s (its:=[.blk bp0 (.cells #[S o8.1,I o8.2] 72)]) G G H Kp ⟨G,G⟩
  try dsimp only at h
  obtain rfl:=oI h;refine RG (MV G G ?_);refine q0I (A:=[.blk bp0 (.cells #[S o2.1,I o2.2] 72)]) (B:=[]) (H.pick (L':=[.blk bp0 (.cells #[S o2.1,I o2.2] 72)]) Kp) (Y0u hx9) (.left (q0o _)) G trivial (q00 G) ?_;intro M w H hle
  (repeat(first|refine q0O ?_|refine q0X ?_|refine q0T ?_|refine q0Y ?_))
  exact q0U H
 try dsimp only at h
 obtain rfl:=oI h;refine RG (MV G G ?_);refine q0I (A:=[.blk bp0 (.cells #[S p0.1,I p0.2] 72)]) (B:=[]) (H.pick (L':=[.blk bp0 (.cells #[S p0.1,I p0.2] 72)]) Kp) (Y0v hx3) (.left (q0o _)) G trivial (q00 G) ?_;intro M w H hle
 (repeat(first|refine q0O ?_|refine q0X ?_|refine q0T ?_|refine q0Y ?_))
 exact q0U H
theorem Y0X {p0:(Ls × Int)}{p1:UInt8}{bp0:Nat}{r:((Ls × Int) ⊕ Int)}(h:Y15 p0 p1=some r):CtS Tryz.prog 88 [ptr bp0 0,encB p1] [.blk bp0 (.cells #[S p0.1,I p0.2] 72)] (fun M=>True) (fun x=>fun v M its=>v=Value.tuple #[]∧its=[.blk bp0 (.cells #[S x.1,I x.2] 72)]) (fun n=>Value.iface 69 (Value.agg #[I n])) r:=by
 refine CtS.of Tryz.func88 (enters Tryz.func88 Kr G) G G G ?_;intro w0 M0 H hp;unfold Y15 at h;refine SQ ?_;obtain⟨o4,hx3,h⟩:=bnd h;rcases o4 with ⟨b1,o2⟩|n5
 ·
  try dsimp only at h
  refine RG (MV G G (MV G G ?_));refine q0x (A:=[.blk bp0 (.cells #[S p0.1,I p0.2] 72)]) (B:=[]) (H.pick (L':=[.blk bp0 (.cells #[S p0.1,I p0.2] 72)]) Kp) (Y0b hx3) (.left (q0o _)) G trivial (q00 G) G ?_;intro v6 M w its H hle hR;try dsimp only at hR
  obtain⟨rfl,rfl⟩:=hR;simp only[l04,l07] at H;refine ST (q0L G) G (NL (TN ?_));refine q0k G (fun hk6=>?_) (fun hk6=>?_)
  ·
   replace hk6:b1=false:=by simpa using hk6
   subst hk6;rw[if_neg l06] at h;obtain⟨o9,hx8,h⟩:=bnd h;rcases o9 with o7|n10
   ·
    try dsimp only at h
    refine RG (MV G G ?_);refine q0x (A:=[.blk bp0 (.cells #[S o2.1,I o2.2] 72)]) (B:=[]) (H.pick (L':=[.blk bp0 (.cells #[S o2.1,I o2.2] 72)]) Kp) (Y03 hx8) (.left (q0o _)) G trivial (q00 G) G ?_;intro v9 M w its H hle hR;try dsimp only at hR
    obtain⟨rfl,rfl⟩:=hR;simp only[l04,l07] at H;refine NL ?_;obtain rfl:=oI h;exact WQ.endX0 (its:=[.blk bp0 (.cells #[S o7.1,I o7.2] 72)]) G H Kp ⟨G,G⟩
   try dsimp only at h
   obtain rfl:=oI h;refine RG (MV G G ?_);refine q0I (A:=[.blk bp0 (.cells #[S o2.1,I o2.2] 72)]) (B:=[]) (H.pick (L':=[.blk bp0 (.cells #[S o2.1,I o2.2] 72)]) Kp) (Y03 hx8) (.left (q0o _)) G trivial (q00 G) ?_;intro M w H hle
   (repeat(first|refine q0O ?_|refine q0X ?_|refine q0T ?_|refine q0Y ?_))
   exact q0U H
  replace hk6:b1=true:=by simpa using hk6
  subst hk6;rw[if_pos rfl] at h;refine SK ?_;obtain rfl:=oI h;exact WQ.endX0 (its:=[.blk bp0 (.cells #[S o2.1,I o2.2] 72)]) G H Kp ⟨G,G⟩
 try dsimp only at h
 obtain rfl:=oI h;refine RG (MV G G (MV G G ?_));refine q0I (A:=[.blk bp0 (.cells #[S p0.1,I p0.2] 72)]) (B:=[]) (H.pick (L':=[.blk bp0 (.cells #[S p0.1,I p0.2] 72)]) Kp) (Y0b hx3) (.left (q0o _)) G trivial (q00 G) ?_;intro M w H hle
 (repeat(first|refine q0O ?_|refine q0X ?_|refine q0T ?_|refine q0Y ?_))
 exact q0U H
theorem Y1n {p0:(Ls × Int)}{p1:List (Ls × Bool)}{bp0:Nat}{vp1:Value}{r:(((Ls × Ls × Ls) × (Ls × Int)) ⊕ Int)}(h:Y0r p0 p1=some r):CtS Tryz.prog 123 [ptr bp0 0,vp1] [.blk bp0 (.cells #[S p0.1,I p0.2] 72)] (fun M=>GlF (fun w =>∃m,w.cell? ⟨2,0,none⟩=some (.int .i64 m)) M∧Tabs M∧SlS M 2 xenc136 vp1 p1) (fun x=>fun v M its=>v=Value.agg #[S x.1.1,S x.1.2.1,S x.1.2.2]∧its=[.blk bp0 (.cells #[S x.2.1,I x.2.2] 72)]) (fun n=>Value.iface 69 (Value.agg #[I n])) r:=by
 refine CtS.of Tryz.func123 (enters Tryz.func123 Kr G) G G G ?_;intro w0 M0 H hp;obtain⟨gM,gT,hp1⟩:=hp;unfold Y0r at h;refine SQ (RG (q0j [_,_,_] H Tz24 G (q00 G) G ?_));intro bk4 w H;refine NL (TN (SQ (SQ ?_)));obtain⟨o1,e2,h⟩:=bnd h;refine q0h (fun e w =>∃(b3:Bool) (M:Mem),e=[(0,ptr bp0 0),(1,vp1),(4,ptr bk4 0),(32,Value.bool b3)]∧StX (feet [.blk bp0 (.cells #[S p0.1,I p0.2] 72)]) w0 M0 M [.blk bp0 (.cells #[S p0.1,I p0.2] 72), .blk bk4 (.cells #[S [],S [],S []] 24)] w∧GlF (fun w =>∃m,w.cell? ⟨2,0,none⟩=some (.int .i64 m)) M∧Tabs M∧SlS M 2 xenc136 vp1 p1∧some b3=some o1) [] ?_ ?_ (trivial)
 ·
  refine RG (MV G G (ST (q1o Tu107 hp1 G) G ?_));by_cases hk4:(p1.length:Int)=(1:Int)
  ·
   rw[if_pos hk4] at e2;obtain⟨a5,hxa5,e2⟩:=bnd e2;obtain⟨bk12,o12,ha12,hc12⟩:=hp1.atC hxa5;obtain⟨b6,hx7,e2⟩:=bnd e2;rcases b6 with _|_
   ·
    rw[if_neg l06] at e2;refine q09 (v' := .bool false) (q1p G G) (congrArg Value.bool (by rw[decide_eq_true hk4];rfl)) (q00 G) G G ?_;refine MV G G (SG (q01 G) G G G (SG (q0u ha12 Tu107 Ts136 G G) G G G (SG (q03 Tu136 G Ts9 Dc G) G G G (SG (q08 H G (hc12.at (j:=0) G) Ta9) G G G (q05 H (Y2Z hx7) G trivial (q04 G G G) G ?_)))));intro v15 M w H hle hR;replace gM:=gM.mono hle;replace gT:=gT.mono hle;replace hp1:=hp1.mono hle;obtain rfl:=hR;refine SG (q0L G) G G G (PF G G G (MV G G (q0i 13 G G (PT G G G (NL ?_)))));exact MN ⟨_,_,G,(H.pick (L':=[.blk bp0 (.cells #[S p0.1,I p0.2] 72), .blk bk4 (.cells #[S [],S [],S []] 24)]) Kp),gM,gT,hp1,e2⟩
   rw[if_pos rfl] at e2;obtain⟨a8,hxa8,e2⟩:=bnd e2;obtain⟨bk20,o20,ha20,hc20⟩:=hp1.atC hxa8;by_cases hk9:a8.2=true
   ·
    rw[if_pos hk9] at e2;refine q09 (v' := .bool false) (q1p G G) (congrArg Value.bool (by rw[decide_eq_true hk4];rfl)) (q00 G) G G ?_;refine MV G G (SG (q01 G) G G G (SG (q0u ha12 Tu107 Ts136 G G) G G G (SG (q03 Tu136 G Ts9 Dc G) G G G (SG (q08 H G (hc12.at (j:=0) G) Ta9) G G G (q05 H (Y2Z hx7) G trivial (q04 G G G) G ?_)))));intro v15 M w H hle hR;replace gM:=gM.mono hle;replace gT:=gT.mono hle;replace hp1:=hp1.mono hle;replace hc20:=hc20.mono hle;obtain rfl:=hR;refine SG (q0L G) G G G (PF G G G (MV G G (SG (q01 G) G G G (SG (q0u ha20 Tu107 Ts136 G G) G G G (SG (q03 Tu136 G Ts4 Dc G) G G G (SG (q08 H G (hc20.at (j:=1) G) Ta4) G G G (q09 (v' := .bool false) (q0L G) (congrArg Value.bool (by rw[hk9];rfl)) (q04 G G G) G G ?_)))))));refine SG (q01 G) G G G (q0i 6 G G (SG (q0s G G) G G G (PF G G G (NL ?_))));exact MN ⟨_,_,G,(H.pick (L':=[.blk bp0 (.cells #[S p0.1,I p0.2] 72), .blk bk4 (.cells #[S [],S [],S []] 24)]) Kp),gM,gT,hp1,e2⟩
   rw[if_neg hk9] at e2;obtain⟨a10,hxa10,e2⟩:=bnd e2;obtain⟨bk26,o26,ha26,hc26⟩:=hp1.atC hxa10;obtain⟨b11,hx12,e2⟩:=bnd e2;refine q09 (v' := .bool false) (q1p G G) (congrArg Value.bool (by rw[decide_eq_true hk4];rfl)) (q00 G) G G ?_;refine MV G G (SG (q01 G) G G G (SG (q0u ha12 Tu107 Ts136 G G) G G G (SG (q03 Tu136 G Ts9 Dc G) G G G (SG (q08 H G (hc12.at (j:=0) G) Ta9) G G G (q05 H (Y2Z hx7) G trivial (q04 G G G) G ?_)))));intro v15 M w H hle hR;replace gM:=gM.mono hle;replace gT:=gT.mono hle;replace hp1:=hp1.mono hle;replace hc20:=hc20.mono hle;replace hc26:=hc26.mono hle;obtain rfl:=hR;refine SG (q0L G) G G G (PF G G G (MV G G (SG (q01 G) G G G (SG (q0u ha20 Tu107 Ts136 G G) G G G (SG (q03 Tu136 G Ts4 Dc G) G G G (SG (q08 H G (hc20.at (j:=1) G) Ta4) G G G (q09 (v' := .bool true) (q0L G) (congrArg Value.bool (by rw[(l1g hk9)];rfl)) (q04 G G G) G G ?_)))))));refine SG (q01 G) G G G (SG (q01 G) G G G (SG (q0u ha26 Tu107 Ts136 G G) G G G (SG (q03 Tu136 G Ts9 Dc G) G G G (SG (q08 H G (hc26.at (j:=0) G) Ta9) G G G (q05 H (Y3Z hx12) G ⟨gM,gT⟩ (q04 G G G) G ?_)))));intro v29 M w H hle hR;replace gM:=gM.mono hle;replace gT:=gT.mono hle;replace hp1:=hp1.mono hle;obtain rfl:=hR;refine SG (q0L G) G G G (SG (q0r G G) G G G (PF G G G (NL ?_)));exact MN ⟨_,_,G,(H.pick (L':=[.blk bp0 (.cells #[S p0.1,I p0.2] 72), .blk bk4 (.cells #[S [],S [],S []] 24)]) Kp),gM,gT,hp1,e2⟩
  rw[if_neg hk4] at e2;refine q09 (v' := .bool true) (q1p G G) (congrArg Value.bool (by rw[decide_eq_false hk4];rfl)) (q00 G) G G ?_;refine MV G G (q0i 6 G G (PT G G G (MV G G (q0i 13 G G (PT G G G (NL ?_))))));exact MN ⟨_,_,G,(H.pick (L':=[.blk bp0 (.cells #[S p0.1,I p0.2] 72), .blk bk4 (.cells #[S [],S [],S []] 24)]) Kp),gM,gT,hp1,e2⟩
 rintro e w ⟨b3,M,rfl,H,gM,gT,hp1,q13⟩;obtain rfl:=oI q13;refine TN ?_;obtain⟨o14,e15,h⟩:=bnd h;refine q0h (fun e w =>∃(s16:Ls) (n17:Int) (M:Mem),e=[(0,ptr bp0 0),(1,vp1),(4,ptr bk4 0)]∧StX (feet [.blk bp0 (.cells #[S p0.1,I p0.2] 72)]) w0 M0 M [.blk bp0 (.cells #[S s16,I n17] 72), .blk bk4 (.cells #[S [],S [],S []] 24)] w∧GlF (fun w =>∃m,w.cell? ⟨2,0,none⟩=some (.int .i64 m)) M∧Tabs M∧SlS M 2 xenc136 vp1 p1∧some (.inl (s16,n17))=some o14) [] ?_ ?_ (trivial)
 ·
  refine q0k G (fun hk18=>?_) (fun hk18=>?_)
  ·
   subst hk18;rw[if_pos rfl] at e15;obtain⟨o21,hx20,e15⟩:=bnd e15;rcases o21 with o19|n22
   ·
    try dsimp only at e15
    refine RG (MV G G ?_);refine q0x (A:=[.blk bp0 (.cells #[S p0.1,I p0.2] 72)]) (B:=[.blk bk4 (.cells #[S [],S [],S []] 24)]) (H.pick (L':=[.blk bp0 (.cells #[S p0.1,I p0.2] 72), .blk bk4 (.cells #[S [],S [],S []] 24)]) Kp) (Y03 hx20) (.left (q0o _)) G trivial (q00 G) G ?_;intro v34 M w its H hle hR;replace gM:=gM.mono hle;replace gT:=gT.mono hle;replace hp1:=hp1.mono hle;try dsimp only at hR
    obtain⟨rfl,rfl⟩:=hR;simp only[l04,l07] at H;refine NL ?_;exact MN ⟨_,_,_,G,H,gM,gT,hp1,e15⟩
   try dsimp only at e15
   obtain rfl:=oI e15;try dsimp only at h
   obtain rfl:=oI h;refine RG (MV G G ?_);refine q0I (A:=[.blk bp0 (.cells #[S p0.1,I p0.2] 72)]) (B:=[.blk bk4 (.cells #[S [],S [],S []] 24)]) (H.pick (L':=[.blk bp0 (.cells #[S p0.1,I p0.2] 72), .blk bk4 (.cells #[S [],S [],S []] 24)]) Kp) (Y03 hx20) (.left (q0o _)) G trivial (q00 G) ?_;intro M w H hle
   (repeat(first|refine q0O ?_|refine q0X ?_|refine q0T ?_|refine q0Y ?_))
   exact q0U H
  subst hk18;rw[if_neg l06] at e15;refine SK ?_;exact MN ⟨_,_,_,G,H,gM,gT,hp1,e15⟩
 rintro e w ⟨s16,n17,M,rfl,H,gM,gT,hp1,q23⟩;obtain rfl:=oI q23;try dsimp only at h
 refine TN (SQ ?_);obtain⟨o26,hx25,h⟩:=bnd h;rcases o26 with o24|n27
 ·
  try dsimp only at h
  refine RG (MV G G ?_);refine q0x (A:=[.blk bp0 (.cells #[S s16,I n17] 72)]) (B:=[.blk bk4 (.cells #[S [],S [],S []] 24)]) (H.pick (L':=[.blk bp0 (.cells #[S s16,I n17] 72), .blk bk4 (.cells #[S [],S [],S []] 24)]) Kp) (Y0X hx25) (.left (q0o _)) G trivial (q00 G) G ?_;intro v36 M w its H hle hR;replace gM:=gM.mono hle;replace gT:=gT.mono hle;replace hp1:=hp1.mono hle;try dsimp only at hR
  obtain⟨rfl,rfl⟩:=hR;simp only[l04,l07] at H;refine NL (TN (SQ ?_));obtain⟨o31,hx30,h⟩:=bnd h;rcases o31 with ⟨n28,o29⟩|n32
  ·
   try dsimp only at h
   obtain⟨⟨w33,b34⟩,hx35,h⟩:=bnd h;try dsimp only at h
   refine RG (MV G G ?_);refine q0x (A:=[.blk bp0 (.cells #[S o24.1,I o24.2] 72)]) (B:=[.blk bk4 (.cells #[S [],S [],S []] 24)]) (H.pick (L':=[.blk bp0 (.cells #[S o24.1,I o24.2] 72), .blk bk4 (.cells #[S [],S [],S []] 24)]) Kp) (Y0u hx30) (.left (q0o _)) G trivial (q00 G) G ?_;intro v39 M w its H hle hR;replace gM:=gM.mono hle;replace gT:=gT.mono hle;replace hp1:=hp1.mono hle;try dsimp only at hR
   obtain⟨rfl,rfl⟩:=hR;simp only[l04,l07] at H;refine ST (Ex.anyOk Tu136 Tz136 G hx35 G) G (MV G G (ST (q0b G G) G (ST (q0b G G) G (q0j [_,_] H Tz136 G (q00 G) G ?_))));intro bk5 w H;refine q0c [_,_] H G G G Ku Ts136 G Kf Kf (q00 G) ?_;intro w H;refine AS G G (NL (TN (SQ (SQ ?_))));obtain⟨o36,e37,h⟩:=bnd h;refine q0h (fun e w =>∃(b38:Bool) (M:Mem),e=[(0,ptr bp0 0),(1,vp1),(4,ptr bk4 0),(5,ptr bk5 0),(54,Value.bool b38)]∧StX (feet [.blk bp0 (.cells #[S p0.1,I p0.2] 72)]) w0 M0 M [.blk bp0 (.cells #[S o29.1,I o29.2] 72), .blk bk4 (.cells #[S [],S [],S []] 24), .blk bk5 (.cells #[S w33.1,Value.bool w33.2] 136)] w∧GlF (fun w =>∃m,w.cell? ⟨2,0,none⟩=some (.int .i64 m)) M∧Tabs M∧SlS M 2 xenc136 vp1 p1∧some b38=some o36) [] ?_ ?_ (trivial)
   ·
    refine RG (MV G G (ST (q0L G) G (MV G G ?_)));rcases b34 with _|_
    ·
     rw[if_neg l06] at e37;refine GT G G G (GT G G G (PT G G G (MV G G (q0i 4 G G (PT G G G (NL ?_))))));exact MN ⟨_,_,G,(H.pick (L':=[.blk bp0 (.cells #[S o29.1,I o29.2] 72), .blk bk4 (.cells #[S [],S [],S []] 24), .blk bk5 (.cells #[S w33.1,Value.bool w33.2] 136)]) Kp),gM,gT,hp1,e37⟩
    rw[if_pos rfl] at e37;by_cases hk39:w33.2=true
    ·
     rw[if_pos hk39] at e37;refine SG (q03 Tu136 G Ts4 Dc G) G G G (q09 (v' := .bool true) (XL H Ta4) (congrArg Value.bool hk39) (q04 G G G) G G ?_);refine PF G G G (MV G G (q0i 4 G G (PT G G G (NL ?_))));exact MN ⟨_,_,G,(H.pick (L':=[.blk bp0 (.cells #[S o29.1,I o29.2] 72), .blk bk4 (.cells #[S [],S [],S []] 24), .blk bk5 (.cells #[S w33.1,Value.bool w33.2] 136)]) Kp),gM,gT,hp1,e37⟩
    rw[if_neg hk39] at e37;obtain⟨b40,hx41,e37⟩:=bnd e37;refine SG (q03 Tu136 G Ts4 Dc G) G G G (q09 (v' := .bool false) (XL H Ta4) (congrArg Value.bool (l1g hk39)) (q04 G G G) G G ?_);refine PF G G G (MV G G (SG (q03 Tu136 G Ts9 Dc G) G G G (SG (XL H Ta9) G G G ?_)));refine q05 H (Y3Y hx41) G ⟨gM,gT⟩ (q04 G G G) G ?_;intro v52 M w H hle hR;replace gM:=gM.mono hle;replace gT:=gT.mono hle;replace hp1:=hp1.mono hle;obtain rfl:=hR;refine SG (q0L G) G G G (PF G G G (NL ?_));exact MN ⟨_,_,G,(H.pick (L':=[.blk bp0 (.cells #[S o29.1,I o29.2] 72), .blk bk4 (.cells #[S [],S [],S []] 24), .blk bk5 (.cells #[S w33.1,Value.bool w33.2] 136)]) Kp),gM,gT,hp1,e37⟩
   rintro e w ⟨b38,M,rfl,H,gM,gT,hp1,q42⟩;obtain rfl:=oI q42;refine TN ?_;obtain⟨o43,e44,h⟩:=bnd h;refine q0h (fun e w =>∃(s45:Ls) (n46:Int) (M:Mem),e=[(1,vp1),(4,ptr bk4 0),(5,ptr bk5 0)]∧StX (feet [.blk bp0 (.cells #[S p0.1,I p0.2] 72)]) w0 M0 M [.blk bk4 (.cells #[S [],S [],S []] 24), .blk bk5 (.cells #[S w33.1,Value.bool w33.2] 136), .blk bp0 (.cells #[S s45,I n46] 72)] w∧GlF (fun w =>∃m,w.cell? ⟨2,0,none⟩=some (.int .i64 m)) M∧Tabs M∧SlS M 2 xenc136 vp1 p1∧some (.inl (s45,n46))=some o43) [] ?_ ?_ (trivial)
   ·
    refine q0k G (fun hk47=>?_) (fun hk47=>?_)
    ·
     subst hk47;rw[if_pos rfl] at e44;obtain⟨o50,hx49,e44⟩:=bnd e44;rcases o50 with o48|n51
     ·
      try dsimp only at e44
      refine RG (MV G G ?_);refine q0x (A:=[.blk bp0 (.cells #[S o29.1,I o29.2] 72)]) (B:=[.blk bk4 (.cells #[S [],S [],S []] 24), .blk bk5 (.cells #[S w33.1,Value.bool w33.2] 136)]) (H.pick (L':=[.blk bp0 (.cells #[S o29.1,I o29.2] 72), .blk bk4 (.cells #[S [],S [],S []] 24), .blk bk5 (.cells #[S w33.1,Value.bool w33.2] 136)]) Kp) (Y03 hx49) (.left (q0o _)) G trivial (q00 G) G ?_;intro v56 M w its H hle hR;replace gM:=gM.mono hle;replace gT:=gT.mono hle;replace hp1:=hp1.mono hle;try dsimp only at hR
      obtain⟨rfl,rfl⟩:=hR;simp only[l04,l07] at H;refine NL ?_;exact MN ⟨_,_,_,G,(H.pick (L':=[.blk bk4 (.cells #[S [],S [],S []] 24), .blk bk5 (.cells #[S w33.1,Value.bool w33.2] 136), .blk bp0 (.cells #[S o48.1,I o48.2] 72)]) Kp),gM,gT,hp1,e44⟩
     try dsimp only at e44
     obtain rfl:=oI e44;try dsimp only at h
     obtain rfl:=oI h;refine RG (MV G G ?_);refine q0I (A:=[.blk bp0 (.cells #[S o29.1,I o29.2] 72)]) (B:=[.blk bk4 (.cells #[S [],S [],S []] 24), .blk bk5 (.cells #[S w33.1,Value.bool w33.2] 136)]) (H.pick (L':=[.blk bp0 (.cells #[S o29.1,I o29.2] 72), .blk bk4 (.cells #[S [],S [],S []] 24), .blk bk5 (.cells #[S w33.1,Value.bool w33.2] 136)]) Kp) (Y03 hx49) (.left (q0o _)) G trivial (q00 G) ?_;intro M w H hle
     (repeat(first|refine q0O ?_|refine q0X ?_|refine q0T ?_|refine q0Y ?_))
     exact q0U H
    subst hk47;rw[if_neg l06] at e44;refine SK ?_;exact MN ⟨_,_,_,G,(H.pick (L':=[.blk bk4 (.cells #[S [],S [],S []] 24), .blk bk5 (.cells #[S w33.1,Value.bool w33.2] 136), .blk bp0 (.cells #[S o29.1,I o29.2] 72)]) Kp),gM,gT,hp1,e44⟩
   rintro e w ⟨s45,n46,M,rfl,H,gM,gT,hp1,q52⟩;obtain rfl:=oI q52;try dsimp only at h
   refine TN (SQ ?_);obtain⟨a53,hxa53,h⟩:=bnd h;obtain⟨bk58,o58,ha58,hc58⟩:=hp1.atC hxa53;refine q0H (m:=8) G G H ?_;intro w H;refine TK 0 G (fun _=>q01 G) G (TK 1 G (fun _=>q0u ha58 Tu107 Ts136 G G) G (TK 2 G (fun _=>q03 Tu136 G Ts9 Dc G) G (TK 4 G (fun _=>q03 Tu136 G Ts9 Dc G) G (q1e (i:=3) [5] G Kr Kr Kr (q08 H G (hc58.at (j:=0) G) Ta9) (q00 G) G G (fun _ _=>G) (q0v (fuel:=0) [5,6,7] G Kr (ST (XL H Ta9) G ?_))))));refine ST (q0N [S [],S a53.1,S w33.1] Tu24 Tz24 (xplaces24 Tu24) G G) G (q0c [_,_,_] H G G G Ku Ts24 G Kf Kf (q00 G) ?_);intro w H;refine NA (q0l Kr (TN (RT ?_)));obtain rfl:=oI h;exact q1s (its:=[.blk bp0 (.cells #[S s45,I n46] 72)]) G ⟨_,G,H.loadAgg Km Ta24 Ts24 Kf⟩ H Kp ⟨G,G⟩
  try dsimp only at h
  obtain rfl:=oI h;refine RG (MV G G ?_);refine q0I (A:=[.blk bp0 (.cells #[S o24.1,I o24.2] 72)]) (B:=[.blk bk4 (.cells #[S [],S [],S []] 24)]) (H.pick (L':=[.blk bp0 (.cells #[S o24.1,I o24.2] 72), .blk bk4 (.cells #[S [],S [],S []] 24)]) Kp) (Y0u hx30) (.left (q0o _)) G trivial (q00 G) ?_;intro M w H hle
  (repeat(first|refine q0O ?_|refine q0X ?_|refine q0T ?_|refine q0Y ?_))
  exact q0U H
 try dsimp only at h
 obtain rfl:=oI h;refine RG (MV G G ?_);refine q0I (A:=[.blk bp0 (.cells #[S s16,I n17] 72)]) (B:=[.blk bk4 (.cells #[S [],S [],S []] 24)]) (H.pick (L':=[.blk bp0 (.cells #[S s16,I n17] 72), .blk bk4 (.cells #[S [],S [],S []] 24)]) Kp) (Y0X hx25) (.left (q0o _)) G trivial (q00 G) ?_;intro M w H hle
 (repeat(first|refine q0O ?_|refine q0X ?_|refine q0T ?_|refine q0Y ?_))
 exact q0U H
theorem Y4K {p0:UInt8}{r:(UInt8 × Bool)}(h:Y3W p0=some r):Ct Tryz.prog 227 [encB p0] (fun M=>True) (fun v M=>v=Value.tuple #[encB r.1,Value.bool r.2]):=by
 refine Ct.of Tryz.func227 (enters Tryz.func227 Kr G) G G G ?_;intro w0 M0 H hp;unfold Y3W at h;refine SQ (RG (AS G G (AS G G (NL (TN (SQ (BL (SQ ?_))))))));obtain⟨o1,e2,h⟩:=bnd h;refine q0h (fun e w =>∃(b3:Bool) (M:Mem),e=[(0,encB p0),(4,Value.bool b3)]∧St w0 M0 M [] w∧some b3=some o1) [] ?_ ?_ (trivial)
 ·
  by_cases hk4:48≤p0.toNat
  ·
   rw[if_pos hk4] at e2;refine RG (MV G G (DT hk4 (q1f (i:=p0.toNat) (j:=48) G G) G (MV G G (SG (q01 G) G G G (SG (q1A (i:=p0.toNat) (j:=57) G G) G G G (PT G G G (AS G G (NL ?_))))))));exact MN ⟨_,_,G,H,e2⟩
  rw[if_neg hk4] at e2;refine RG (MV G G (DF hk4 (q1f (i:=p0.toNat) (j:=48) G G) G (MV G G (GF G G G (GF G G G (PF G G G (AS G G (NL ?_))))))));exact MN ⟨_,_,G,H,e2⟩
 rintro e w ⟨b3,M,rfl,H,q5⟩;obtain rfl:=oI q5;refine TN ?_;refine q0k G (fun hk6=>?_) (fun hk6=>?_)
 ·
  subst hk6;rw[if_pos rfl] at h;refine SQ (RG (MV G G (ST (Ex.subB (c:=p0) (d:=48) G G) G (AS G G (AS G G (NL (TN (RT ?_))))))));obtain rfl:=oI h;exact q0y G G G H.ext G
 subst hk6;rw[if_neg l06] at h;refine SQ ?_;obtain⟨o7,e8,h⟩:=bnd h;refine q0h (fun e w =>∃(b9:Bool) (M:Mem),e=[(0,encB p0),(13,Value.bool b9)]∧St w0 M0 M [] w∧some b9=some o7) [] ?_ ?_ (trivial)
 ·
  by_cases hk10:65≤p0.toNat
  ·
   rw[if_pos hk10] at e8;refine RG (MV G G (DT hk10 (q1f (i:=p0.toNat) (j:=65) G G) G (MV G G (SG (q01 G) G G G (SG (q1A (i:=p0.toNat) (j:=70) G G) G G G (PT G G G (AS G G (NL ?_))))))));exact MN ⟨_,_,G,H,e8⟩
  rw[if_neg hk10] at e8;refine RG (MV G G (DF hk10 (q1f (i:=p0.toNat) (j:=65) G G) G (MV G G (GF G G G (GF G G G (PF G G G (AS G G (NL ?_))))))));exact MN ⟨_,_,G,H,e8⟩
 rintro e w ⟨b9,M,rfl,H,q11⟩;obtain rfl:=oI q11;refine TN ?_;refine q0k G (fun hk12=>?_) (fun hk12=>?_)
 ·
  subst hk12;rw[if_pos rfl] at h;refine SQ (RG (MV G G (ST (Ex.subB (c:=p0) (d:=65) G G) G (ST (Ex.addB (c:=(p0-(65:UInt8))) (d:=10) G G) G (AS G G (AS G G (NL (TN (RT ?_)))))))));obtain rfl:=oI h;exact q0y G G G H.ext G
 subst hk12;rw[if_neg l06] at h;refine SQ ?_;obtain⟨o13,e14,h⟩:=bnd h;refine q0h (fun e w =>∃(b15:Bool) (M:Mem),e=[(0,encB p0),(23,Value.bool b15)]∧St w0 M0 M [] w∧some b15=some o13) [] ?_ ?_ (trivial)
 ·
  by_cases hk16:97≤p0.toNat
  ·
   rw[if_pos hk16] at e14;refine RG (MV G G (DT hk16 (q1f (i:=p0.toNat) (j:=97) G G) G (MV G G (SG (q01 G) G G G (SG (q1A (i:=p0.toNat) (j:=102) G G) G G G (PT G G G (AS G G (NL ?_))))))));exact MN ⟨_,_,G,H,e14⟩
  rw[if_neg hk16] at e14;refine RG (MV G G (DF hk16 (q1f (i:=p0.toNat) (j:=97) G G) G (MV G G (GF G G G (GF G G G (PF G G G (AS G G (NL ?_))))))));exact MN ⟨_,_,G,H,e14⟩
 rintro e w ⟨b15,M,rfl,H,q17⟩;obtain rfl:=oI q17;refine TN ?_;refine q0k G (fun hk18=>?_) (fun hk18=>?_)
 ·
  subst hk18;rw[if_pos rfl] at h;refine SQ (RG (MV G G (ST (Ex.subB (c:=p0) (d:=97) G G) G (ST (Ex.addB (c:=(p0-(97:UInt8))) (d:=10) G G) G (AS G G (AS G G (NL (TN (RT ?_)))))))));obtain rfl:=oI h;exact q0y G G G H.ext G
 subst hk18;rw[if_neg l06] at h;refine SK (IB (TN (SQ (RG (AS G G (AS G G (NL (TN (RT ?_)))))))));obtain rfl:=oI h;exact q0y G G G H.ext G
theorem Y5f {p0:Ls}{r:(UInt8 × Bool)}(h:Y3g p0=some r):Ct Tryz.prog 210 [S p0] (fun M=>True) (fun v M=>v=Value.tuple #[encB r.1,Value.bool r.2]):=by
 refine Ct.of Tryz.func210 (enters Tryz.func210 Kr G) G G G ?_;intro w0 M0 H hp;unfold Y3g at h;refine SQ (RG (AS G G (AS G G (NL (TN (SQ (SQ (RG (MV G G (ST (q0g Tu9 G) G (ST (q0n G G) G (NL (TN ?_)))))))))))));refine CB (p:=(p0.length:Int)<(2:Int)) G (fun hk1=>?_) fun hk1=>?_
 ·
  rw[if_pos hk1] at h;refine SQ (RG (AS G G (AS G G (NL (TN (RT ?_))))));obtain rfl:=oI h;exact q0y G G G H.ext G
 rw[if_neg hk1] at h;refine SK (TN (SQ ?_));obtain⟨c2,hxc2,h⟩:=bnd h;obtain⟨⟨c3,b4⟩,hx5,h⟩:=bnd h;try dsimp only at h
 refine RG (MV G G (ST (q0t Tu9 G G hxc2) G (q05 H (Y4K hx5) G trivial (q00 G) G ?_)));intro v14 M w H hle hR;try dsimp only at hR
 obtain rfl:=hR;refine MV G G (ST (q0b G G) G (ST (q0b G G) G (AS G G (AS G G (NL (TN (SQ ?_)))))));obtain⟨c6,hxc6,h⟩:=bnd h;obtain⟨⟨c7,b8⟩,hx9,h⟩:=bnd h;try dsimp only at h
 refine RG (MV G G (ST (q0t Tu9 G G hxc6) G (q05 H (Y4K hx9) G trivial (q00 G) G ?_)));intro v20 M w H hle hR;try dsimp only at hR
 obtain rfl:=hR;refine MV G G (ST (q0b G G) G (ST (q0b G G) G (AS G G (AS G G (NL (TN (SQ ?_)))))));obtain⟨o10,e11,h⟩:=bnd h;refine q0h (fun e w =>∃(c12:UInt8) (b13:Bool) (M:Mem),e=[(2,encB c12),(3,Value.bool b13)]∧St w0 M0 M [] w∧some (c12,b13)=some o10) [] ?_ ?_ (trivial)
 ·
  refine RG (MV G G (ST (Ex.shlB (c:=c3) (m:=4) G G Dc) G (MV G G (ST (Ex.orB (c:=(UInt8.ofNat (c3.toNat*2 ^ 4))) (d:=c7) G G) G (MV G G (MV G G ?_))))));rcases b4 with _|_
  ·
   rw[if_neg l06] at e11;refine GF G G G (PF G G G (AS G G (AS G G (NL ?_))));exact MN ⟨_,_,_,G,H,e11⟩
  rw[if_pos rfl] at e11;refine SG (q01 G) G G G (PT G G G (AS G G (AS G G (NL ?_))));exact MN ⟨_,_,_,G,H,e11⟩
 rintro e w ⟨c12,b13,M,rfl,H,q14⟩;obtain rfl:=oI q14;try dsimp only at h
 refine TN (RT ?_);obtain rfl:=oI h;exact q0y G G G H.ext G
theorem Y4P {p0:Ls}{p1:Ls}{r:(Ls × Bool)}(h:Y3b p0 p1=some r):Ct Tryz.prog 185 [S p0,S p1] (fun M=>GlF (fun w =>∃m,w.cell? ⟨2,0,none⟩=some (.int .i64 m)) M) (fun v M =>∃x0,v=Value.tuple #[x0,Value.bool r.2]∧Sl M encB x0 r.1):=by
 refine Ct.of Tryz.func185 (enters Tryz.func185 Kr G) G G G ?_;intro w0 M0 H hp;have gM:=hp;unfold Y3b at h;refine SQ (RG (AS G G (AS G G (NL (TN (SQ (SQ (RG (MV G G (NL (TN (BL (SQ (SQ (RG (ST (q0z G G) G (AS G G (NL (TN ?_)))))))))))))))))));obtain⟨o1,e2,h⟩:=bnd h;refine q0h (fun e w =>∃(b3:Bool) (M:Mem),e=[(1,S p1),(12,S p0),(13,Value.bool b3)]∧St w0 M0 M [] w∧GlF (fun w =>∃m,w.cell? ⟨2,0,none⟩=some (.int .i64 m)) M∧some b3=some o1) [] ?_ ?_ (trivial)
 ·
  refine CB (p:=p0=[66]) G (fun hk4=>?_) fun hk4=>?_
  ·
   rw[if_pos hk4] at e2;refine SK ?_;exact MN ⟨_,_,G,H,gM,e2⟩
  rw[if_neg hk4] at e2;refine RG (ST (q0z G G) G (AS G G (NL ?_)));exact MN ⟨_,_,G,H,gM,e2⟩
 rintro e w ⟨b3,M,rfl,H,gM,q5⟩;obtain rfl:=oI q5;refine TN ?_;refine q0k G (fun hk6=>?_) (fun hk6=>?_)
 ·
  subst hk6;rw[if_pos rfl] at h;refine SQ ?_;obtain⟨l7,hxl7,h⟩:=bnd h;obtain⟨⟨l8,⟨n9,n10⟩⟩,hx11,h⟩:=bnd h;try dsimp only at h
  refine RG (MV G G (WR.bytesC H Tu9 Tu88 Tu5 G hxl7 (q00 G) G ?_));intro v18 M w H hle hs18;replace gM:=gM.mono hle;refine q05 H (Y4H hx11) G (hs18) (q00 G) G ?_;intro v19 M w H hle hR;replace gM:=gM.mono hle;try dsimp only at hR
  obtain⟨x19_0,rfl,f19_0⟩:=hR;refine MV G G (ST (q0b G G) G (ST (q0b G G) G (q0j [_,_] H Tz27 G (q00 G) G ?_)));intro bk7 w H;refine AS G G (q0c [_,_] H G G G Ku Ts27 G Kf Kf (q00 G) ?_);intro w H;refine NL (TN (SQ ?_));obtain⟨s12,hx13,h⟩:=bnd h;refine RG (MV G G (MV G G (q05 H (Y4y hx13) G ⟨gM,f19_0⟩ (q00 G) G ?_)));intro v24 M w H hle hR;replace f19_0:=f19_0.mono hle;obtain rfl:=hR;refine MV G G (ST (q0z G G) G (AS G G (AS G G (NL (TN (RT ?_))))));obtain rfl:=oI h;exact q0y G G G H.ext (⟨_,G,f19_0⟩)
 subst hk6;rw[if_neg l06] at h;refine SQ (SQ (RG (ST (q0z G G) G (AS G G (NL (TN ?_))))));obtain⟨o14,e15,h⟩:=bnd h;refine q0h (fun e w =>∃(b16:Bool) (M:Mem),e=[(1,S p1),(27,Value.bool b16)]∧St w0 M0 M [] w∧GlF (fun w =>∃m,w.cell? ⟨2,0,none⟩=some (.int .i64 m)) M∧some b16=some o14) [] ?_ ?_ (trivial)
 ·
  refine CB (p:=p0=[81]) G (fun hk17=>?_) fun hk17=>?_
  ·
   rw[if_pos hk17] at e15;refine SK ?_;exact MN ⟨_,_,G,H,gM,e15⟩
  rw[if_neg hk17] at e15;refine RG (ST (q0z G G) G (AS G G (NL ?_)));exact MN ⟨_,_,G,H,gM,e15⟩
 rintro e w ⟨b16,M,rfl,H,gM,q18⟩;obtain rfl:=oI q18;refine TN ?_;refine q0k G (fun hk19=>?_) (fun hk19=>?_)
 ·
  subst hk19;rw[if_pos rfl] at h;refine SQ (RG (AS G G (NL (TN (SQ (SQ (RG (AS G G (NL (TN ?_))))))))));obtain⟨o20,e21,h⟩:=bnd h;refine q0h (fun e w =>∃(l23:Ls) (v24:Value) (M:Mem),e=[(8,v24)]∧St w0 M0 M [RowI 5 encB v24 l23] w∧GlF (fun w =>∃m,w.cell? ⟨2,0,none⟩=some (.int .i64 m)) M∧some (.inl l23)=some o20) [] ?_ ?_ (trivial)
  ·
   refine BL ?_;replace H:=H.newRow 5 encB;refine q0A (fun m e w =>∃(l26:Ls) (v27:Value) (n28:Int) (M:Mem),e=[(1,S p1),(8,v27),(9,I n28)]∧St w0 M0 M [RowI 5 encB v27 l26] w∧GlF (fun w =>∃m,w.cell? ⟨2,0,none⟩=some (.int .i64 m)) M∧Y0Z p1 m l26 n28=some o20) FU [(1,_),(8,_),(9,_)] ⟨rfl,rfl,rfl,trivial⟩ ⟨_,_,_,_,rfl,H,gM,e21⟩ ?_;rintro m29 e w ⟨l26,v27,n28,M,rfl,H,gM,e21⟩;rcases m29 with _|m29
   · rw[Y0Z] at e21;cases e21
   rw[Y0Z] at e21;refine SQ (SQ (RG (MV G G (MV G G (ST (q0g Tu9 G) G (ST (q0n G G) G (NL (TN ?_))))))));refine CB (p:=n28<(p1.length:Int)) G (fun hk31=>?_) fun hk31=>?_
   ·
    rw[if_pos hk31] at e21;refine SK (TN (SQ (BL (BL (SQ ?_)))));obtain⟨c32,hxc32,e21⟩:=bnd e21;refine RG (MV G G (MV G G (ST (q0t Tu9 G G hxc32) G (ST (q1B (c:=c32) (d:=95) G G) G (AS G G (NL (TN ?_)))))));refine CB (p:=c32=95) G (fun hk33=>?_) fun hk33=>?_
    ·
     rw[if_pos hk33] at e21;obtain⟨l34,hxl34,e21⟩:=bnd e21;refine RG (MV G G (q0F (enc:=encB) xty88 ([32]:Ls) H G Kf (fun _=>G) G G (q00 G) G ?_));intro v42 M w H hle hs42;replace gM:=gM.mono hle;refine q1g (l:=l26) xty88 G (fun _=>G) H G (fun _=>by repeat first|exact .head|apply Upd.tail) G (hs42) hxl34 (q00 G) G ?_;intro v43 w H;refine AS G G (NL (IB (IB (TN ?_))));obtain⟨n35,hxn35,e21⟩:=bnd e21;refine RG (MV G G (ST (q0p G G hxn35) G (AS G G (NL ?_))));exact AG m29 ⟨_,_,_,_,G,H,gM,e21⟩ (l0b _)
    rw[if_neg hk33] at e21;refine SQ ?_;obtain⟨c36,hxc36,e21⟩:=bnd e21;refine RG (MV G G (MV G G (ST (q0t Tu9 G G hxc36) G (ST (q1B (c:=c36) (d:=61) G G) G (AS G G (NL (TN ?_)))))));refine CB (p:=c36=61) G (fun hk37=>?_) fun hk37=>?_
    ·
     rw[if_pos hk37] at e21;refine SQ ?_;obtain⟨n38,hxn38,e21⟩:=bnd e21;obtain⟨s39,hxs39,e21⟩:=bnd e21;obtain⟨⟨c40,b41⟩,hx42,e21⟩:=bnd e21;try dsimp only at e21
     refine RG (MV G G (MV G G (ST (q0p G G hxn38) G (ST (q1U Tu9 G G hxs39) G (q05 H (Y5f hx42) G trivial (q00 G) G ?_)))));intro v54 M w H hle hR;replace gM:=gM.mono hle;try dsimp only at hR
     obtain rfl:=hR;refine MV G G (ST (q0b G G) G (ST (q0b G G) G (AS G G (AS G G (NL (TN (SQ (SQ (RG (MV G G (ST (q0L G) G (NL (TN ?_)))))))))))));refine q0k G (fun hk43=>?_) (fun hk43=>?_)
     ·
      replace hk43:b41=false:=by simpa using hk43
      subst hk43;rw[if_neg l06] at e21;refine SQ (RG (AS G G (AS G G (NL (TN (RT ?_))))));obtain rfl:=oI e21;try dsimp only at h
      obtain rfl:=oI h;exact q0y G G G H.ext (⟨_,G,q2e _ _⟩)
     replace hk43:b41=true:=by simpa using hk43
     subst hk43;rw[if_pos rfl] at e21;refine SK (TN (SQ ?_));obtain⟨l44,hxl44,e21⟩:=bnd e21;refine RG (MV G G (MV G G (q0F (enc:=encB) xty88 ([c40]:Ls) H G Kf (fun _=>G) G G (q00 G) G ?_)));intro v61 M w H hle hs61;replace gM:=gM.mono hle;refine q1g (l:=l26) xty88 G (fun _=>G) H G (fun _=>by repeat first|exact .head|apply Upd.tail) G (hs61) hxl44 (q00 G) G ?_;intro v62 w H;refine AS G G (NL (TN ?_));obtain⟨n45,hxn45,e21⟩:=bnd e21;refine RG (MV G G (ST (q0p G G hxn45) G (AS G G (NL (IB (IB (TN ?_)))))));obtain⟨n46,hxn46,e21⟩:=bnd e21;refine RG (MV G G (ST (q0p G G hxn46) G (AS G G (NL ?_))));exact AG m29 ⟨_,_,_,_,G,H,gM,e21⟩ (l0b _)
    rw[if_neg hk37] at e21;refine SQ ?_;obtain⟨o47,e48,e21⟩:=bnd e21;refine q0h (fun e w =>∃(b49:Bool) (M:Mem),e=[(1,S p1),(8,v27),(9,I n28),(65,Value.bool b49)]∧St w0 M0 M [RowI 5 encB v27 l26] w∧GlF (fun w =>∃m,w.cell? ⟨2,0,none⟩=some (.int .i64 m)) M∧some b49=some o47) [] ?_ ?_ (trivial)
    ·
     obtain⟨c50,hxc50,e48⟩:=bnd e48;refine RG (MV G G (MV G G (ST (q0t Tu9 G G hxc50) G ?_)));by_cases hk51:33≤c50.toNat
     ·
      rw[if_pos hk51] at e48;obtain⟨c52,hxc52,e48⟩:=bnd e48;refine DT hk51 (q1f (i:=c50.toNat) (j:=33) G G) G (MV G G (SG (q01 G) G G G (SG (q01 G) G G G (SG (q0t Tu9 G G hxc52) G G G (SG (q1A (i:=c52.toNat) (j:=126) G G) G G G (PT G G G (AS G G (NL ?_))))))));exact MN ⟨_,_,G,H,gM,e48⟩
     rw[if_neg hk51] at e48;refine DF hk51 (q1f (i:=c50.toNat) (j:=33) G G) G (MV G G (q0i 4 G G (PF G G G (AS G G (NL ?_)))));exact MN ⟨_,_,G,H,gM,e48⟩
    rintro e w ⟨b49,M,rfl,H,gM,q53⟩;obtain rfl:=oI q53;refine TN ?_;refine q0k G (fun hk54=>?_) (fun hk54=>?_)
    ·
     subst hk54;rw[if_pos rfl] at e21;obtain⟨c55,hxc55,e21⟩:=bnd e21;obtain⟨l56,hxl56,e21⟩:=bnd e21;refine RG (MV G G (MV G G (MV G G (ST (q0t Tu9 G G hxc55) G (q0F (enc:=encB) xty88 ([c55]:Ls) H G Kf (fun _=>G) G G (q00 G) G ?_)))));intro v80 M w H hle hs80;replace gM:=gM.mono hle;refine q1g (l:=l26) xty88 G (fun _=>G) H G (fun _=>by repeat first|exact .head|apply Upd.tail) G (hs80) hxl56 (q00 G) G ?_;intro v81 w H;refine AS G G (NL (IB (IB (TN ?_))));obtain⟨n57,hxn57,e21⟩:=bnd e21;refine RG (MV G G (ST (q0p G G hxn57) G (AS G G (NL ?_))));exact AG m29 ⟨_,_,_,_,G,H,gM,e21⟩ (l0b _)
    subst hk54;rw[if_neg l06] at e21;refine SQ (RG (AS G G (AS G G (NL (TN (RT ?_))))));obtain rfl:=oI e21;try dsimp only at h
    obtain rfl:=oI h;exact q0y G G G H.ext (⟨_,G,q2e _ _⟩)
   rw[if_neg hk31] at e21;refine q0m (q06 (q06 (q0d ?_)));exact MN ⟨_,_,_,G,H,gM,e21⟩
  rintro e w ⟨l23,v24,M,rfl,H,gM,q58⟩;obtain rfl:=oI q58;try dsimp only at h
  refine TN (SQ (RG (MV G G (AS G G (AS G G (NL (TN (RT ?_))))))));obtain⟨M,hle,hs59,H⟩:=H.freezeRow (v:=v24) (enc:=encB) (t:=5) Kv;obtain rfl:=oI h;exact q0y G G G H.ext (⟨_,G,hs59⟩)
 subst hk19;rw[if_neg l06] at h;refine SK (IB (TN (SQ (RG (AS G G (AS G G (NL (TN (RT ?_)))))))));obtain rfl:=oI h;exact q0y G G G H.ext (⟨_,G,q2e _ _⟩)
set_option maxHeartbeats 4000000 in
theorem Y5g {p0:Ls} {r:(Ls × Int × Bool)} (h:Y2N p0=some r):Ct Tryz.prog 156 [S p0] (fun M=>GlF (fun w =>∃m,w.cell? ⟨2,0,none⟩=some (.int .i64 m)) M) (fun v M=>v=Value.tuple #[S r.1,I r.2.1,Value.bool r.2.2]):=by
 refine Ct.of Tryz.func156 (enters Tryz.func156 Kr G) G G G ?_;intro w0 M0 H hp;have gM:=hp;unfold Y2N at h;refine SQ (RG (AS G G (AS G G (AS G G (NL (TN (SQ (SQ ?_))))))));obtain⟨b1,hx2,h⟩:=bnd h;refine RG (MV G G (q05 H (Y2R hx2) G trivial (q00 G) G ?_));intro v11 M w H hle hR;replace gM:=gM.mono hle;obtain rfl:=hR;refine ST (q0L G) G (NL (TN ?_));refine q0k G (fun hk3=>?_) (fun hk3=>?_)
 ·
  replace hk3:b1=false:=by simpa using hk3
  subst hk3;rw[if_neg l06] at h;refine SQ (RG (AS G G (AS G G (AS G G (NL (TN (RT ?_)))))));obtain rfl:=oI h;exact q2g G G G G H.ext G
 replace hk3:b1=true:=by simpa using hk3
 subst hk3;rw[if_pos rfl] at h;refine SK (TN (SQ ?_));obtain⟨s4,hxs4,h⟩:=bnd h;obtain⟨l5,hx6,h⟩:=bnd h;refine RG (MV G G (MV G G (ST (q0g Tu9 G) G (ST (Ex.min2 G G) G (ST (Ex.sliceC Tu9 G G G hxs4) G (q05 H (Y4I hx6) G (gM) (q00 G) G ?_))))));intro v18 M w H hle hR;replace gM:=gM.mono hle;have f18_0:=hR;refine AS G G (NL (TN (SQ (SQ ?_))));obtain⟨o7,e8,h⟩:=bnd h;refine q0h (fun e w =>∃(b9:Bool) (M:Mem),e=[(5,v18),(28,Value.bool b9)]∧St w0 M0 M [] w∧GlF (fun w =>∃m,w.cell? ⟨2,0,none⟩=some (.int .i64 m)) M∧Sl M encS v18 l5∧some b9=some o7) [] ?_ ?_ (trivial)
 ·
  refine RG (MV G G (ST (q0D Tu55 f18_0 G) G ?_));by_cases hk10:(l5.length:Int)<(4:Int)
  ·
   rw[if_pos hk10] at e8;refine DT hk10 (q0n G G) G (MV G G (q0i 5 G G (PT G G G (NL ?_))));exact MN ⟨_,_,G,H,gM,f18_0,e8⟩
  rw[if_neg hk10] at e8;obtain⟨a11,hxa11,e8⟩:=bnd e8;obtain⟨bk24,o24,ha24,hc24⟩:=f18_0.atC hxa11;obtain⟨b12,hx13,e8⟩:=bnd e8;refine DF hk10 (q0n G G) G (MV G G (SG (q01 G) G G G (SG (q0u ha24 Tu55 Ts9 G G) G G G (SG (q08 H G hc24 Ta9) G G G (q05 H (Y2R hx13) G trivial (q04 G G G) G ?_)))));intro v26 M w H hle hR;replace gM:=gM.mono hle;replace f18_0:=f18_0.mono hle;obtain rfl:=hR;refine SG (q0L G) G G G (PF G G G (NL ?_));exact MN ⟨_,_,G,H,gM,f18_0,e8⟩
 rintro e w ⟨b9,M,rfl,H,gM,f18_0,q14⟩;obtain rfl:=oI q14;refine TN ?_;refine q0k G (fun hk15=>?_) (fun hk15=>?_)
 ·
  subst hk15;rw[if_pos rfl] at h;refine SQ (RG (AS G G (AS G G (AS G G (NL (TN (RT ?_)))))));obtain rfl:=oI h;exact q2g G G G G H.ext G
 subst hk15;rw[if_neg l06] at h;refine SK (TN (SQ ?_));obtain⟨a16,hxa16,h⟩:=bnd h;obtain⟨bk31,o31,ha31,hc31⟩:=f18_0.atC hxa16;obtain⟨a17,hxa17,h⟩:=bnd h;obtain⟨bk34,o34,ha34,hc34⟩:=f18_0.atC hxa17;obtain⟨⟨l18,b19⟩,hx20,h⟩:=bnd h;try dsimp only at h
 refine q0H (m:=12) G G H ?_;intro w H;refine TK 0 G (fun _=>q01 G) G (TK 1 G (fun _=>q0u ha31 Tu55 Ts9 G G) G (TK 3 G (fun _=>q01 G) G (TK 4 G (fun _=>q0u ha34 Tu55 Ts9 G G) G (q1e (i:=2) [5] G Kr Kr Kr (q08 H G hc31 Ta9) (q00 G) G G (fun _ _=>G) (q0v (fuel:=4) [5,6,7] G Kr (ST (q08 H G hc34 Ta9) G (q05 H (Y4P hx20) G (gM) (q00 G) G ?_)))))));intro v36 M w H hle hR;replace gM:=gM.mono hle;replace f18_0:=f18_0.mono hle;try dsimp only at hR
 obtain⟨x36_0,rfl,f36_0⟩:=hR;refine MV G G (NA (TK 8 G (fun _=>q0b G G) G (TK 9 G (fun _=>q0b G G) G (q0v (fuel:=0) [10,11] G Kr (AS G G (AS G G (NA (q0l Kr (TN (SQ ?_))))))))));obtain⟨a21,hxa21,h⟩:=bnd h;obtain⟨bk41,o41,ha41,hc41⟩:=f18_0.atC hxa21;obtain⟨⟨s22,⟨n23,n24⟩⟩,hx25,h⟩:=bnd h;try dsimp only at h
 refine RG (MV G G (ST (q0u ha41 Tu55 Ts9 G G) G (ST (q08 H G hc41 Ta9) G (MV G G (q05 H (Y4F hx25) G (f36_0) (q00 G) G ?_)))));intro v44 M w H hle hR;replace gM:=gM.mono hle;replace f18_0:=f18_0.mono hle;try dsimp only at hR
 obtain rfl:=hR;refine MV G G (ST (q0b G G) G (ST (q0b G G) G (q0j [_,_] H Tz27 G (q00 G) G ?_)));intro bk9 w H;refine AS G G (q0c [_,_] H G G G Ku Ts27 G Kf Kf (q00 G) ?_);intro w H;refine NL (TN (SQ ?_));obtain⟨o26,e27,h⟩:=bnd h;refine q0h (fun e w =>∃(s28:Ls) (n29:Int) (b30:Bool) (M:Mem),e=[(2,S s28),(3,I n29),(4,Value.bool b30)]∧St w0 M0 M [] w∧GlF (fun w =>∃m,w.cell? ⟨2,0,none⟩=some (.int .i64 m)) M∧some (s28,n29,b30)=some o26) [] ?_ ?_ (trivial)
 ·
  obtain⟨a31,hxa31,e27⟩:=bnd e27;obtain⟨bk49,o49,ha49,hc49⟩:=f18_0.atC hxa31;obtain⟨n32,hxn32,e27⟩:=bnd e27;obtain⟨a33,hxa33,e27⟩:=bnd e27;obtain⟨bk54,o54,ha54,hc54⟩:=f18_0.atC hxa33;obtain⟨n34,hxn34,e27⟩:=bnd e27;obtain⟨a35,hxa35,e27⟩:=bnd e27;obtain⟨bk59,o59,ha59,hc59⟩:=f18_0.atC hxa35;obtain⟨n36,hxn36,e27⟩:=bnd e27;obtain⟨n37,hxn37,e27⟩:=bnd e27;rcases b19 with _|_
  ·
   rw[if_neg l06] at e27;refine WC.sub (e':=[(5,_),(7,_),(8,_),(9,_)]) ⟨G,G,G,G,trivial⟩ (q0H (m:=26) G G H ?_);intro w H;refine WA.conf (c:=26) [(47,S s22,[]),(48,v18,[]),(49,ptr bk49 o49,[1]),(50,S a31,[2]),(51,I (a31.length:Int),[3]),(52,I n32,[4]),(53,v18,[]),(54,ptr bk54 o54,[6]),(55,S a33,[7]),(56,I (a33.length:Int),[8]),(57,I n34,[5,9]),(58,v18,[]),(59,ptr bk59 o59,[11]),(60,S a35,[12]),(61,I (a35.length:Int),[13]),(62,I n36,[10,14]),(63,I n37,[15]),(64,Value.bool false,[]),(65,Value.bool false,[17]),(66,undef,[18]),(67,undef,[18]),(68,undef,[18]),(69,Value.bool false,[18,21]),(2,S s22,[0]),(3,I n37,[16]),(4,Value.bool false,[22])] G G Kr G G H ⟨⟨_,G,fun E w M H hle Qk kk=>?_⟩,⟨_,G,fun E w M H hle Qk kk=>?_⟩,⟨_,G,fun E w M H hle Qk kk=>?_⟩,⟨_,G,fun E w M H hle Qk kk=>?_⟩,⟨_,G,fun E w M H hle Qk kk=>?_⟩,⟨_,G,fun E w M H hle Qk kk=>?_⟩,⟨_,G,fun E w M H hle Qk kk=>?_⟩,⟨_,G,fun E w M H hle Qk kk=>?_⟩,⟨_,G,fun E w M H hle Qk kk=>?_⟩,⟨_,G,fun E w M H hle Qk kk=>?_⟩,⟨_,G,fun E w M H hle Qk kk=>?_⟩,⟨_,G,fun E w M H hle Qk kk=>?_⟩,⟨_,G,fun E w M H hle Qk kk=>?_⟩,⟨_,G,fun E w M H hle Qk kk=>?_⟩,⟨_,G,fun E w M H hle Qk kk=>?_⟩,⟨_,G,fun E w M H hle Qk kk=>?_⟩,⟨_,G,fun E w M H hle Qk kk=>?_⟩,⟨_,G,fun E w M H hle Qk kk=>?_⟩,⟨_,G,fun E w M H hle Qk kk=>?_⟩,⟨_,G,fun E w M H hle Qk kk=>?_⟩,⟨_,G,fun E w M H hle Qk kk=>?_⟩,⟨_,G,fun E w M H hle Qk kk=>?_⟩,⟨_,G,fun E w M H hle Qk kk=>?_⟩,⟨_,G,fun E w M H hle Qk kk=>?_⟩,⟨_,G,fun E w M H hle Qk kk=>?_⟩,⟨_,G,fun E w M H hle Qk kk=>?_⟩,trivial⟩ ?_
   ·
    refine MV G G ?_;exact q0P (kk _ _ H (Mem.le.refl _))
   ·
    refine MV G G ?_;exact q0P (kk _ _ H (Mem.le.refl _))
   ·
    refine ST (q0u ha49 Tu55 Ts9 G G) G ?_;exact q0P (kk _ _ H (Mem.le.refl _))
   ·
    have hc49:=hc49.mono hle;refine ST (q08 H G hc49 Ta9) G ?_;exact q0P (kk _ _ H (Mem.le.refl _))
   ·
    refine ST (q0g Tu9 G) G ?_;exact q0P (kk _ _ H (Mem.le.refl _))
   ·
    refine ST (q0p G G hxn32) G ?_;exact q0P (kk _ _ H (Mem.le.refl _))
   ·
    refine MV G G ?_;exact q0P (kk _ _ H (Mem.le.refl _))
   ·
    refine ST (q0u ha54 Tu55 Ts9 G G) G ?_;exact q0P (kk _ _ H (Mem.le.refl _))
   ·
    have hc54:=hc54.mono hle;refine ST (q08 H G hc54 Ta9) G ?_;exact q0P (kk _ _ H (Mem.le.refl _))
   ·
    refine ST (q0g Tu9 G) G ?_;exact q0P (kk _ _ H (Mem.le.refl _))
   ·
    refine ST (q0p G G hxn34) G ?_;exact q0P (kk _ _ H (Mem.le.refl _))
   ·
    refine MV G G ?_;exact q0P (kk _ _ H (Mem.le.refl _))
   ·
    refine ST (q0u ha59 Tu55 Ts9 G G) G ?_;exact q0P (kk _ _ H (Mem.le.refl _))
   ·
    have hc59:=hc59.mono hle;refine ST (q08 H G hc59 Ta9) G ?_;exact q0P (kk _ _ H (Mem.le.refl _))
   ·
    refine ST (q0g Tu9 G) G ?_;exact q0P (kk _ _ H (Mem.le.refl _))
   ·
    refine ST (q0p G G hxn36) G ?_;exact q0P (kk _ _ H (Mem.le.refl _))
   ·
    refine ST (q0p G G hxn37) G ?_;exact q0P (kk _ _ H (Mem.le.refl _))
   ·
    refine MV G G ?_;exact q0P (kk _ _ H (Mem.le.refl _))
   ·
    refine MV G G ?_;exact q0P (kk _ _ H (Mem.le.refl _))
   ·
    refine GF G G G ?_;exact q0P (kk _ _ H (Mem.le.refl _))
   ·
    refine GF G G G ?_;exact q0P (kk _ _ H (Mem.le.refl _))
   ·
    refine GF G G G ?_;exact q0P (kk _ _ H (Mem.le.refl _))
   ·
    refine PF G G G ?_;exact q0P (kk _ _ H (Mem.le.refl _))
   ·
    refine AS G G ?_;exact q0P (kk _ _ H (Mem.le.refl _))
   ·
    refine AS G G ?_;exact q0P (kk _ _ H (Mem.le.refl _))
   ·
    refine AS G G ?_;exact q0P (kk _ _ H (Mem.le.refl _))
   intro w M H hle;replace gM:=gM.mono hle;refine q0l Kr ?_;exact MN ⟨_,_,_,_,G,(H.pick (L':=[]) Kp),gM,e27⟩
  rw[if_pos rfl] at e27;obtain⟨b38,hx39,e27⟩:=bnd e27;refine WC.sub (e':=[(5,_),(7,_),(8,_),(9,_)]) ⟨G,G,G,G,trivial⟩ (q0H (m:=26) G G H ?_);intro w H;refine WA.conf (c:=26) [(47,S s22,[]),(48,v18,[]),(49,ptr bk49 o49,[1]),(50,S a31,[2]),(51,I (a31.length:Int),[3]),(52,I n32,[4]),(53,v18,[]),(54,ptr bk54 o54,[6]),(55,S a33,[7]),(56,I (a33.length:Int),[8]),(57,I n34,[5,9]),(58,v18,[]),(59,ptr bk59 o59,[11]),(60,S a35,[12]),(61,I (a35.length:Int),[13]),(62,I n36,[10,14]),(63,I n37,[15]),(64,Value.bool true,[]),(65,Value.bool true,[17]),(66,Value.agg #[I n23,I n24],[18]),(67,Value.bool b38,[18,19]),(68,Value.bool (!b38),[18,20]),(69,Value.bool (!b38),[18,21]),(2,S s22,[0]),(3,I n37,[16]),(4,Value.bool (!b38),[22])] G G Kr G G H ⟨⟨_,G,fun E w M H hle Qk kk=>?_⟩,⟨_,G,fun E w M H hle Qk kk=>?_⟩,⟨_,G,fun E w M H hle Qk kk=>?_⟩,⟨_,G,fun E w M H hle Qk kk=>?_⟩,⟨_,G,fun E w M H hle Qk kk=>?_⟩,⟨_,G,fun E w M H hle Qk kk=>?_⟩,⟨_,G,fun E w M H hle Qk kk=>?_⟩,⟨_,G,fun E w M H hle Qk kk=>?_⟩,⟨_,G,fun E w M H hle Qk kk=>?_⟩,⟨_,G,fun E w M H hle Qk kk=>?_⟩,⟨_,G,fun E w M H hle Qk kk=>?_⟩,⟨_,G,fun E w M H hle Qk kk=>?_⟩,⟨_,G,fun E w M H hle Qk kk=>?_⟩,⟨_,G,fun E w M H hle Qk kk=>?_⟩,⟨_,G,fun E w M H hle Qk kk=>?_⟩,⟨_,G,fun E w M H hle Qk kk=>?_⟩,⟨_,G,fun E w M H hle Qk kk=>?_⟩,⟨_,G,fun E w M H hle Qk kk=>?_⟩,⟨_,G,fun E w M H hle Qk kk=>?_⟩,⟨_,G,fun E w M H hle Qk kk=>?_⟩,⟨_,G,fun E w M H hle Qk kk=>?_⟩,⟨_,G,fun E w M H hle Qk kk=>?_⟩,⟨_,G,fun E w M H hle Qk kk=>?_⟩,⟨_,G,fun E w M H hle Qk kk=>?_⟩,⟨_,G,fun E w M H hle Qk kk=>?_⟩,⟨_,G,fun E w M H hle Qk kk=>?_⟩,trivial⟩ ?_
  ·
   refine MV G G ?_;exact q0P (kk _ _ H (Mem.le.refl _))
  ·
   refine MV G G ?_;exact q0P (kk _ _ H (Mem.le.refl _))
  ·
   refine ST (q0u ha49 Tu55 Ts9 G G) G ?_;exact q0P (kk _ _ H (Mem.le.refl _))
  ·
   have hc49:=hc49.mono hle;refine ST (q08 H G hc49 Ta9) G ?_;exact q0P (kk _ _ H (Mem.le.refl _))
  ·
   refine ST (q0g Tu9 G) G ?_;exact q0P (kk _ _ H (Mem.le.refl _))
  ·
   refine ST (q0p G G hxn32) G ?_;exact q0P (kk _ _ H (Mem.le.refl _))
  ·
   refine MV G G ?_;exact q0P (kk _ _ H (Mem.le.refl _))
  ·
   refine ST (q0u ha54 Tu55 Ts9 G G) G ?_;exact q0P (kk _ _ H (Mem.le.refl _))
  ·
   have hc54:=hc54.mono hle;refine ST (q08 H G hc54 Ta9) G ?_;exact q0P (kk _ _ H (Mem.le.refl _))
  ·
   refine ST (q0g Tu9 G) G ?_;exact q0P (kk _ _ H (Mem.le.refl _))
  ·
   refine ST (q0p G G hxn34) G ?_;exact q0P (kk _ _ H (Mem.le.refl _))
  ·
   refine MV G G ?_;exact q0P (kk _ _ H (Mem.le.refl _))
  ·
   refine ST (q0u ha59 Tu55 Ts9 G G) G ?_;exact q0P (kk _ _ H (Mem.le.refl _))
  ·
   have hc59:=hc59.mono hle;refine ST (q08 H G hc59 Ta9) G ?_;exact q0P (kk _ _ H (Mem.le.refl _))
  ·
   refine ST (q0g Tu9 G) G ?_;exact q0P (kk _ _ H (Mem.le.refl _))
  ·
   refine ST (q0p G G hxn36) G ?_;exact q0P (kk _ _ H (Mem.le.refl _))
  ·
   refine ST (q0p G G hxn37) G ?_;exact q0P (kk _ _ H (Mem.le.refl _))
  ·
   refine MV G G ?_;exact q0P (kk _ _ H (Mem.le.refl _))
  ·
   refine MV G G ?_;exact q0P (kk _ _ H (Mem.le.refl _))
  ·
   refine SG (q0w H G Km Ta27 Ts27 Kf) G G G ?_;exact q0P (kk _ _ H (Mem.le.refl _))
  ·
   refine q05 H (Y2t hx39) G trivial (q04 G G G) G ?_;intro v67 M w H hle hR;obtain rfl:=hR;exact q0P (kk _ _ H hle)
  ·
   refine SG (q0L G) G G G ?_;exact q0P (kk _ _ H (Mem.le.refl _))
  ·
   refine PT G G G ?_;exact q0P (kk _ _ H (Mem.le.refl _))
  ·
   refine AS G G ?_;exact q0P (kk _ _ H (Mem.le.refl _))
  ·
   refine AS G G ?_;exact q0P (kk _ _ H (Mem.le.refl _))
  ·
   refine AS G G ?_;exact q0P (kk _ _ H (Mem.le.refl _))
  intro w M H hle;replace gM:=gM.mono hle;refine q0l Kr ?_;exact MN ⟨_,_,_,_,G,(H.pick (L':=[]) Kp),gM,e27⟩
 rintro e w ⟨s28,n29,b30,M,rfl,H,gM,q40⟩;obtain rfl:=oI q40;try dsimp only at h
 refine TN (RT ?_);obtain rfl:=oI h;exact q2g G G G G H.ext G
theorem Y1F {p0:Ls}{p1:Ls}{bp0:Nat}{pp0:Value}{vp0:Value}{r:(Int × Bool × Ls)}(h:Y08 p0 p1=some r):CtX Tryz.prog 75 [ptr bp0 0,S p1] [.blk bp0 (.cells #[pp0,vp0] 96),RowI 5 encB vp0 p0] (fun M=>BPM M bp0 pp0) (fun v M its =>∃x1 qp0 up0,v=Value.tuple #[I r.1,x1]∧NilB M x1 r.2.1∧BPM M bp0 qp0∧its=[.blk bp0 (.cells #[qp0,up0] 96),RowI 5 encB up0 r.2.2]):=by
 refine CtX.of Tf75 (enters Tf75 Kr G) G G G ?_;intro w0 M0 H hp;have hp0:=hp;unfold Y08 at h;refine SQ (RG (AS G G (AS G G (NL (TN (SQ (RG (MV G G ?_))))))));refine q0x (A:=[.blk bp0 (.cells #[pp0,vp0] 96)]) (B:=[RowI 5 encB vp0 p0]) (H.pick (L':=[.blk bp0 (.cells #[pp0,vp0] 96),RowI 5 encB vp0 p0]) Kp) (copyCheck_ct hp0) (.left (q0o _)) G trivial (q00 G) G ?_;intro v7 M w its H hle hR;obtain⟨rfl,rfl⟩:=hR;simp only[l04,l07] at H;refine NL (TN (SQ ?_));obtain⟨l2,hxl2,h⟩:=bnd h;refine RG (MV G G (MV G G (FN G G Tu96 G Ts88 G G (ST (XL H Ta88) G ?_))));refine MV G G (WR.appStrC (l:=p0) xty88 Tu9 H G (fun _=>by repeat first|exact .head|apply Upd.tail) G hxl2 (q00 G) G ?_);intro v14 w H;refine FN G G Tu96 G Ts88 G G (q0Q [_,_] H G G (H.rowOne Km) Ku Kf Ts88 (by first|decide|(simp;done)|(simp;omega)) (q00 G) ?_);intro w H;refine NL (TN (SQ (RG (MV G G (ST (q0g Tu9 G) G (AS G G (AS G G (NL (TN (RT ?_))))))))));obtain rfl:=oI h;exact WQ.retX2 (its:=[.blk bp0 (.cells #[(ptr bp0 0),v14] 96),RowI 5 encB v14 l2]) G G G H Kp ⟨_,_,_,G,(.inl ⟨G,G⟩),BPM.self,G⟩
end Go.Proofs.YtkmjdamkifbddaaGreatDoor
end
section
namespace Go.Proofs.YtkmjdamkifbddaaGreatDoor
open Go Go.RowKit Go.Ph Go.Ph.Pl Go.Ph.Pf
theorem Y4Y {p0:Ls}{r:(Ls × (Int × Int))}(h:Y1k p0=some r):Ct Tryz.prog 125 [S p0] (fun M=>GlF (fun w =>∃m,w.cell? ⟨2,0,none⟩=some (.int .i64 m)) M) (fun v M=>v=Value.tuple #[S r.1,Value.agg #[I r.2.1,I r.2.2]]):=by
 refine Ct.of Tryz.func125 (enters Tryz.func125 Kr G) G G G ?_;intro w0 M0 H hp;have gM:=hp;unfold Y1k at h;refine SQ (RG (AS G G (q0j [_,_] H Tz27 G (q00 G) G ?_)));intro bk3 w H;refine NL (TN (SQ (SQ (RG (MV G G (ST (q0g Tu9 G) G (ST (q0E G G) G (NL (TN ?_)))))))));refine CB (p:=(4000:Int)<(p0.length:Int)) G (fun hk1=>?_) fun hk1=>?_
 ·
  rw[if_pos hk1] at h;refine SQ ?_;obtain⟨⟨n2,n3⟩,hx4,h⟩:=bnd h;try dsimp only at h
  refine RG (q05 H (Y07 hx4) G trivial (q00 G) G ?_);intro v13 M w H hle hR;try dsimp only at hR
  obtain rfl:=hR;refine AS G G (q0c [_,_] H G G G Ku Ts27 G Kf Kf (q00 G) ?_);intro w H;refine NL (TN (RT ?_));obtain rfl:=oI h;exact q0y G G ⟨_,G,H.loadAgg Km Ta27 Ts27 Kf⟩ H.ext G
 rw[if_neg hk1] at h;refine SK (TN (SQ (RG (q0j [_,_] H Tz96 G (q00 G) G ?_))));intro bk4 w H;refine NL (TN (SQ (RG (AS G G (NL (TN (SQ (SQ (RG (AS G G (NL (TN ?_))))))))))));obtain⟨o5,e6,h⟩:=bnd h;refine q0h (fun e w =>∃(v7:Value) (l10:Ls) (v11:Value) (n12:Int) (M:Mem),e=[(0,S p0),(3,ptr bk3 0),(4,ptr bk4 0),(5,I n12)]∧St w0 M0 M [.blk bk3 (.cells #[I 0,I 0] 27), .blk bk4 (.cells #[v7,v11] 96),RowI 5 encB v11 l10] w∧GlF (fun w =>∃m,w.cell? ⟨2,0,none⟩=some (.int .i64 m)) M∧BPM M bk4 v7∧some (l10,n12)=some o5) [] ?_ ?_ (trivial)
 ·
  refine BL ?_;replace H:=H.newRow 5 encB;refine q0A (fun m e w =>∃(v13:Value) (l16:Ls) (v17:Value) (n18:Int) (n19:Int) (M:Mem),e=[(0,S p0),(3,ptr bk3 0),(4,ptr bk4 0),(5,I n18),(6,I n19)]∧St w0 M0 M [.blk bk3 (.cells #[I 0,I 0] 27), .blk bk4 (.cells #[v13,v17] 96),RowI 5 encB v17 l16] w∧GlF (fun w =>∃m,w.cell? ⟨2,0,none⟩=some (.int .i64 m)) M∧BPM M bk4 v13∧Y04 p0 m l16 n18 n19=some o5) FU [(0,_),(3,_),(4,_),(5,_),(6,_)] ⟨rfl,rfl,rfl,rfl,rfl,trivial⟩ ⟨_,_,_,_,_,_,rfl,(H.pick (L':=[.blk bk3 (.cells #[I 0,I 0] 27), .blk bk4 (.cells #[(Value.pointer none),(Value.slice none 0 0)] 96),RowI 5 encB (Value.slice none 0 0) []]) Kp),gM,BPM.nil,e6⟩ ?_;rintro m20 e w ⟨v13,l16,v17,n18,n19,M,rfl,H,gM,hs14,e6⟩;rcases m20 with _|m20
  · rw[Y04] at e6;cases e6
  rw[Y04] at e6;refine SQ (SQ (RG (MV G G (MV G G (ST (q0g Tu9 G) G (ST (q0n G G) G (NL (TN ?_))))))));refine CB (p:=n19<(p0.length:Int)) G (fun hk22=>?_) fun hk22=>?_
  ·
   rw[if_pos hk22] at e6;refine SK (TN (BL (SQ ?_)));obtain⟨s23,hxs23,e6⟩:=bnd e6;obtain⟨⟨s24,n25,b26⟩,hx27,e6⟩:=bnd e6;try dsimp only at e6
   refine RG (MV G G (MV G G (ST (q1U Tu9 G G hxs23) G (q05 H (Y5g hx27) G (gM) (q00 G) G ?_))));intro v22 M w H hle hR;replace gM:=gM.mono hle;replace hs14:=hs14.mono hle;try dsimp only at hR
   obtain rfl:=hR;refine MV G G (ST (q0b G G) G (ST (q0b G G) G (ST (q0b G G) G (AS G G (AS G G (AS G G (NL (TN (SQ (SQ (RG (MV G G (ST (q0L G) G (NL (TN ?_)))))))))))))));refine q0k G (fun hk28=>?_) (fun hk28=>?_)
   ·
    replace hk28:b26=false:=by simpa using hk28
    subst hk28;rw[if_neg l06] at e6;refine SQ (SQ (RG (MV G G (ST (q0n G G) G (NL (TN ?_))))));obtain⟨o29,e30,e6⟩:=bnd e6;refine q0h (fun e w =>∃(v31:Value) (l34:Ls) (v35:Value) (M:Mem),e=[(0,S p0),(3,ptr bk3 0),(4,ptr bk4 0),(5,I n18),(6,I n19)]∧St w0 M0 M [.blk bk3 (.cells #[I 0,I 0] 27), .blk bk4 (.cells #[v31,v35] 96),RowI 5 encB v35 l34] w∧GlF (fun w =>∃m,w.cell? ⟨2,0,none⟩=some (.int .i64 m)) M∧BPM M bk4 v31∧some l34=some o29) [] ?_ ?_ (trivial)
    ·
     refine CB (p:=n18<(0:Int)) G (fun hk36=>?_) fun hk36=>?_
     ·
      rw[if_pos hk36] at e30;obtain⟨c37,hxc37,e30⟩:=bnd e30;obtain⟨⟨b38,l39⟩,hx40,e30⟩:=bnd e30;try dsimp only at e30
      refine RG (MV G G (MV G G (ST (q0t Tu9 G G hxc37) G ?_)));refine q0x (A:=[.blk bk4 (.cells #[v13,v17] 96),RowI 5 encB v17 l16]) (B:=[.blk bk3 (.cells #[I 0,I 0] 27)]) (H.pick (L':=[.blk bk4 (.cells #[v13,v17] 96),RowI 5 encB v17 l16, .blk bk3 (.cells #[I 0,I 0] 27)]) Kp) (Y1V hx40) (.left (.left (q0o _))) G (hs14) (q00 G) G ?_;intro v33 M w its H hle hR;replace gM:=gM.mono hle;try dsimp only at hR
      obtain⟨x33_0,q33_0,u33_0,rfl,f33_0,hq33_0,rfl⟩:=hR;simp only[l04,l07] at H;refine NL ?_;exact MN ⟨_,_,_,_,G,(H.pick (L':=[.blk bk3 (.cells #[I 0,I 0] 27), .blk bk4 (.cells #[q33_0,u33_0] 96),RowI 5 encB u33_0 l39]) Kp),gM,hq33_0,e30⟩
     rw[if_neg hk36] at e30;refine SK ?_;exact MN ⟨_,_,_,_,G,H,gM,hs14,e30⟩
    rintro e w ⟨v31,l34,v35,M,rfl,H,gM,hs32,q41⟩;obtain rfl:=oI q41;refine TN (SQ (SQ ?_));obtain⟨o42,e43,e6⟩:=bnd e6;refine q0h (fun e w =>∃(b44:Bool) (M:Mem),e=[(0,S p0),(3,ptr bk3 0),(4,ptr bk4 0),(5,I n18),(6,I n19),(42,Value.bool b44)]∧St w0 M0 M [.blk bk3 (.cells #[I 0,I 0] 27), .blk bk4 (.cells #[v31,v35] 96),RowI 5 encB v35 l34] w∧GlF (fun w =>∃m,w.cell? ⟨2,0,none⟩=some (.int .i64 m)) M∧BPM M bk4 v31∧some b44=some o42) [] ?_ ?_ (trivial)
    ·
     by_cases hk45:(0:Int)≤n18
     ·
      rw[if_pos hk45] at e43;obtain⟨c46,hxc46,e43⟩:=bnd e43;obtain⟨b47,hx48,e43⟩:=bnd e43;refine RG (MV G G (DT hk45 (q1a G G) G (MV G G (SG (q01 G) G G G (SG (q01 G) G G G (SG (q0t Tu9 G G hxc46) G G G (q05 H (Y21 hx48) G trivial (q04 G G G) G ?_)))))));intro v40 M w H hle hR;replace gM:=gM.mono hle;replace hs32:=hs32.mono hle;obtain rfl:=hR;refine SG (q0L G) G G G (PT G G G (NL ?_));exact MN ⟨_,_,G,H,gM,hs32,e43⟩
     rw[if_neg hk45] at e43;refine RG (MV G G (DF hk45 (q1a G G) G (MV G G (q0i 5 G G (PF G G G (NL ?_))))));exact MN ⟨_,_,G,H,gM,hs32,e43⟩
    rintro e w ⟨b44,M,rfl,H,gM,hs32,q49⟩;obtain rfl:=oI q49;refine TN ?_;obtain⟨o50,e51,e6⟩:=bnd e6;refine q0h (fun e w =>∃(v52:Value) (l55:Ls) (v56:Value) (n57:Int) (M:Mem),e=[(0,S p0),(3,ptr bk3 0),(4,ptr bk4 0),(5,I n57),(6,I n19)]∧St w0 M0 M [.blk bk3 (.cells #[I 0,I 0] 27), .blk bk4 (.cells #[v52,v56] 96),RowI 5 encB v56 l55] w∧GlF (fun w =>∃m,w.cell? ⟨2,0,none⟩=some (.int .i64 m)) M∧BPM M bk4 v52∧some (l55,n57)=some o50) [] ?_ ?_ (trivial)
    ·
     refine q0k G (fun hk58=>?_) (fun hk58=>?_)
     ·
      subst hk58;rw[if_pos rfl] at e51;refine SQ ?_;obtain⟨n59,hxn59,e51⟩:=bnd e51;obtain⟨s60,hxs60,e51⟩:=bnd e51;obtain⟨⟨n61,b62,l63⟩,hx64,e51⟩:=bnd e51;try dsimp only at e51
      refine RG (MV G G (MV G G (MV G G (ST (q0p G G hxn59) G (ST (Ex.sliceC Tu9 G G G hxs60) G ?_)))));refine q0x (A:=[.blk bk4 (.cells #[v31,v35] 96),RowI 5 encB v35 l34]) (B:=[.blk bk3 (.cells #[I 0,I 0] 27)]) (H.pick (L':=[.blk bk4 (.cells #[v31,v35] 96),RowI 5 encB v35 l34, .blk bk3 (.cells #[I 0,I 0] 27)]) Kp) (Y1F hx64) (.left (.left (q0o _))) G (hs32) (q00 G) G ?_;intro v48 M w its H hle hR;replace gM:=gM.mono hle;try dsimp only at hR
      obtain⟨x48_1,q48_0,u48_0,rfl,f48_1,hq48_0,rfl⟩:=hR;simp only[l04,l07] at H;refine NL (TN (RG (AS G G (NL ?_))));exact MN ⟨_,_,_,_,_,G,(H.pick (L':=[.blk bk3 (.cells #[I 0,I 0] 27), .blk bk4 (.cells #[q48_0,u48_0] 96),RowI 5 encB u48_0 l63]) Kp),gM,hq48_0,e51⟩
     subst hk58;rw[if_neg l06] at e51;refine SK ?_;exact MN ⟨_,_,_,_,_,G,H,gM,hs32,e51⟩
    rintro e w ⟨v52,l55,v56,n57,M,rfl,H,gM,hs53,q65⟩;obtain rfl:=oI q65;try dsimp only at e6
    refine TN (SQ ?_);obtain⟨n66,hxn66,e6⟩:=bnd e6;refine RG (MV G G (ST (q0p G G hxn66) G (AS G G (NL (TN (q0m (q06 (q0d ?_))))))));exact AG m20 ⟨_,_,_,_,_,_,G,H,gM,hs53,e6⟩ (l0b _)
   replace hk28:b26=true:=by simpa using hk28
   subst hk28;rw[if_pos rfl] at e6;refine SK (TN (SQ ?_));obtain⟨⟨n67,b68,l69⟩,hx70,e6⟩:=bnd e6;try dsimp only at e6
   refine RG (MV G G ?_);refine q0x (A:=[.blk bk4 (.cells #[v13,v17] 96),RowI 5 encB v17 l16]) (B:=[.blk bk3 (.cells #[I 0,I 0] 27)]) (H.pick (L':=[.blk bk4 (.cells #[v13,v17] 96),RowI 5 encB v17 l16, .blk bk3 (.cells #[I 0,I 0] 27)]) Kp) (Y1F hx70) (.left (.left (q0o _))) G (hs14) (q00 G) G ?_;intro v52 M w its H hle hR;replace gM:=gM.mono hle;try dsimp only at hR
   obtain⟨x52_1,q52_0,u52_0,rfl,f52_1,hq52_0,rfl⟩:=hR;simp only[l04,l07] at H;refine NL (TN (SQ ?_));obtain⟨n71,hxn71,e6⟩:=bnd e6;refine RG (MV G G (MV G G (ST (q0p G G hxn71) G (AS G G (NL (TN (RG (MV G G (AS G G (NL (IB ?_)))))))))));exact AG m20 ⟨_,_,_,_,_,_,G,(H.pick (L':=[.blk bk3 (.cells #[I 0,I 0] 27), .blk bk4 (.cells #[q52_0,u52_0] 96),RowI 5 encB u52_0 l69]) Kp),gM,hq52_0,e6⟩ (l0b _)
  rw[if_neg hk22] at e6;refine q0m (q06 (q06 (q0d ?_)));exact MN ⟨_,_,_,_,_,G,H,gM,hs14,e6⟩
 rintro e w ⟨v7,l10,v11,n12,M,rfl,H,gM,hs8,q72⟩;obtain rfl:=oI q72;try dsimp only at h
 refine TN (SQ (SQ (RG (MV G G (ST (q1a G G) G (NL (TN ?_)))))));obtain⟨o73,e74,h⟩:=bnd h;refine q0h (fun e w =>∃(v75:Value) (l78:Ls) (v79:Value) (M:Mem),e=[(3,ptr bk3 0),(4,ptr bk4 0)]∧St w0 M0 M [.blk bk3 (.cells #[I 0,I 0] 27), .blk bk4 (.cells #[v75,v79] 96),RowI 5 encB v79 l78] w∧GlF (fun w =>∃m,w.cell? ⟨2,0,none⟩=some (.int .i64 m)) M∧BPM M bk4 v75∧some l78=some o73) [] ?_ ?_ (trivial)
 ·
  refine CB (p:=(0:Int)≤n12) G (fun hk80=>?_) fun hk80=>?_
  ·
   rw[if_pos hk80] at e74;obtain⟨s81,hxs81,e74⟩:=bnd e74;obtain⟨⟨n82,b83,l84⟩,hx85,e74⟩:=bnd e74;try dsimp only at e74
   refine RG (MV G G (MV G G (ST (q1U Tu9 G G hxs81) G ?_)));refine q0x (A:=[.blk bk4 (.cells #[v7,v11] 96),RowI 5 encB v11 l10]) (B:=[.blk bk3 (.cells #[I 0,I 0] 27)]) (H.pick (L':=[.blk bk4 (.cells #[v7,v11] 96),RowI 5 encB v11 l10, .blk bk3 (.cells #[I 0,I 0] 27)]) Kp) (Y1F hx85) (.left (.left (q0o _))) G (hs8) (q00 G) G ?_;intro v62 M w its H hle hR;replace gM:=gM.mono hle;try dsimp only at hR
   obtain⟨x62_1,q62_0,u62_0,rfl,f62_1,hq62_0,rfl⟩:=hR;simp only[l04,l07] at H;refine NL ?_;exact MN ⟨_,_,_,_,G,(H.pick (L':=[.blk bk3 (.cells #[I 0,I 0] 27), .blk bk4 (.cells #[q62_0,u62_0] 96),RowI 5 encB u62_0 l84]) Kp),gM,hq62_0,e74⟩
  rw[if_neg hk80] at e74;refine SK ?_;exact MN ⟨_,_,_,_,G,H,gM,hs8,e74⟩
 rintro e w ⟨v75,l78,v79,M,rfl,H,gM,hs76,q86⟩;obtain rfl:=oI q86;refine TN (SQ ?_);obtain⟨s87,hx88,h⟩:=bnd h;obtain⟨⟨n89,n90⟩,hx91,h⟩:=bnd h;try dsimp only at h
 refine RG ?_;refine q0x (A:=[.blk bk4 (.cells #[v75,v79] 96),RowI 5 encB v79 l78]) (B:=[.blk bk3 (.cells #[I 0,I 0] 27)]) (H.pick (L':=[.blk bk4 (.cells #[v75,v79] 96),RowI 5 encB v79 l78, .blk bk3 (.cells #[I 0,I 0] 27)]) Kp) (Y2W hx88) (.left (.left (q0o _))) G (hs76) (q00 G) G ?_;intro v63 M w its H hle hR;obtain⟨rfl,rfl⟩:=hR;simp only[l04,l07] at H;refine q05 H (Y0L hx91) G trivial (q00 G) G ?_;intro v64 M w H hle hR;try dsimp only at hR
 obtain rfl:=hR;refine AS G G (q0c [_,_] H G G G Ku Ts27 G Kf Kf (q00 G) ?_);intro w H;refine NL (TN (RT ?_));obtain rfl:=oI h;exact q0y G G ⟨_,G,H.loadAgg Km Ta27 Ts27 Kf⟩ H.ext G
theorem Y3O {p0:List Ls}{p1:List Ls}{bp0:Nat}{vp0:Value}{bp1:Nat}{vp1:Value}{r:(List Ls × List Ls)}(h:Y1D p0 p1=some r):CtX Tryz.prog 124 [ptr bp0 0,ptr bp1 0] [.blk bp0 (.cells #[vp0] 55),RowI 9 encS vp0 p0, .blk bp1 (.cells #[vp1] 55),RowI 9 encS vp1 p1] (fun M=>GlF (fun w =>∃m,w.cell? ⟨2,0,none⟩=some (.int .i64 m)) M) (fun v M its =>∃up0 up1,v=Value.tuple #[]∧its=[.blk bp0 (.cells #[up0] 55),RowI 9 encS up0 r.1, .blk bp1 (.cells #[up1] 55),RowI 9 encS up1 r.2]):=by
 refine CtX.of Tryz.func124 (enters Tryz.func124 Kr G) G G G ?_;intro w0 M0 H hp;have gM:=hp;unfold Y1D at h;refine SQ (RG (ST (XL H Ta55) G ?_));refine ST (q0M (l:=p0) Tu55 H Km G) G ?_;refine ST (q0E G G) G (NL (TN ?_));refine CB (p:=(0:Int)<(p0.length:Int)) G (fun hk3=>?_) fun hk3=>?_
 ·
  rw[if_pos hk3] at h;refine SQ ?_;obtain⟨s4,hx5,h⟩:=bnd h;obtain⟨⟨s6,⟨n7,n8⟩⟩,hx9,h⟩:=bnd h;try dsimp only at h
  refine RG (ST (XL H Ta55) G ?_);refine WR.callLend (l:=p0) H Km (Y1E hx5) (fun _ _ _ h=>h) G (fun _ hb1 hbor=>hbor) (q00 G) G ?_;intro v9 M w H hle hR;replace gM:=gM.mono hle;obtain rfl:=hR;refine q05 H (Y4Y hx9) G (gM) (q00 G) G ?_;intro v10 M w H hle hR;try dsimp only at hR
  obtain rfl:=hR;refine MV G G (ST (q0b G G) G (ST (q0b G G) G (q0j [_,_] H Tz27 G (q00 G) G ?_)));intro bk3 w H;refine AS G G (q0c [_,_] H G G G Ku Ts27 G Kf Kf (q00 G) ?_);intro w H;refine NL (TN ?_);obtain⟨l10,hxl10,h⟩:=bnd h;refine RG (ST (XL H Ta55) G ?_);refine MV G G (q0F (enc:=encS) xty55 ([s6]:List Ls) H G Kf (fun _=>G) G G (q00 G) G ?_);intro v15 M w H hle hs15;refine q1g (l:=p1) xty55 G (fun _=>G) H G (fun _=>by repeat first|exact .head|apply Upd.tail) G (hs15) hxl10 (q00 G) G ?_;intro v16 w H;refine q0Q [_] H G G (H.rowOne Km) Ku Kf Ts55 (by first|decide|(simp;done)|(simp;omega)) (q00 G) ?_;intro w H;refine q0Q [_] H G G (q1u _ _ _) Ku Kf Ts55 (by first|decide|(simp;done)|(simp;omega)) (q00 G) ?_;intro w H;refine NL ?_;replace H:=H.newRow 9 encS;obtain rfl:=oI h;exact WQ.endX0 (its:=[.blk bp0 (.cells #[(Value.slice none 0 0)] 55),RowI 9 encS (Value.slice none 0 0) [], .blk bp1 (.cells #[v16] 55),RowI 9 encS v16 l10]) G H Kp ⟨_,_,G,G⟩
 rw[if_neg hk3] at h;refine SK ?_;obtain rfl:=oI h;exact WQ.endX0 (its:=[.blk bp0 (.cells #[vp0] 55),RowI 9 encS vp0 p0, .blk bp1 (.cells #[vp1] 55),RowI 9 encS vp1 p1]) G H Kp ⟨_,_,G,G⟩
theorem Y4a {p0:List (Ls × Bool)}{vp0:Value}{r:Ls}(h:Y1U p0=some r):Ct Tryz.prog 87 [vp0] (fun M=>GlF (fun w =>∃m,w.cell? ⟨2,0,none⟩=some (.int .i64 m)) M∧SlS M 2 xenc136 vp0 p0) (fun v M=>v=S r):=by
 refine Ct.of Tryz.func87 (enters Tryz.func87 Kr G) G G G ?_;intro w0 M0 H hp;obtain⟨gM,hp0⟩:=hp;unfold Y1U at h;refine SQ (RG (AS G G (NL (TN (SQ (RG (q0j [_] H Tz55 G (q00 G) G ?_)))))));intro bk3 w H;refine q0j [_] H Tz55 G (q00 G) G ?_;intro bk4 w H;refine NL (TN (SQ (RG (ST (q1T G) G (AS G G (NL (TN (SQ (SQ (RG (MV G G (ST (q1o Tu107 hp0 G) G (MV G G (NL (TN ?_)))))))))))))));obtain⟨o1,e2,h⟩:=bnd h;refine q0h (fun e w =>∃(l4:List Ls) (v5:Value) (l7:List Ls) (v8:Value) (M:Mem),e=[(3,ptr bk3 0),(5,(Value.func (.func 124) #[] #[ptr bk4 0,ptr bk3 0]))]∧St w0 M0 M [.blk bk3 (.cells #[v5] 55),RowI 9 encS v5 l4, .blk bk4 (.cells #[v8] 55),RowI 9 encS v8 l7] w∧GlF (fun w =>∃m,w.cell? ⟨2,0,none⟩=some (.int .i64 m)) M∧some (l4,l7)=some o1) [] ?_ ?_ (trivial)
 ·
  refine BL ?_;replace H:=H.newRow 9 encS;replace H:=H.newRow 9 encS;refine q0A (fun m e w =>∃(l10:List Ls) (v11:Value) (l13:List Ls) (v14:Value) (n15:Int) (M:Mem),e=[(3,ptr bk3 0),(4,ptr bk4 0),(5,(Value.func (.func 124) #[] #[ptr bk4 0,ptr bk3 0])),(9,vp0),(10,I (p0.length:Int)),(11,I n15)]∧St w0 M0 M [.blk bk3 (.cells #[v11] 55),RowI 9 encS v11 l10, .blk bk4 (.cells #[v14] 55),RowI 9 encS v14 l13] w∧GlF (fun w =>∃m,w.cell? ⟨2,0,none⟩=some (.int .i64 m)) M∧SlS M 2 xenc136 vp0 p0∧Y0p p0 m l10 l13 n15=some o1) FU [(3,_),(4,_),(5,_),(9,_),(10,_),(11,_)] ⟨rfl,rfl,rfl,rfl,rfl,rfl,trivial⟩ ⟨_,_,_,_,_,_,rfl,(H.pick (L':=[.blk bk3 (.cells #[(Value.slice none 0 0)] 55),RowI 9 encS (Value.slice none 0 0) [], .blk bk4 (.cells #[(Value.slice none 0 0)] 55),RowI 9 encS (Value.slice none 0 0) []]) Kp),gM,hp0,e2⟩ ?_;rintro m16 e w ⟨l10,v11,l13,v14,n15,M,rfl,H,gM,hp0,e2⟩;rcases m16 with _|m16
  · rw[Y0p] at e2;cases e2
  rw[Y0p] at e2;refine SQ (RG (ST (q0n G G) G (NL (TN (SQ ?_)))));refine CB (p:=n15<(p0.length:Int)) G (fun hk19=>?_) fun hk19=>?_
  ·
   rw[if_pos hk19] at e2;refine SK (TN (SQ (BL (SQ ?_))));obtain⟨a20,hxa20,e2⟩:=bnd e2;obtain⟨bk13,o13,ha13,hc13⟩:=hp0.atC hxa20;refine RG (ST (q0u ha13 Tu107 Ts136 G G) G (ST (q1i H G hc13 Tryz.isAgg136 Ts136 Kf) G ?_));refine q0j [_,_] H Tz136 G (q00 G) G ?_;intro bk7 w H;refine q0c [_,_] H G G G Ku Ts136 G Kf Kf (q00 G) ?_;intro w H;refine NL (TN (SQ (RG (ST (q03 Tu136 G Ts4 Dc G) G (ST (XL H Ta4) G ?_)))));refine NL (TN ?_);refine q0k G (fun hk21=>?_) (fun hk21=>?_)
   ·
    rw[if_pos hk21] at e2;refine SQ ?_;obtain⟨⟨o22,o23⟩,hx24,e2⟩:=bnd e2;try dsimp only at e2
    refine RG (MV G G ?_);refine WR.callVX (cap:=[ptr bk4 0,ptr bk3 0]) (A:=[.blk bk4 (.cells #[v14] 55),RowI 9 encS v14 l13, .blk bk3 (.cells #[v11] 55),RowI 9 encS v11 l10]) (B:=[.blk bk7 (.cells #[S a20.1,Value.bool a20.2] 136)]) (H.pick (L':=[.blk bk4 (.cells #[v14] 55),RowI 9 encS v14 l13, .blk bk3 (.cells #[v11] 55),RowI 9 encS v11 l10, .blk bk7 (.cells #[S a20.1,Value.bool a20.2] 136)]) Kp) (Y3O hx24) (.left (.left (.left (.left (q0o _))))) G G (gM) (q00 G) G ?_;intro v18 M w its H hle hR;replace gM:=gM.mono hle;replace hp0:=hp0.mono hle;try dsimp only at hR
    obtain⟨u18_0,u18_1,rfl,rfl⟩:=hR;simp only[l04,l07] at H;refine NL (TN ?_);obtain⟨l25,hxl25,e2⟩:=bnd e2;refine RG (ST (XL H Ta55) G ?_);refine ST (q03 Tu136 G Ts9 Dc G) G (ST (XL H Ta9) G ?_);refine q0F (enc:=encS) xty55 ([a20.1]:List Ls) H G Kf (fun _=>G) G G (q00 G) G ?_;intro v22 M w H hle hs22;replace gM:=gM.mono hle;replace hp0:=hp0.mono hle;refine q1g (l:=o23) xty55 G (fun _=>G) H G (fun _=>by repeat first|exact .head|apply Upd.tail) G (hs22) hxl25 (q00 G) G ?_;intro v23 w H;refine q0Q [_] H G G (H.rowOne Km) Ku Kf Ts55 (by first|decide|(simp;done)|(simp;omega)) (q00 G) ?_;intro w H;refine NL (IB (TN ?_));obtain⟨n26,hxn26,e2⟩:=bnd e2;refine RG (ST (q0p G G hxn26) G (MV G G (NL ?_)));exact AG m16 ⟨_,_,_,_,_,_,G,(H.pick (L':=[.blk bk3 (.cells #[v23] 55),RowI 9 encS v23 l25, .blk bk4 (.cells #[u18_0] 55),RowI 9 encS u18_0 o22]) Kp),gM,hp0,e2⟩ (l0b _)
   rw[if_neg (by rw[hk21];exact l06)] at e2;obtain⟨l27,hxl27,e2⟩:=bnd e2;refine RG (ST (XL H Ta55) G ?_);refine ST (q03 Tu136 G Ts9 Dc G) G (ST (XL H Ta9) G ?_);refine q0F (enc:=encS) xty55 ([a20.1]:List Ls) H G Kf (fun _=>G) G G (q00 G) G ?_;intro v27 M w H hle hs27;replace gM:=gM.mono hle;replace hp0:=hp0.mono hle;refine q1g (l:=l13) xty55 G (fun _=>G) H G (fun _=>by repeat first|exact .head|apply Upd.tail) G (hs27) hxl27 (q00 G) G ?_;intro v28 w H;refine q0Q [_] H G G (H.rowOne Km) Ku Kf Ts55 (by first|decide|(simp;done)|(simp;omega)) (q00 G) ?_;intro w H;refine NL (IB (TN ?_));obtain⟨n28,hxn28,e2⟩:=bnd e2;refine RG (ST (q0p G G hxn28) G (MV G G (NL ?_)));exact AG m16 ⟨_,_,_,_,_,_,G,(H.pick (L':=[.blk bk3 (.cells #[v11] 55),RowI 9 encS v11 l10, .blk bk4 (.cells #[v28] 55),RowI 9 encS v28 l27]) Kp),gM,hp0,e2⟩ (l0b _)
  rw[if_neg hk19] at e2;refine q0m (q06 (q06 (q0d ?_)));exact MN ⟨_,_,_,_,_,G,H,gM,e2⟩
 rintro e w ⟨l4,v5,l7,v8,M,rfl,H,gM,q29⟩;obtain rfl:=oI q29;try dsimp only at h
 refine TN (SQ ?_);obtain⟨⟨o30,o31⟩,hx32,h⟩:=bnd h;try dsimp only at h
 refine RG (MV G G ?_);refine WR.callVX (cap:=[ptr bk4 0,ptr bk3 0]) (A:=[.blk bk4 (.cells #[v8] 55),RowI 9 encS v8 l7, .blk bk3 (.cells #[v5] 55),RowI 9 encS v5 l4]) (B:=[]) (H.pick (L':=[.blk bk4 (.cells #[v8] 55),RowI 9 encS v8 l7, .blk bk3 (.cells #[v5] 55),RowI 9 encS v5 l4]) Kp) (Y3O hx32) (.left (.left (.left (.left (q0o _))))) G G (gM) (q00 G) G ?_;intro v31 M w its H hle hR;try dsimp only at hR
 obtain⟨u31_0,u31_1,rfl,rfl⟩:=hR;simp only[l04,l07] at H;refine NL (TN (SQ ?_));obtain⟨s34,hx35,h⟩:=bnd h;refine RG (ST (XL H Ta55) G ?_);obtain⟨M,hle,hs33,H⟩:=H.freezeRow (v:=u31_1) (enc:=encS) (t:=9) Kv;refine q05 H (Y1E hx35) G (hs33) (q00 G) G ?_;intro v33 M w H hle hR;obtain rfl:=hR;refine AS G G (NL (TN (RT ?_)));obtain rfl:=oI h;exact q07 G G H.ext G
theorem Y0k {p0:(Ls × Int)}{p1:List (Ls × Bool)}{bp0:Nat}{vp1:Value}{r:(((Ls × Ls × Ls) × (Ls × Int)) ⊕ Int)}(h:Y0H p0 p1=some r):CtS Tryz.prog 86 [ptr bp0 0,vp1] [.blk bp0 (.cells #[S p0.1,I p0.2] 72)] (fun M=>GlF (fun w =>∃m,w.cell? ⟨2,0,none⟩=some (.int .i64 m)) M∧Tabs M∧SlS M 2 xenc136 vp1 p1) (fun x=>fun v M its=>v=Value.agg #[S x.1.1,S x.1.2.1,S x.1.2.2]∧its=[.blk bp0 (.cells #[S x.2.1,I x.2.2] 72)]) (fun n=>Value.iface 69 (Value.agg #[I n])) r:=by
 refine CtS.of Tryz.func86 (enters Tryz.func86 Kr G) G G G ?_;intro w0 M0 H hp;obtain⟨gM,gT,hp1⟩:=hp;unfold Y0H at h;refine SQ (RG (q0j [_,_,_] H Tz24 G (q00 G) G ?_));intro bk4 w H;refine NL (TN (SQ (SQ ?_)));obtain⟨o4,hx3,h⟩:=bnd h;rcases o4 with ⟨b1,o2⟩|n5
 ·
  try dsimp only at h
  refine RG (MV G G ?_);refine q0x (A:=[.blk bp0 (.cells #[S p0.1,I p0.2] 72)]) (B:=[.blk bk4 (.cells #[S [],S [],S []] 24)]) (H.pick (L':=[.blk bp0 (.cells #[S p0.1,I p0.2] 72), .blk bk4 (.cells #[S [],S [],S []] 24)]) Kp) (Y0b hx3) (.left (q0o _)) G trivial (q00 G) G ?_;intro v7 M w its H hle hR;replace gM:=gM.mono hle;replace gT:=gT.mono hle;replace hp1:=hp1.mono hle;try dsimp only at hR
  obtain⟨rfl,rfl⟩:=hR;simp only[l04,l07] at H;refine ST (q0L G) G (NL (TN ?_));refine q0k G (fun hk6=>?_) (fun hk6=>?_)
  ·
   replace hk6:b1=false:=by simpa using hk6
   subst hk6;rw[if_neg l06] at h;refine SQ ?_;obtain⟨o12,hx11,h⟩:=bnd h;rcases o12 with ⟨⟨s7,s8,s9⟩,o10⟩|n13
   ·
    try dsimp only at h
    refine RG (MV G G (MV G G ?_));refine q0x (A:=[.blk bp0 (.cells #[S o2.1,I o2.2] 72)]) (B:=[.blk bk4 (.cells #[S [],S [],S []] 24)]) (H.pick (L':=[.blk bp0 (.cells #[S o2.1,I o2.2] 72), .blk bk4 (.cells #[S [],S [],S []] 24)]) Kp) (Y1n hx11) (.left (q0o _)) G ⟨gM,gT,hp1⟩ (q00 G) G ?_;intro v11 M w its H hle hR;try dsimp only at hR
    obtain⟨rfl,rfl⟩:=hR;simp only[l04,l07] at H;refine q0c [_,_,_] H G G G Ku Ts24 G Kf Kf (q00 G) ?_;intro w H;refine NL (TN (RT ?_));obtain rfl:=oI h;exact q1s (its:=[.blk bp0 (.cells #[S o10.1,I o10.2] 72)]) G ⟨_,G,H.loadAgg Km Ta24 Ts24 Kf⟩ H Kp ⟨G,G⟩
   try dsimp only at h
   obtain rfl:=oI h;refine RG (MV G G (MV G G ?_));refine q0I (A:=[.blk bp0 (.cells #[S o2.1,I o2.2] 72)]) (B:=[.blk bk4 (.cells #[S [],S [],S []] 24)]) (H.pick (L':=[.blk bp0 (.cells #[S o2.1,I o2.2] 72), .blk bk4 (.cells #[S [],S [],S []] 24)]) Kp) (Y1n hx11) (.left (q0o _)) G ⟨gM,gT,hp1⟩ (q00 G) ?_;intro M w H hle
   (repeat(first|refine q0O ?_|refine q0X ?_|refine q0T ?_|refine q0Y ?_))
   exact q0U H
  replace hk6:b1=true:=by simpa using hk6
  subst hk6;rw[if_pos rfl] at h;refine SK (TN (SQ ?_));obtain⟨o17,hx16,h⟩:=bnd h;rcases o17 with ⟨l14,o15⟩|n18
  ·
   try dsimp only at h
   obtain⟨o24,hx23,h⟩:=bnd h;rcases o24 with ⟨⟨s19,s20,s21⟩,o22⟩|n25
   ·
    try dsimp only at h
    refine RG (MV G G (MV G G ?_));refine q0x (A:=[.blk bp0 (.cells #[S o2.1,I o2.2] 72)]) (B:=[.blk bk4 (.cells #[S [],S [],S []] 24)]) (H.pick (L':=[.blk bp0 (.cells #[S o2.1,I o2.2] 72), .blk bk4 (.cells #[S [],S [],S []] 24)]) Kp) (Y09 hx16) (.left (q0o _)) G trivial (q00 G) G ?_;intro v14 M w its H hle hR;replace gM:=gM.mono hle;replace gT:=gT.mono hle;replace hp1:=hp1.mono hle;try dsimp only at hR
    obtain⟨x14_0,rfl,f14_0,rfl⟩:=hR;simp only[l04,l07] at H;refine q0x (A:=[.blk bp0 (.cells #[S o15.1,I o15.2] 72)]) (B:=[.blk bk4 (.cells #[S [],S [],S []] 24)]) (H.pick (L':=[.blk bp0 (.cells #[S o15.1,I o15.2] 72), .blk bk4 (.cells #[S [],S [],S []] 24)]) Kp) (Y1n hx23) (.left (q0o _)) G ⟨gM,gT,f14_0⟩ (q00 G) G ?_;intro v15 M w its H hle hR;replace gM:=gM.mono hle;replace hp1:=hp1.mono hle;try dsimp only at hR
    obtain⟨rfl,rfl⟩:=hR;simp only[l04,l07] at H;refine q0j [_,_,_] H Tz24 G (q00 G) G ?_;intro bk5 w H;refine q0c [_,_,_] H G G G Ku Ts24 G Kf Kf (q00 G) ?_;intro w H;refine NL (TN (SQ ?_));obtain⟨s26,hx27,h⟩:=bnd h;refine RG (MV G G (q05 H (Y4a hx27) G ⟨gM,hp1⟩ (q00 G) G ?_));intro v17 M w H hle hR;obtain rfl:=hR;refine ST (q03 Tu24 G Ts9 Dc G) G (q1y [_,_,_] H G G Ku Kf Ts9 (by first|decide|(simp;done)|(simp;omega)) Kf Kf (q00 G) ?_);intro w H;refine NL (TN (SQ ?_));obtain⟨o30,hx29,h⟩:=bnd h;rcases o30 with o28|n31
    ·
     try dsimp only at h
     refine RG (MV G G ?_);refine q0x (A:=[.blk bp0 (.cells #[S o22.1,I o22.2] 72)]) (B:=[.blk bk5 (.cells #[S s26,S s20,S s21] 24), .blk bk4 (.cells #[S [],S [],S []] 24)]) (H.pick (L':=[.blk bp0 (.cells #[S o22.1,I o22.2] 72), .blk bk5 (.cells #[S s26,S s20,S s21] 24), .blk bk4 (.cells #[S [],S [],S []] 24)]) Kp) (Y0X hx29) (.left (q0o _)) G trivial (q00 G) G ?_;intro v20 M w its H hle hR;try dsimp only at hR
     obtain⟨rfl,rfl⟩:=hR;simp only[l04,l07] at H;refine NL (TN (SQ (RG (ST (q0w H G Km Ta24 Ts24 Kf) G ?_))));refine q0c [_,_,_] H G G G Ku Ts24 G Kf Kf (q00 G) ?_;intro w H;refine NL (TN (RT ?_));obtain rfl:=oI h;exact q1s (its:=[.blk bp0 (.cells #[S o28.1,I o28.2] 72)]) G ⟨_,G,H.loadAgg Km Ta24 Ts24 Kf⟩ H Kp ⟨G,G⟩
    try dsimp only at h
    obtain rfl:=oI h;refine RG (MV G G ?_);refine q0I (A:=[.blk bp0 (.cells #[S o22.1,I o22.2] 72)]) (B:=[.blk bk5 (.cells #[S s26,S s20,S s21] 24), .blk bk4 (.cells #[S [],S [],S []] 24)]) (H.pick (L':=[.blk bp0 (.cells #[S o22.1,I o22.2] 72), .blk bk5 (.cells #[S s26,S s20,S s21] 24), .blk bk4 (.cells #[S [],S [],S []] 24)]) Kp) (Y0X hx29) (.left (q0o _)) G trivial (q00 G) ?_;intro M w H hle
    (repeat(first|refine q0O ?_|refine q0X ?_|refine q0T ?_|refine q0Y ?_))
    exact q0U H
   try dsimp only at h
   obtain rfl:=oI h;refine RG (MV G G (MV G G ?_));refine q0x (A:=[.blk bp0 (.cells #[S o2.1,I o2.2] 72)]) (B:=[.blk bk4 (.cells #[S [],S [],S []] 24)]) (H.pick (L':=[.blk bp0 (.cells #[S o2.1,I o2.2] 72), .blk bk4 (.cells #[S [],S [],S []] 24)]) Kp) (Y09 hx16) (.left (q0o _)) G trivial (q00 G) G ?_;intro v14 M w its H hle hR;replace gM:=gM.mono hle;replace gT:=gT.mono hle;try dsimp only at hR
   obtain⟨x14_0,rfl,f14_0,rfl⟩:=hR;simp only[l04,l07] at H;refine q0I (A:=[.blk bp0 (.cells #[S o15.1,I o15.2] 72)]) (B:=[.blk bk4 (.cells #[S [],S [],S []] 24)]) (H.pick (L':=[.blk bp0 (.cells #[S o15.1,I o15.2] 72), .blk bk4 (.cells #[S [],S [],S []] 24)]) Kp) (Y1n hx23) (.left (q0o _)) G ⟨gM,gT,f14_0⟩ (q00 G) ?_;intro M w H hle
   (repeat(first|refine q0O ?_|refine q0X ?_|refine q0T ?_|refine q0Y ?_))
   exact q0U H
  try dsimp only at h
  obtain rfl:=oI h;refine RG (MV G G (MV G G ?_));refine q0I (A:=[.blk bp0 (.cells #[S o2.1,I o2.2] 72)]) (B:=[.blk bk4 (.cells #[S [],S [],S []] 24)]) (H.pick (L':=[.blk bp0 (.cells #[S o2.1,I o2.2] 72), .blk bk4 (.cells #[S [],S [],S []] 24)]) Kp) (Y09 hx16) (.left (q0o _)) G trivial (q00 G) ?_;intro M w H hle
  (repeat(first|refine q0O ?_|refine q0X ?_|refine q0T ?_|refine q0Y ?_))
  exact q0U H
 try dsimp only at h
 obtain rfl:=oI h;refine RG (MV G G ?_);refine q0I (A:=[.blk bp0 (.cells #[S p0.1,I p0.2] 72)]) (B:=[.blk bk4 (.cells #[S [],S [],S []] 24)]) (H.pick (L':=[.blk bp0 (.cells #[S p0.1,I p0.2] 72), .blk bk4 (.cells #[S [],S [],S []] 24)]) Kp) (Y0b hx3) (.left (q0o _)) G trivial (q00 G) ?_;intro M w H hle
 (repeat(first|refine q0O ?_|refine q0X ?_|refine q0T ?_|refine q0Y ?_))
 exact q0U H
theorem Y0w {p0:(Ls × Int)}{bp0:Nat}{r:(((Ls × Bool × List (Ls × Ls × Ls)) × (Ls × Int)) ⊕ Int)}(h:Y0m p0=some r):CtS Tryz.prog 47 [ptr bp0 0] [.blk bp0 (.cells #[S p0.1,I p0.2] 72)] (fun M=>GlF (fun w =>∃m,w.cell? ⟨2,0,none⟩=some (.int .i64 m)) M∧Tabs M) (fun x=>fun v M its =>∃x0_2,v=Value.agg #[S x.1.1,Value.bool x.1.2.1,x0_2]∧SlS M 3 xenc24 x0_2 x.1.2.2∧its=[.blk bp0 (.cells #[S x.2.1,I x.2.2] 72)]) (fun n=>Value.iface 69 (Value.agg #[I n])) r:=by
 refine CtS.of Tryz.func47 (enters Tryz.func47 Kr G) G G G ?_;intro w0 M0 H hp;obtain⟨gM,gT⟩:=hp;unfold Y0m at h;refine SQ (RG (q0j [_,_,_] H Tz34 G (q00 G) G ?_));intro bk2 w H;refine NL (TN (SQ ?_));obtain⟨o4,hx3,h⟩:=bnd h;rcases o4 with ⟨l1,o2⟩|n5
 ·
  try dsimp only at h
  refine RG (MV G G ?_);refine q0x (A:=[.blk bp0 (.cells #[S p0.1,I p0.2] 72)]) (B:=[.blk bk2 (.cells #[S [],Value.bool false,Value.slice none 0 0] 34)]) (H.pick (L':=[.blk bp0 (.cells #[S p0.1,I p0.2] 72), .blk bk2 (.cells #[S [],Value.bool false,Value.slice none 0 0] 34)]) Kp) (Y09 hx3) (.left (q0o _)) G trivial (q00 G) G ?_;intro v6 M w its H hle hR;replace gM:=gM.mono hle;replace gT:=gT.mono hle;try dsimp only at hR
  obtain⟨x6_0,rfl,f6_0,rfl⟩:=hR;simp only[l04,l07] at H;refine AS G G (NL (TN (SQ (SQ ?_))));obtain⟨o9,hx8,h⟩:=bnd h;rcases o9 with ⟨b6,o7⟩|n10
  ·
   try dsimp only at h
   refine RG (MV G G ?_);refine q0x (A:=[.blk bp0 (.cells #[S o2.1,I o2.2] 72)]) (B:=[.blk bk2 (.cells #[S [],Value.bool false,Value.slice none 0 0] 34)]) (H.pick (L':=[.blk bp0 (.cells #[S o2.1,I o2.2] 72), .blk bk2 (.cells #[S [],Value.bool false,Value.slice none 0 0] 34)]) Kp) (Y0b hx8) (.left (q0o _)) G trivial (q00 G) G ?_;intro v8 M w its H hle hR;replace gM:=gM.mono hle;replace gT:=gT.mono hle;replace f6_0:=f6_0.mono hle;try dsimp only at hR
   obtain⟨rfl,rfl⟩:=hR;simp only[l04,l07] at H;refine ST (q0L G) G (NL (TN ?_));refine q0k G (fun hk11=>?_) (fun hk11=>?_)
   ·
    replace hk11:b6=false:=by simpa using hk11
    subst hk11;rw[if_neg l06] at h;refine SQ ?_;obtain⟨o17,hx16,h⟩:=bnd h;rcases o17 with ⟨⟨s12,s13,s14⟩,o15⟩|n18
    ·
     try dsimp only at h
     refine RG (MV G G (MV G G ?_));refine q0x (A:=[.blk bp0 (.cells #[S o7.1,I o7.2] 72)]) (B:=[.blk bk2 (.cells #[S [],Value.bool false,Value.slice none 0 0] 34)]) (H.pick (L':=[.blk bp0 (.cells #[S o7.1,I o7.2] 72), .blk bk2 (.cells #[S [],Value.bool false,Value.slice none 0 0] 34)]) Kp) (Y0k hx16) (.left (q0o _)) G ⟨gM,gT,f6_0⟩ (q00 G) G ?_;intro v12 M w its H hle hR;try dsimp only at hR
     obtain⟨rfl,rfl⟩:=hR;simp only[l04,l07] at H;refine q1J (enc:=xenc24) xty30 ([(s12,s13,s14)]:List (Ls × Ls × Ls)) H (fun _=>G) G Kr G G G (q00 G) G ?_;intro v13 M w H hle hs13;refine ST (q0N [S [],Value.bool false,v13] Tu34 Tz34 (xplaces34 Tu34) G (by obtain⟨_,_,_,hv,-⟩:=hs13;rw [hv];clear hv;rfl)) G ?_;refine q0c [_,_,_] H G G G Ku Ts34 G Kf (by simp only[l0H,l2d,(hs13).one.2];rfl) (q00 G) ?_;intro w H;refine NL (TN (RT ?_));obtain rfl:=oI h;exact q1s (its:=[.blk bp0 (.cells #[S o15.1,I o15.2] 72)]) G ⟨_,G,H.loadAgg Km Ta34 Ts34 Kf⟩ H Kp ⟨_,G,hs13,G⟩
    try dsimp only at h
    obtain rfl:=oI h;refine RG (MV G G (MV G G ?_));refine q0I (A:=[.blk bp0 (.cells #[S o7.1,I o7.2] 72)]) (B:=[.blk bk2 (.cells #[S [],Value.bool false,Value.slice none 0 0] 34)]) (H.pick (L':=[.blk bp0 (.cells #[S o7.1,I o7.2] 72), .blk bk2 (.cells #[S [],Value.bool false,Value.slice none 0 0] 34)]) Kp) (Y0k hx16) (.left (q0o _)) G ⟨gM,gT,f6_0⟩ (q00 G) ?_;intro M w H hle
    (repeat(first|refine q0O ?_|refine q0X ?_|refine q0T ?_|refine q0Y ?_))
    exact q0U H
   replace hk11:b6=true:=by simpa using hk11
   subst hk11;rw[if_pos rfl] at h;refine SK (TN (SQ ?_));obtain⟨s19,hx20,h⟩:=bnd h;refine RG (MV G G (q05 H (Y4a hx20) G ⟨gM,f6_0⟩ (q00 G) G ?_));intro v16 M w H hle hR;replace gM:=gM.mono hle;replace gT:=gT.mono hle;obtain rfl:=hR;refine ST (q0N [S s19,Value.bool true,Value.slice none 0 0] Tu34 Tz34 (xplaces34 Tu34) G G) G (q0j [_,_,_] H Tz34 G (q00 G) G ?_);intro bk4 w H;refine q0c [_,_,_] H G G G Ku Ts34 G Kf Kf (q00 G) ?_;intro w H;refine NL (TN (SQ (SQ (RG (ST (q03 Tu34 G Ts9 Dc G) G (ST (XL H Ta9) G ?_))))));refine ST (q0z G G) G (NL (TN ?_));obtain⟨o21,e22,h⟩:=bnd h;refine q0h (fun e w =>∃(s23:Ls) (n24:Int) (M:Mem),e=[(0,ptr bp0 0),(2,ptr bk2 0),(4,ptr bk4 0)]∧StX (feet [.blk bp0 (.cells #[S p0.1,I p0.2] 72)]) w0 M0 M [.blk bp0 (.cells #[S s23,I n24] 72), .blk bk2 (.cells #[S [],Value.bool false,Value.slice none 0 0] 34), .blk bk4 (.cells #[S s19,Value.bool true,Value.slice none 0 0] 34)] w∧GlF (fun w =>∃m,w.cell? ⟨2,0,none⟩=some (.int .i64 m)) M∧Tabs M∧some (.inl (s23,n24))=some o21) [] ?_ ?_ (trivial)
   ·
    refine CB (p:=s19=[]) G (fun hk25=>?_) fun hk25=>?_
    ·
     rw[if_pos hk25] at e22;obtain⟨o28,hx27,e22⟩:=bnd e22;rcases o28 with o26|n29
     ·
      try dsimp only at e22
      refine RG (MV G G ?_);refine q0x (A:=[.blk bp0 (.cells #[S o7.1,I o7.2] 72)]) (B:=[.blk bk4 (.cells #[S s19,Value.bool true,Value.slice none 0 0] 34), .blk bk2 (.cells #[S [],Value.bool false,Value.slice none 0 0] 34)]) (H.pick (L':=[.blk bp0 (.cells #[S o7.1,I o7.2] 72), .blk bk4 (.cells #[S s19,Value.bool true,Value.slice none 0 0] 34), .blk bk2 (.cells #[S [],Value.bool false,Value.slice none 0 0] 34)]) Kp) (Y03 hx27) (.left (q0o _)) G trivial (q00 G) G ?_;intro v22 M w its H hle hR;replace gM:=gM.mono hle;replace gT:=gT.mono hle;try dsimp only at hR
      obtain⟨rfl,rfl⟩:=hR;simp only[l04,l07] at H;refine NL ?_;exact MN ⟨_,_,_,G,(H.pick (L':=[.blk bp0 (.cells #[S o26.1,I o26.2] 72), .blk bk2 (.cells #[S [],Value.bool false,Value.slice none 0 0] 34), .blk bk4 (.cells #[S s19,Value.bool true,Value.slice none 0 0] 34)]) Kp),gM,gT,e22⟩
     try dsimp only at e22
     obtain rfl:=oI e22;try dsimp only at h
     obtain rfl:=oI h;refine RG (MV G G ?_);refine q0I (A:=[.blk bp0 (.cells #[S o7.1,I o7.2] 72)]) (B:=[.blk bk4 (.cells #[S s19,Value.bool true,Value.slice none 0 0] 34), .blk bk2 (.cells #[S [],Value.bool false,Value.slice none 0 0] 34)]) (H.pick (L':=[.blk bp0 (.cells #[S o7.1,I o7.2] 72), .blk bk4 (.cells #[S s19,Value.bool true,Value.slice none 0 0] 34), .blk bk2 (.cells #[S [],Value.bool false,Value.slice none 0 0] 34)]) Kp) (Y03 hx27) (.left (q0o _)) G trivial (q00 G) ?_;intro M w H hle
     (repeat(first|refine q0O ?_|refine q0X ?_|refine q0T ?_|refine q0Y ?_))
     exact q0U H
    rw[if_neg hk25] at e22;refine SK ?_;exact MN ⟨_,_,_,G,(H.pick (L':=[.blk bp0 (.cells #[S o7.1,I o7.2] 72), .blk bk2 (.cells #[S [],Value.bool false,Value.slice none 0 0] 34), .blk bk4 (.cells #[S s19,Value.bool true,Value.slice none 0 0] 34)]) Kp),gM,gT,e22⟩
   rintro e w ⟨s23,n24,M,rfl,H,gM,gT,q30⟩;obtain rfl:=oI q30;try dsimp only at h
   refine TN (SQ (SQ ?_));obtain⟨o34,hx33,h⟩:=bnd h;rcases o34 with ⟨b31,o32⟩|n35
   ·
    try dsimp only at h
    refine RG (MV G G ?_);refine q0x (A:=[.blk bp0 (.cells #[S s23,I n24] 72)]) (B:=[.blk bk2 (.cells #[S [],Value.bool false,Value.slice none 0 0] 34), .blk bk4 (.cells #[S s19,Value.bool true,Value.slice none 0 0] 34)]) (H.pick (L':=[.blk bp0 (.cells #[S s23,I n24] 72), .blk bk2 (.cells #[S [],Value.bool false,Value.slice none 0 0] 34), .blk bk4 (.cells #[S s19,Value.bool true,Value.slice none 0 0] 34)]) Kp) (Y0b hx33) (.left (q0o _)) G trivial (q00 G) G ?_;intro v24 M w its H hle hR;replace gM:=gM.mono hle;replace gT:=gT.mono hle;try dsimp only at hR
    obtain⟨rfl,rfl⟩:=hR;simp only[l04,l07] at H;refine NL (TN ?_);refine q0k G (fun hk36=>?_) (fun hk36=>?_)
    ·
     subst hk36;rw[if_pos rfl] at h;refine SQ (RG (ST (q0w H G Km Ta34 Ts34 Kf) G ?_));refine q0c [_,_,_] H G G G Ku Ts34 G Kf Kf (q00 G) ?_;intro w H;refine NL (TN (RT ?_));obtain rfl:=oI h;exact q1s (its:=[.blk bp0 (.cells #[S o32.1,I o32.2] 72)]) G ⟨_,G,H.loadAgg Km Ta34 Ts34 Kf⟩ H Kp ⟨_,G,(SlS.nil _ _ (fun _=>G)),G⟩
    subst hk36;rw[if_neg l06] at h;refine SK (TN ?_);obtain⟨o37,e38,h⟩:=bnd h;refine BL ?_;replace H:=H.newRowS 24 3 xenc24;refine q0A (fun m e w =>∃(s39:Ls) (n40:Int) (s41:Ls) (b42:Bool) (l43:List (Ls × Ls × Ls)) (v44:Value) (s46:Ls) (b47:Bool) (l49:List (Ls × Ls × Ls)) (v50:Value) (M:Mem),e=[(0,ptr bp0 0),(2,ptr bk2 0),(4,ptr bk4 0)]∧StX (feet [.blk bp0 (.cells #[S p0.1,I p0.2] 72)]) w0 M0 M [.blk bp0 (.cells #[S s39,I n40] 72), .blk bk2 (.cells #[S s41,Value.bool b42,v44] 34), .blk bk4 (.cells #[S s46,Value.bool b47,v50] 34),RowS 24 3 xenc24 v50 l49] w∧GlF (fun w =>∃m,w.cell? ⟨2,0,none⟩=some (.int .i64 m)) M∧Tabs M∧SlS M 3 xenc24 v44 l43∧Y0I  m s39 n40 s41 b42 l43 s46 b47 l49=some o37) FU [(0,_),(2,_),(4,_)] ⟨rfl,rfl,rfl,trivial⟩ ⟨_,_,_,_,_,_,_,_,_,_,_,rfl,(H.pick (L':=[.blk bp0 (.cells #[S o32.1,I o32.2] 72), .blk bk2 (.cells #[S [],Value.bool false,Value.slice none 0 0] 34), .blk bk4 (.cells #[S s19,Value.bool true,(Value.slice none 0 0)] 34),RowS 24 3 xenc24 (Value.slice none 0 0) []]) Kp),gM,gT,(SlS.nil _ _ (fun _=>rfl)),e38⟩ ?_;rintro m51 e w ⟨s39,n40,s41,b42,l43,v44,s46,b47,l49,v50,M,rfl,H,gM,gT,hs45,e38⟩;rcases m51 with _|m51
    · rw[Y0I] at e38;cases e38
    rw[Y0I] at e38;refine BL (SQ ?_);obtain⟨o56,hx55,e38⟩:=bnd e38;rcases o56 with ⟨l53,o54⟩|n57
    ·
     try dsimp only at e38
     obtain⟨o63,hx62,e38⟩:=bnd e38;rcases o63 with ⟨⟨s58,s59,s60⟩,o61⟩|n64
     ·
      try dsimp only at e38
      obtain⟨l65,hxl65,e38⟩:=bnd e38;refine q2f (fun e w =>∃(v66:Value) (M:Mem),e=[(0,ptr bp0 0),(2,ptr bk2 0),(4,ptr bk4 0)]∧StX (feet [.blk bp0 (.cells #[S p0.1,I p0.2] 72)]) w0 M0 M [.blk bp0 (.cells #[S o61.1,I o61.2] 72), .blk bk2 (.cells #[S s41,Value.bool b42,v44] 34), .blk bk4 (.cells #[S s46,Value.bool b47,v66] 34),RowS 24 3 xenc24 v66 l65] w∧GlF (fun w =>∃m,w.cell? ⟨2,0,none⟩=some (.int .i64 m)) M∧Tabs M∧SlS M 3 xenc24 v44 l43) ?_ ?_
      ·
       refine q0H (m:=10) G G H ?_;intro w H;refine TK 0 G (fun _=>q03 Tu34 G Ts30 Dc G) G (TK 2 G (fun _=>q01 G) G (TK 3 G (fun _=>q01 G) G ?_));refine q0R (i:=1) (j:=4) Kr G G ?_ ?_
       ·
        refine ST (XL H Ta30) G ?_;refine NA (q0v (fuel:=0) [4,5,6,7,8,9] G Kr ?_);refine q0x (A:=[.blk bp0 (.cells #[S s39,I n40] 72)]) (B:=[.blk bk2 (.cells #[S s41,Value.bool b42,v44] 34), .blk bk4 (.cells #[S s46,Value.bool b47,v50] 34),RowS 24 3 xenc24 v50 l49]) (H.pick (L':=[.blk bp0 (.cells #[S s39,I n40] 72), .blk bk2 (.cells #[S s41,Value.bool b42,v44] 34), .blk bk4 (.cells #[S s46,Value.bool b47,v50] 34),RowS 24 3 xenc24 v50 l49]) Kp) (Y09 hx55) (.left (q0o _)) G trivial (q00 G) G ?_;intro v30 M w its H hle hR;replace gM:=gM.mono hle;replace gT:=gT.mono hle;replace hs45:=hs45.mono hle;try dsimp only at hR
        obtain⟨x30_0,rfl,f30_0,rfl⟩:=hR;simp only[l04,l07] at H;refine q0x (A:=[.blk bp0 (.cells #[S o54.1,I o54.2] 72)]) (B:=[.blk bk2 (.cells #[S s41,Value.bool b42,v44] 34), .blk bk4 (.cells #[S s46,Value.bool b47,v50] 34),RowS 24 3 xenc24 v50 l49]) (H.pick (L':=[.blk bp0 (.cells #[S o54.1,I o54.2] 72), .blk bk2 (.cells #[S s41,Value.bool b42,v44] 34), .blk bk4 (.cells #[S s46,Value.bool b47,v50] 34),RowS 24 3 xenc24 v50 l49]) Kp) (Y0k hx62) (.left (q0o _)) G ⟨gM,gT,f30_0⟩ (q00 G) G ?_;intro v31 M w its H hle hR;replace gM:=gM.mono hle;replace gT:=gT.mono hle;replace hs45:=hs45.mono hle;try dsimp only at hR
        obtain⟨rfl,rfl⟩:=hR;simp only[l04,l07] at H;refine q1J (enc:=xenc24) xty30 ([(s58,s59,s60)]:List (Ls × Ls × Ls)) H (fun _=>G) G Kr G G G (q00 G) G ?_;intro v32 M w H hle hs32;replace gM:=gM.mono hle;replace gT:=gT.mono hle;replace hs45:=hs45.mono hle;refine q2l (l:=l49) xty30 G xone24 H G (fun _=>by repeat first|exact .head|apply Upd.tail) G (hs32) hxl65 (q00 G) G ?_;intro v33 w H;refine ST (q03 Tu34 G Ts30 Dc G) G (q0Q [_,_,_] H G G (H.rowOneS Km) Ku Kf Ts30 (by first|decide|(simp;done)|(simp;omega)) (q00 G) ?_);intro w H;refine NA (q0l Kr ?_);exact MP ⟨_,_,G,H,gM,gT,hs45⟩
       refine q0x (A:=[.blk bp0 (.cells #[S s39,I n40] 72)]) (B:=[.blk bk2 (.cells #[S s41,Value.bool b42,v44] 34), .blk bk4 (.cells #[S s46,Value.bool b47,v50] 34),RowS 24 3 xenc24 v50 l49]) (H.pick (L':=[.blk bp0 (.cells #[S s39,I n40] 72), .blk bk2 (.cells #[S s41,Value.bool b42,v44] 34), .blk bk4 (.cells #[S s46,Value.bool b47,v50] 34),RowS 24 3 xenc24 v50 l49]) Kp) (Y09 hx55) (.left (q0o _)) G trivial (q00 G) G ?_;intro v30 M w its H hle hR;replace gM:=gM.mono hle;replace gT:=gT.mono hle;replace hs45:=hs45.mono hle;try dsimp only at hR
       obtain⟨x30_0,rfl,f30_0,rfl⟩:=hR;simp only[l04,l07] at H;refine NA ?_;refine q0R (i:=1) (j:=5) Kr G G ?_ ?_
       ·
        refine ST (XL H Ta30) G ?_;refine NA (q0v (fuel:=0) [5,6,7,8,9] G Kr ?_);refine q0x (A:=[.blk bp0 (.cells #[S o54.1,I o54.2] 72)]) (B:=[.blk bk2 (.cells #[S s41,Value.bool b42,v44] 34), .blk bk4 (.cells #[S s46,Value.bool b47,v50] 34),RowS 24 3 xenc24 v50 l49]) (H.pick (L':=[.blk bp0 (.cells #[S o54.1,I o54.2] 72), .blk bk2 (.cells #[S s41,Value.bool b42,v44] 34), .blk bk4 (.cells #[S s46,Value.bool b47,v50] 34),RowS 24 3 xenc24 v50 l49]) Kp) (Y0k hx62) (.left (q0o _)) G ⟨gM,gT,f30_0⟩ (q00 G) G ?_;intro v31 M w its H hle hR;replace gM:=gM.mono hle;replace gT:=gT.mono hle;replace hs45:=hs45.mono hle;try dsimp only at hR
        obtain⟨rfl,rfl⟩:=hR;simp only[l04,l07] at H;refine q1J (enc:=xenc24) xty30 ([(s58,s59,s60)]:List (Ls × Ls × Ls)) H (fun _=>G) G Kr G G G (q00 G) G ?_;intro v32 M w H hle hs32;replace gM:=gM.mono hle;replace gT:=gT.mono hle;replace hs45:=hs45.mono hle;refine q2l (l:=l49) xty30 G xone24 H G (fun _=>by repeat first|exact .head|apply Upd.tail) G (hs32) hxl65 (q00 G) G ?_;intro v33 w H;refine ST (q03 Tu34 G Ts30 Dc G) G (q0Q [_,_,_] H G G (H.rowOneS Km) Ku Kf Ts30 (by first|decide|(simp;done)|(simp;omega)) (q00 G) ?_);intro w H;refine NA (q0l Kr ?_);exact MP ⟨_,_,G,H,gM,gT,hs45⟩
       refine q0x (A:=[.blk bp0 (.cells #[S o54.1,I o54.2] 72)]) (B:=[.blk bk2 (.cells #[S s41,Value.bool b42,v44] 34), .blk bk4 (.cells #[S s46,Value.bool b47,v50] 34),RowS 24 3 xenc24 v50 l49]) (H.pick (L':=[.blk bp0 (.cells #[S o54.1,I o54.2] 72), .blk bk2 (.cells #[S s41,Value.bool b42,v44] 34), .blk bk4 (.cells #[S s46,Value.bool b47,v50] 34),RowS 24 3 xenc24 v50 l49]) Kp) (Y0k hx62) (.left (q0o _)) G ⟨gM,gT,f30_0⟩ (q00 G) G ?_;intro v31 M w its H hle hR;replace gM:=gM.mono hle;replace gT:=gT.mono hle;replace hs45:=hs45.mono hle;try dsimp only at hR
       obtain⟨rfl,rfl⟩:=hR;simp only[l04,l07] at H;refine NA ?_;refine q0R (i:=1) (j:=6) Kr G G ?_ ?_
       ·
        refine ST (XL H Ta30) G ?_;refine NA (q0v (fuel:=0) [6,7,8,9] G Kr (q1J (enc:=xenc24) xty30 ([(s58,s59,s60)]:List (Ls × Ls × Ls)) H (fun _=>G) G Kr G G G (q00 G) G ?_));intro v32 M w H hle hs32;replace gM:=gM.mono hle;replace gT:=gT.mono hle;replace hs45:=hs45.mono hle;refine q2l (l:=l49) xty30 G xone24 H G (fun _=>by repeat first|exact .head|apply Upd.tail) G (hs32) hxl65 (q00 G) G ?_;intro v33 w H;refine ST (q03 Tu34 G Ts30 Dc G) G (q0Q [_,_,_] H G G (H.rowOneS Km) Ku Kf Ts30 (by first|decide|(simp;done)|(simp;omega)) (q00 G) ?_);intro w H;refine NA (q0l Kr ?_);exact MP ⟨_,_,G,H,gM,gT,hs45⟩
       refine q1J (enc:=xenc24) xty30 ([(s58,s59,s60)]:List (Ls × Ls × Ls)) H (fun _=>G) G Kr G G G (q00 G) G ?_;intro v32 M w H hle hs32;replace gM:=gM.mono hle;replace gT:=gT.mono hle;replace hs45:=hs45.mono hle;refine NA (q0v (fuel:=0) [1,7,8,9] G Kr (ST (XL H Ta30) G ?_));refine q2l (l:=l49) xty30 G xone24 H G (fun _=>by repeat first|exact .head|apply Upd.tail) G (hs32) hxl65 (q00 G) G ?_;intro v33 w H;refine ST (q03 Tu34 G Ts30 Dc G) G (q0Q [_,_,_] H G G (H.rowOneS Km) Ku Kf Ts30 (by first|decide|(simp;done)|(simp;omega)) (q00 G) ?_);intro w H;refine NA (q0l Kr ?_);exact MP ⟨_,_,G,H,gM,gT,hs45⟩
      rintro e w ⟨v66,M,rfl,H,gM,gT,hs45⟩;refine TN (SQ (SQ ?_));obtain⟨o70,hx69,e38⟩:=bnd e38;rcases o70 with ⟨b67,o68⟩|n71
      ·
       try dsimp only at e38
       refine RG (MV G G ?_);refine q0x (A:=[.blk bp0 (.cells #[S o61.1,I o61.2] 72)]) (B:=[.blk bk2 (.cells #[S s41,Value.bool b42,v44] 34), .blk bk4 (.cells #[S s46,Value.bool b47,v66] 34),RowS 24 3 xenc24 v66 l65]) (H.pick (L':=[.blk bp0 (.cells #[S o61.1,I o61.2] 72), .blk bk2 (.cells #[S s41,Value.bool b42,v44] 34), .blk bk4 (.cells #[S s46,Value.bool b47,v66] 34),RowS 24 3 xenc24 v66 l65]) Kp) (Y0b hx69) (.left (q0o _)) G trivial (q00 G) G ?_;intro v36 M w its H hle hR;replace gM:=gM.mono hle;replace gT:=gT.mono hle;replace hs45:=hs45.mono hle;try dsimp only at hR
       obtain⟨rfl,rfl⟩:=hR;simp only[l04,l07] at H;refine NL (TN ?_);refine q0k G (fun hk72=>?_) (fun hk72=>?_)
       ·
        subst hk72;rw[if_pos rfl] at e38;refine SQ (RG (ST (q0w H G Km Ta34 Ts34 Kf) G ?_));refine q0c [_,_,_] H G G G Ku Ts34 G Kf (by simp only[l0H,l2d,(H.rowOneS Km).2];rfl) (q00 G) ?_;intro w H;refine NL (TN (RT ?_));obtain⟨M,hle,hs73,H⟩:=H.freezeRowSN (v:=v66) (enc:=xenc24) (t:=24) Kv (fun _=>rfl) ⟨⟨_,Km⟩,trivial⟩;obtain rfl:=oI e38;try dsimp only at h
        obtain rfl:=oI h;exact q1s (its:=[.blk bp0 (.cells #[S o68.1,I o68.2] 72)]) G ⟨_,G,H.loadAgg Km Ta34 Ts34 Kf⟩ H Kp ⟨_,G,hs73,G⟩
       subst hk72;rw[if_neg l06] at e38;refine SK (TN ?_);obtain⟨o76,hx75,e38⟩:=bnd e38;rcases o76 with o74|n77
       ·
        try dsimp only at e38
        refine RG (MV G G ?_);refine q0x (A:=[.blk bp0 (.cells #[S o68.1,I o68.2] 72)]) (B:=[.blk bk2 (.cells #[S s41,Value.bool b42,v44] 34), .blk bk4 (.cells #[S s46,Value.bool b47,v66] 34),RowS 24 3 xenc24 v66 l65]) (H.pick (L':=[.blk bp0 (.cells #[S o68.1,I o68.2] 72), .blk bk2 (.cells #[S s41,Value.bool b42,v44] 34), .blk bk4 (.cells #[S s46,Value.bool b47,v66] 34),RowS 24 3 xenc24 v66 l65]) Kp) (Y0X hx75) (.left (q0o _)) G trivial (q00 G) G ?_;intro v39 M w its H hle hR;replace gM:=gM.mono hle;replace gT:=gT.mono hle;replace hs45:=hs45.mono hle;try dsimp only at hR
        obtain⟨rfl,rfl⟩:=hR;simp only[l04,l07] at H;refine NL (IB ?_);exact AG m51 ⟨_,_,_,_,_,_,_,_,_,_,_,G,H,gM,gT,hs45,e38⟩ (l0b _)
       try dsimp only at e38
       obtain rfl:=oI e38;try dsimp only at h
       obtain rfl:=oI h;refine RG (MV G G ?_);refine q0I (A:=[.blk bp0 (.cells #[S o68.1,I o68.2] 72)]) (B:=[.blk bk2 (.cells #[S s41,Value.bool b42,v44] 34), .blk bk4 (.cells #[S s46,Value.bool b47,v66] 34),RowS 24 3 xenc24 v66 l65]) (H.pick (L':=[.blk bp0 (.cells #[S o68.1,I o68.2] 72), .blk bk2 (.cells #[S s41,Value.bool b42,v44] 34), .blk bk4 (.cells #[S s46,Value.bool b47,v66] 34),RowS 24 3 xenc24 v66 l65]) Kp) (Y0X hx75) (.left (q0o _)) G trivial (q00 G) ?_;intro M w H hle
       (repeat(first|refine q0O ?_|refine q0X ?_|refine q0T ?_|refine q0Y ?_))
       exact q0U H
      try dsimp only at e38
      obtain rfl:=oI e38;try dsimp only at h
      obtain rfl:=oI h;refine RG (MV G G ?_);refine q0I (A:=[.blk bp0 (.cells #[S o61.1,I o61.2] 72)]) (B:=[.blk bk2 (.cells #[S s41,Value.bool b42,v44] 34), .blk bk4 (.cells #[S s46,Value.bool b47,v66] 34),RowS 24 3 xenc24 v66 l65]) (H.pick (L':=[.blk bp0 (.cells #[S o61.1,I o61.2] 72), .blk bk2 (.cells #[S s41,Value.bool b42,v44] 34), .blk bk4 (.cells #[S s46,Value.bool b47,v66] 34),RowS 24 3 xenc24 v66 l65]) Kp) (Y0b hx69) (.left (q0o _)) G trivial (q00 G) ?_;intro M w H hle
      (repeat(first|refine q0O ?_|refine q0X ?_|refine q0T ?_|refine q0Y ?_))
      exact q0U H
     try dsimp only at e38
     obtain rfl:=oI e38;try dsimp only at h
     obtain rfl:=oI h;refine q0H (m:=10) G G H ?_;intro w H;refine TK 0 G (fun _=>q03 Tu34 G Ts30 Dc G) G (TK 2 G (fun _=>q01 G) G (TK 3 G (fun _=>q01 G) G ?_));refine q0R (i:=1) (j:=4) Kr G G ?_ ?_
     ·
      refine ST (XL H Ta30) G ?_;refine NA (q0v (fuel:=4) [4,5] G Kr ?_);refine q0x (A:=[.blk bp0 (.cells #[S s39,I n40] 72)]) (B:=[.blk bk2 (.cells #[S s41,Value.bool b42,v44] 34), .blk bk4 (.cells #[S s46,Value.bool b47,v50] 34),RowS 24 3 xenc24 v50 l49]) (H.pick (L':=[.blk bp0 (.cells #[S s39,I n40] 72), .blk bk2 (.cells #[S s41,Value.bool b42,v44] 34), .blk bk4 (.cells #[S s46,Value.bool b47,v50] 34),RowS 24 3 xenc24 v50 l49]) Kp) (Y09 hx55) (.left (q0o _)) G trivial (q00 G) G ?_;intro v30 M w its H hle hR;replace gM:=gM.mono hle;replace gT:=gT.mono hle;try dsimp only at hR
      obtain⟨x30_0,rfl,f30_0,rfl⟩:=hR;simp only[l04,l07] at H;refine q0I (A:=[.blk bp0 (.cells #[S o54.1,I o54.2] 72)]) (B:=[.blk bk2 (.cells #[S s41,Value.bool b42,v44] 34), .blk bk4 (.cells #[S s46,Value.bool b47,v50] 34),RowS 24 3 xenc24 v50 l49]) (H.pick (L':=[.blk bp0 (.cells #[S o54.1,I o54.2] 72), .blk bk2 (.cells #[S s41,Value.bool b42,v44] 34), .blk bk4 (.cells #[S s46,Value.bool b47,v50] 34),RowS 24 3 xenc24 v50 l49]) Kp) (Y0k hx62) (.left (q0o _)) G ⟨gM,gT,f30_0⟩ (q00 G) ?_;intro M w H hle;refine WQ.pAny (e':=[]) trivial Kr ?_
      (repeat(first|refine q0O ?_|refine q0X ?_|refine q0T ?_|refine q0Y ?_))
      exact q0U H
     refine q0x (A:=[.blk bp0 (.cells #[S s39,I n40] 72)]) (B:=[.blk bk2 (.cells #[S s41,Value.bool b42,v44] 34), .blk bk4 (.cells #[S s46,Value.bool b47,v50] 34),RowS 24 3 xenc24 v50 l49]) (H.pick (L':=[.blk bp0 (.cells #[S s39,I n40] 72), .blk bk2 (.cells #[S s41,Value.bool b42,v44] 34), .blk bk4 (.cells #[S s46,Value.bool b47,v50] 34),RowS 24 3 xenc24 v50 l49]) Kp) (Y09 hx55) (.left (q0o _)) G trivial (q00 G) G ?_;intro v30 M w its H hle hR;replace gM:=gM.mono hle;replace gT:=gT.mono hle;try dsimp only at hR
     obtain⟨x30_0,rfl,f30_0,rfl⟩:=hR;simp only[l04,l07] at H;refine NA ?_;refine q0R (i:=1) (j:=5) Kr G G ?_ ?_
     ·
      refine ST (XL H Ta30) G ?_;refine NA (ON 5 Kr G ?_);refine q0I (A:=[.blk bp0 (.cells #[S o54.1,I o54.2] 72)]) (B:=[.blk bk2 (.cells #[S s41,Value.bool b42,v44] 34), .blk bk4 (.cells #[S s46,Value.bool b47,v50] 34),RowS 24 3 xenc24 v50 l49]) (H.pick (L':=[.blk bp0 (.cells #[S o54.1,I o54.2] 72), .blk bk2 (.cells #[S s41,Value.bool b42,v44] 34), .blk bk4 (.cells #[S s46,Value.bool b47,v50] 34),RowS 24 3 xenc24 v50 l49]) Kp) (Y0k hx62) (.left (q0o _)) G ⟨gM,gT,f30_0⟩ (q00 G) ?_;intro M w H hle;refine WQ.pAny (e':=[]) trivial Kr ?_
      (repeat(first|refine q0O ?_|refine q0X ?_|refine q0T ?_|refine q0Y ?_))
      exact q0U H
     refine q0I (A:=[.blk bp0 (.cells #[S o54.1,I o54.2] 72)]) (B:=[.blk bk2 (.cells #[S s41,Value.bool b42,v44] 34), .blk bk4 (.cells #[S s46,Value.bool b47,v50] 34),RowS 24 3 xenc24 v50 l49]) (H.pick (L':=[.blk bp0 (.cells #[S o54.1,I o54.2] 72), .blk bk2 (.cells #[S s41,Value.bool b42,v44] 34), .blk bk4 (.cells #[S s46,Value.bool b47,v50] 34),RowS 24 3 xenc24 v50 l49]) Kp) (Y0k hx62) (.left (q0o _)) G ⟨gM,gT,f30_0⟩ (q00 G) ?_;intro M w H hle;refine WQ.pAny (e':=[]) trivial Kr ?_
     (repeat(first|refine q0O ?_|refine q0X ?_|refine q0T ?_|refine q0Y ?_))
     exact q0U H
    try dsimp only at e38
    obtain rfl:=oI e38;try dsimp only at h
    obtain rfl:=oI h;refine q0H (m:=10) G G H ?_;intro w H;refine TK 0 G (fun _=>q03 Tu34 G Ts30 Dc G) G (TK 2 G (fun _=>q01 G) G (TK 3 G (fun _=>q01 G) G ?_));refine q0R (i:=1) (j:=4) Kr G G ?_ ?_
    ·
     refine ST (XL H Ta30) G ?_;refine NA (ON 4 Kr G ?_);refine q0I (A:=[.blk bp0 (.cells #[S s39,I n40] 72)]) (B:=[.blk bk2 (.cells #[S s41,Value.bool b42,v44] 34), .blk bk4 (.cells #[S s46,Value.bool b47,v50] 34),RowS 24 3 xenc24 v50 l49]) (H.pick (L':=[.blk bp0 (.cells #[S s39,I n40] 72), .blk bk2 (.cells #[S s41,Value.bool b42,v44] 34), .blk bk4 (.cells #[S s46,Value.bool b47,v50] 34),RowS 24 3 xenc24 v50 l49]) Kp) (Y09 hx55) (.left (q0o _)) G trivial (q00 G) ?_;intro M w H hle;refine WQ.pAny (e':=[]) trivial Kr ?_
     (repeat(first|refine q0O ?_|refine q0X ?_|refine q0T ?_|refine q0Y ?_))
     exact q0U H
    refine q0I (A:=[.blk bp0 (.cells #[S s39,I n40] 72)]) (B:=[.blk bk2 (.cells #[S s41,Value.bool b42,v44] 34), .blk bk4 (.cells #[S s46,Value.bool b47,v50] 34),RowS 24 3 xenc24 v50 l49]) (H.pick (L':=[.blk bp0 (.cells #[S s39,I n40] 72), .blk bk2 (.cells #[S s41,Value.bool b42,v44] 34), .blk bk4 (.cells #[S s46,Value.bool b47,v50] 34),RowS 24 3 xenc24 v50 l49]) Kp) (Y09 hx55) (.left (q0o _)) G trivial (q00 G) ?_;intro M w H hle;refine WQ.pAny (e':=[]) trivial Kr ?_
    (repeat(first|refine q0O ?_|refine q0X ?_|refine q0T ?_|refine q0Y ?_))
    exact q0U H
   try dsimp only at h
   obtain rfl:=oI h;refine RG (MV G G ?_);refine q0I (A:=[.blk bp0 (.cells #[S s23,I n24] 72)]) (B:=[.blk bk2 (.cells #[S [],Value.bool false,Value.slice none 0 0] 34), .blk bk4 (.cells #[S s19,Value.bool true,Value.slice none 0 0] 34)]) (H.pick (L':=[.blk bp0 (.cells #[S s23,I n24] 72), .blk bk2 (.cells #[S [],Value.bool false,Value.slice none 0 0] 34), .blk bk4 (.cells #[S s19,Value.bool true,Value.slice none 0 0] 34)]) Kp) (Y0b hx33) (.left (q0o _)) G trivial (q00 G) ?_;intro M w H hle
   (repeat(first|refine q0O ?_|refine q0X ?_|refine q0T ?_|refine q0Y ?_))
   exact q0U H
  try dsimp only at h
  obtain rfl:=oI h;refine RG (MV G G ?_);refine q0I (A:=[.blk bp0 (.cells #[S o2.1,I o2.2] 72)]) (B:=[.blk bk2 (.cells #[S [],Value.bool false,Value.slice none 0 0] 34)]) (H.pick (L':=[.blk bp0 (.cells #[S o2.1,I o2.2] 72), .blk bk2 (.cells #[S [],Value.bool false,Value.slice none 0 0] 34)]) Kp) (Y0b hx8) (.left (q0o _)) G trivial (q00 G) ?_;intro M w H hle
  (repeat(first|refine q0O ?_|refine q0X ?_|refine q0T ?_|refine q0Y ?_))
  exact q0U H
 try dsimp only at h
 obtain rfl:=oI h;refine RG (MV G G ?_);refine q0I (A:=[.blk bp0 (.cells #[S p0.1,I p0.2] 72)]) (B:=[.blk bk2 (.cells #[S [],Value.bool false,Value.slice none 0 0] 34)]) (H.pick (L':=[.blk bp0 (.cells #[S p0.1,I p0.2] 72), .blk bk2 (.cells #[S [],Value.bool false,Value.slice none 0 0] 34)]) Kp) (Y09 hx3) (.left (q0o _)) G trivial (q00 G) ?_;intro M w H hle
 (repeat(first|refine q0O ?_|refine q0X ?_|refine q0T ?_|refine q0Y ?_))
 exact q0U H
set_option maxHeartbeats 4000000 in
theorem Y30 {p0:Ls} {r:(List (Ls × Bool × List (Ls × Ls × Ls)) × (Int × Int))} (h:Y1f p0=some r):Ct Tryz.prog 19 [S p0] (fun M=>GlF (fun w =>∃m,w.cell? ⟨2,0,none⟩=some (.int .i64 m)) M∧Tabs M) (fun v M =>∃x0,v=Value.tuple #[x0,Value.agg #[I r.2.1,I r.2.2]]∧SlR xrl34 M x0 r.1):=by
 refine Ct.ofD Tryz.func19 (enters Tryz.func19 Kr G) G G G ?_;intro w0 M0 H hp;obtain⟨gM,gT⟩:=hp;unfold Y1f at h;refine SQ (RG (q1z [_] H G G (q00 G) G ?_));intro bk1 w H;refine q0j [_] H Tryz.zeroValue22 G (q00 G) G ?_;intro bk2 w H;refine q0j [_,_] H Tz27 G (q00 G) G ?_;intro bk3 w H;refine NL (TN (SQ (SQ (RG (ST (XL H Ta9) G ?_)))));refine ST (q0g Tu9 G) G (ST (q0E G G) G (NL (TN ?_)));refine CB (p:=(4000:Int)<(p0.length:Int)) G (fun hk1=>?_) fun hk1=>?_
 ·
  rw[if_pos hk1] at h;refine SQ ?_;obtain⟨⟨n2,n3⟩,hx4,h⟩:=bnd h;try dsimp only at h
  refine RG (q05 H (Y07 hx4) G trivial (q00 G) G ?_);intro v9 M w H hle hR;try dsimp only at hR
  obtain rfl:=hR;refine q0Q [_] H G G (q1u _ _ _) Ku Kf Ts22 (by first|decide|(simp;done)|(simp;omega)) (q00 G) ?_;intro w H;refine q0c [_,_] H G G G Ku Ts27 G Kf Kf (q00 G) ?_;intro w H;refine NL (TN (RT ?_));obtain rfl:=oI h;exact WQ.dret2 G ⟨_,G,H.load1 Km Ta22 Kf⟩ ⟨_,G,H.loadAgg Km Ta27 Ts27 Kf⟩ H.ext (⟨_,G,SlR.nil⟩)
 rw[if_neg hk1] at h;refine SK (TN (SQ (RG ?_)));obtain⟨M,hle,hb5,H⟩:=H.freezeVar (b:=bk1) Kv;replace gM:=gM.mono hle;replace gT:=gT.mono hle;refine ST (q1T G) G (WR.deferS (cap:=[ptr bk1 0,ptr bk2 0,ptr bk3 0]) G (q00 G) (NL (TN (SQ (RG (ST (q08 H G (hb5.cell (j:=0) G) Ta9) G (ST (q0N [S p0,I 0] Tu72 Tryz.zeroValue72 (xplaces72 Tu72) G G) G (q1z [_,_] H G G (q00 G) G ?_))))))));intro bk13 w H;refine AS G G (NL (TN (SQ (SQ ?_))));obtain⟨o9,hx8,h⟩:=bnd h;rcases o9 with ⟨n6,o7⟩|n10
 ·
  try dsimp only at h
  refine RG (MV G G ?_);refine q0x (A:=[.blk bk13 (.cells #[S p0,I 0] 72)]) (B:=[.blk bk3 (.cells #[I 0,I 0] 27), .blk bk2 (.cells #[Value.slice none 0 0] 22)]) (H.pick (L':=[.blk bk13 (.cells #[S p0,I 0] 72), .blk bk3 (.cells #[I 0,I 0] 27), .blk bk2 (.cells #[Value.slice none 0 0] 22)]) Kp) (Y0v hx8) (.left (q0o _)) G trivial (q00 G) G ?_;intro v15 M w its H hle hR;replace gM:=gM.mono hle;replace gT:=gT.mono hle;replace hb5:=hb5.mono hle;try dsimp only at hR
  obtain⟨rfl,rfl⟩:=hR;simp only[l04,l07] at H;refine ST (Ex.neqAnyNil Tu20 G) G (NL (TN ?_));obtain⟨o11,e12,h⟩:=bnd h;refine q0h (fun e w =>∃(l14:List (Ls × Bool × List (Ls × Ls × Ls))) (v15:Value) (g16:List (Ls × Bool × Hd)) (M:Mem),e=[(1,ptr bk1 0),(2,ptr bk2 0),(3,ptr bk3 0)]∧St w0 M0 M [.blk bk2 (.cells #[v15] 22),RowS 34 xrl34.k xrl34.enc v15 g16, .blk bk3 (.cells #[I 0,I 0] 27)] w∧GlF (fun w =>∃m,w.cell? ⟨2,0,none⟩=some (.int .i64 m)) M∧Tabs M∧PtM M bk1 (.cells #[S p0] 9)∧RelL xrl34 M g16 l14∧some (.inl l14)=some o11) [] ?_ ?_ (trivial)
  ·
   refine q0k G (fun hk18=>?_) (fun hk18=>?_)
   ·
    replace hk18 :¬(n6=none):=of_not_decide hk18;rw[if_neg hk18] at e12;refine SQ ?_;obtain⟨o24,hx23,e12⟩:=bnd e12;rcases o24 with ⟨⟨s19,b20,l21⟩,o22⟩|n25
    ·
     try dsimp only at e12
     obtain⟨l29,hxl29,e12⟩:=bnd e12;refine q2f (fun e w =>∃(v30:Value) (b31:List (Ls × Bool × Hd)) (M:Mem),e=[(1,ptr bk1 0),(2,ptr bk2 0),(3,ptr bk3 0),(4,ptr bk13 0)]∧St w0 M0 M [.blk bk2 (.cells #[v30] 22),RowS 34 xrl34.k xrl34.enc v30 b31, .blk bk3 (.cells #[I 0,I 0] 27), .blk bk13 (.cells #[S o22.1,I o22.2] 72)] w∧GlF (fun w =>∃m,w.cell? ⟨2,0,none⟩=some (.int .i64 m)) M∧Tabs M∧PtM M bk1 (.cells #[S p0] 9)∧RelL xrl34 M b31 l29) ?_ ?_
     ·
      refine q0H (m:=6) G G H ?_;intro w H;refine TK 1 G (fun _=>q01 G) G ?_;refine q0R (i:=0) (j:=2) Kr G G ?_ ?_
      ·
       refine ST (XL H Ta22) G ?_;refine NA (q0v (fuel:=0) [2,3,4,5] G Kr ?_);refine q0x (A:=[.blk bk13 (.cells #[S o7.1,I o7.2] 72)]) (B:=[.blk bk3 (.cells #[I 0,I 0] 27), .blk bk2 (.cells #[Value.slice none 0 0] 22)]) (H.pick (L':=[.blk bk13 (.cells #[S o7.1,I o7.2] 72), .blk bk3 (.cells #[I 0,I 0] 27), .blk bk2 (.cells #[Value.slice none 0 0] 22)]) Kp) (Y0w hx23) (.left (q0o _)) G ⟨gM,gT⟩ (q00 G) G ?_;intro v19 M w its H hle hR;replace gM:=gM.mono hle;replace gT:=gT.mono hle;replace hb5:=hb5.mono hle;try dsimp only at hR
       obtain⟨x19_0_2,rfl,f19_0_2,rfl⟩:=hR;simp only[l04,l07] at H;obtain⟨q26,rfl⟩:=f19_0_2.hd;refine q1J (enc:=xrl34.enc) xty22 ([(s19,b20,q26)]:List (Ls × Bool × Hd)) H (fun _=>G) G Kr G G G (q00 G) G ?_;intro v20 M w H hle hs20;replace gM:=gM.mono hle;replace gT:=gT.mono hle;replace hb5:=hb5.mono hle;replace f19_0_2:=f19_0_2.mono hle;replace hs20:=SlR.of (R:=xrl34) (l:=([(s19,b20,l21)]:List (Ls × Bool × List (Ls × Ls × Ls)))) hs20 ⟨⟨rfl,rfl,f19_0_2⟩,trivial⟩;replace H:=H.newRowS 34 xrl34.k xrl34.enc;have hr28:RelL xrl34 M [] []:=RelL.nil;refine WR.appRC (R:=xrl34) (l:=[]) xty22 G H hr28 G (fun _=>by repeat first|exact .head|apply Upd.tail) G (hs20) hxl29 (q00 G) G ?_;intro v21 g21 w hr21 H;refine q0Q [_] H G G (H.rowOneS Km) Ku Kf Ts22 (by first|decide|(simp;done)|(simp;omega)) (q00 G) ?_;intro w H;refine NA (q0l Kr ?_);exact MP ⟨_,_,_,G,(H.pick (L':=[.blk bk2 (.cells #[v21] 22),RowS 34 xrl34.k xrl34.enc v21 g21, .blk bk3 (.cells #[I 0,I 0] 27), .blk bk13 (.cells #[S o22.1,I o22.2] 72)]) Kp),gM,gT,hb5,hr21⟩
      refine q0x (A:=[.blk bk13 (.cells #[S o7.1,I o7.2] 72)]) (B:=[.blk bk3 (.cells #[I 0,I 0] 27), .blk bk2 (.cells #[Value.slice none 0 0] 22)]) (H.pick (L':=[.blk bk13 (.cells #[S o7.1,I o7.2] 72), .blk bk3 (.cells #[I 0,I 0] 27), .blk bk2 (.cells #[Value.slice none 0 0] 22)]) Kp) (Y0w hx23) (.left (q0o _)) G ⟨gM,gT⟩ (q00 G) G ?_;intro v19 M w its H hle hR;replace gM:=gM.mono hle;replace gT:=gT.mono hle;replace hb5:=hb5.mono hle;try dsimp only at hR
      obtain⟨x19_0_2,rfl,f19_0_2,rfl⟩:=hR;simp only[l04,l07] at H;refine NA ?_;refine q0R (i:=0) (j:=3) Kr G G ?_ ?_
      ·
       refine ST (XL H Ta22) G ?_;refine NA (q0v (fuel:=0) [3,4,5] G Kr ?_);obtain⟨q26,rfl⟩:=f19_0_2.hd;refine q1J (enc:=xrl34.enc) xty22 ([(s19,b20,q26)]:List (Ls × Bool × Hd)) H (fun _=>G) G Kr G G G (q00 G) G ?_;intro v20 M w H hle hs20;replace gM:=gM.mono hle;replace gT:=gT.mono hle;replace hb5:=hb5.mono hle;replace f19_0_2:=f19_0_2.mono hle;replace hs20:=SlR.of (R:=xrl34) (l:=([(s19,b20,l21)]:List (Ls × Bool × List (Ls × Ls × Ls)))) hs20 ⟨⟨rfl,rfl,f19_0_2⟩,trivial⟩;replace H:=H.newRowS 34 xrl34.k xrl34.enc;have hr28:RelL xrl34 M [] []:=RelL.nil;refine WR.appRC (R:=xrl34) (l:=[]) xty22 G H hr28 G (fun _=>by repeat first|exact .head|apply Upd.tail) G (hs20) hxl29 (q00 G) G ?_;intro v21 g21 w hr21 H;refine q0Q [_] H G G (H.rowOneS Km) Ku Kf Ts22 (by first|decide|(simp;done)|(simp;omega)) (q00 G) ?_;intro w H;refine NA (q0l Kr ?_);exact MP ⟨_,_,_,G,(H.pick (L':=[.blk bk2 (.cells #[v21] 22),RowS 34 xrl34.k xrl34.enc v21 g21, .blk bk3 (.cells #[I 0,I 0] 27), .blk bk13 (.cells #[S o22.1,I o22.2] 72)]) Kp),gM,gT,hb5,hr21⟩
      obtain⟨q26,rfl⟩:=f19_0_2.hd;refine q1J (enc:=xrl34.enc) xty22 ([(s19,b20,q26)]:List (Ls × Bool × Hd)) H (fun _=>G) G Kr G G G (q00 G) G ?_;intro v20 M w H hle hs20;replace gM:=gM.mono hle;replace gT:=gT.mono hle;replace hb5:=hb5.mono hle;replace f19_0_2:=f19_0_2.mono hle;replace hs20:=SlR.of (R:=xrl34) (l:=([(s19,b20,l21)]:List (Ls × Bool × List (Ls × Ls × Ls)))) hs20 ⟨⟨rfl,rfl,f19_0_2⟩,trivial⟩;refine NA (q0v (fuel:=0) [0,4,5] G Kr (ST (XL H Ta22) G ?_));replace H:=H.newRowS 34 xrl34.k xrl34.enc;have hr28:RelL xrl34 M [] []:=RelL.nil;refine WR.appRC (R:=xrl34) (l:=[]) xty22 G H hr28 G (fun _=>by repeat first|exact .head|apply Upd.tail) G (hs20) hxl29 (q00 G) G ?_;intro v21 g21 w hr21 H;refine q0Q [_] H G G (H.rowOneS Km) Ku Kf Ts22 (by first|decide|(simp;done)|(simp;omega)) (q00 G) ?_;intro w H;refine NA (q0l Kr ?_);exact MP ⟨_,_,_,G,(H.pick (L':=[.blk bk2 (.cells #[v21] 22),RowS 34 xrl34.k xrl34.enc v21 g21, .blk bk3 (.cells #[I 0,I 0] 27), .blk bk13 (.cells #[S o22.1,I o22.2] 72)]) Kp),gM,gT,hb5,hr21⟩
     rintro e w ⟨v30,b31,M,rfl,H,gM,gT,hb5,hr32⟩;refine TN (SQ ?_);obtain⟨o33,e34,e12⟩:=bnd e12;refine q0h (fun e w =>∃(l36:List (Ls × Bool × List (Ls × Ls × Ls))) (v37:Value) (g38:List (Ls × Bool × Hd)) (s40:Ls) (n41:Int) (M:Mem),e=[(1,ptr bk1 0),(2,ptr bk2 0),(3,ptr bk3 0),(4,ptr bk13 0)]∧St w0 M0 M [.blk bk2 (.cells #[v37] 22),RowS 34 xrl34.k xrl34.enc v37 g38, .blk bk3 (.cells #[I 0,I 0] 27), .blk bk13 (.cells #[S s40,I n41] 72)] w∧GlF (fun w =>∃m,w.cell? ⟨2,0,none⟩=some (.int .i64 m)) M∧Tabs M∧PtM M bk1 (.cells #[S p0] 9)∧RelL xrl34 M g38 l36∧some (.inl (l36,s40,n41))=some o33) [] ?_ ?_ (trivial)
     ·
      refine BL (q0A (fun m e w =>∃(l43:List (Ls × Bool × List (Ls × Ls × Ls))) (v44:Value) (g45:List (Ls × Bool × Hd)) (s47:Ls) (n48:Int) (M:Mem),e=[(1,ptr bk1 0),(2,ptr bk2 0),(3,ptr bk3 0),(4,ptr bk13 0)]∧St w0 M0 M [.blk bk2 (.cells #[v44] 22),RowS 34 xrl34.k xrl34.enc v44 g45, .blk bk3 (.cells #[I 0,I 0] 27), .blk bk13 (.cells #[S s47,I n48] 72)] w∧GlF (fun w =>∃m,w.cell? ⟨2,0,none⟩=some (.int .i64 m)) M∧Tabs M∧PtM M bk1 (.cells #[S p0] 9)∧RelL xrl34 M g45 l43∧Y1l p0 m l43 s47 n48=some o33) FU [(1,_),(2,_),(3,_),(4,_)] ⟨rfl,rfl,rfl,rfl,trivial⟩ ⟨_,_,_,_,_,_,rfl,H,gM,gT,hb5,hr32,e34⟩ ?_);rintro m49 e w ⟨l43,v44,g45,s47,n48,M,rfl,H,gM,gT,hb5,hs46,e34⟩;rcases m49 with _|m49
      · rw[Y1l] at e34;cases e34
      rw[Y1l] at e34;refine SQ (SQ ?_);obtain⟨o53,hx52,e34⟩:=bnd e34;rcases o53 with ⟨b50,o51⟩|n54
      ·
       try dsimp only at e34
       refine RG (MV G G ?_);refine q0x (A:=[.blk bk13 (.cells #[S s47,I n48] 72)]) (B:=[.blk bk2 (.cells #[v44] 22),RowS 34 xrl34.k xrl34.enc v44 g45, .blk bk3 (.cells #[I 0,I 0] 27)]) (H.pick (L':=[.blk bk13 (.cells #[S s47,I n48] 72), .blk bk2 (.cells #[v44] 22),RowS 34 xrl34.k xrl34.enc v44 g45, .blk bk3 (.cells #[I 0,I 0] 27)]) Kp) (Y0b hx52) (.left (q0o _)) G trivial (q00 G) G ?_;intro v23 M w its H hle hR;replace gM:=gM.mono hle;replace gT:=gT.mono hle;replace hs46:=hs46.mono hle;replace hb5:=hb5.mono hle;try dsimp only at hR
       obtain⟨rfl,rfl⟩:=hR;simp only[l04,l07] at H;refine NL (TN ?_);refine q0k G (fun hk55=>?_) (fun hk55=>?_)
       ·
        subst hk55;rw[if_pos rfl] at e34;refine SK (TN (BL ?_));obtain⟨o61,hx60,e34⟩:=bnd e34;rcases o61 with ⟨⟨s56,b57,l58⟩,o59⟩|n62
        ·
         try dsimp only at e34
         obtain⟨l64,hxl64,e34⟩:=bnd e34;refine q2f (fun e w =>∃(v65:Value) (b66:List (Ls × Bool × Hd)) (M:Mem),e=[(1,ptr bk1 0),(2,ptr bk2 0),(3,ptr bk3 0),(4,ptr bk13 0)]∧St w0 M0 M [.blk bk2 (.cells #[v65] 22),RowS 34 xrl34.k xrl34.enc v65 b66, .blk bk3 (.cells #[I 0,I 0] 27), .blk bk13 (.cells #[S o59.1,I o59.2] 72)] w∧GlF (fun w =>∃m,w.cell? ⟨2,0,none⟩=some (.int .i64 m)) M∧Tabs M∧PtM M bk1 (.cells #[S p0] 9)∧RelL xrl34 M b66 l64) ?_ ?_
         ·
          refine q0H (m:=6) G G H ?_;intro w H;refine TK 1 G (fun _=>q01 G) G ?_;refine q0R (i:=0) (j:=2) Kr G G ?_ ?_
          ·
           refine ST (XL H Ta22) G ?_;refine NA (q0v (fuel:=0) [2,3,4,5] G Kr ?_);refine q0x (A:=[.blk bk13 (.cells #[S o51.1,I o51.2] 72)]) (B:=[.blk bk2 (.cells #[v44] 22),RowS 34 xrl34.k xrl34.enc v44 g45, .blk bk3 (.cells #[I 0,I 0] 27)]) (H.pick (L':=[.blk bk13 (.cells #[S o51.1,I o51.2] 72), .blk bk2 (.cells #[v44] 22),RowS 34 xrl34.k xrl34.enc v44 g45, .blk bk3 (.cells #[I 0,I 0] 27)]) Kp) (Y0w hx60) (.left (q0o _)) G ⟨gM,gT⟩ (q00 G) G ?_;intro v26 M w its H hle hR;replace gM:=gM.mono hle;replace gT:=gT.mono hle;replace hs46:=hs46.mono hle;replace hb5:=hb5.mono hle;try dsimp only at hR
           obtain⟨x26_0_2,rfl,f26_0_2,rfl⟩:=hR;simp only[l04,l07] at H;obtain⟨q63,rfl⟩:=f26_0_2.hd;refine q1J (enc:=xrl34.enc) xty22 ([(s56,b57,q63)]:List (Ls × Bool × Hd)) H (fun _=>G) G Kr G G G (q00 G) G ?_;intro v27 M w H hle hs27;replace gM:=gM.mono hle;replace gT:=gT.mono hle;replace hs46:=hs46.mono hle;replace hb5:=hb5.mono hle;replace f26_0_2:=f26_0_2.mono hle;replace hs27:=SlR.of (R:=xrl34) (l:=([(s56,b57,l58)]:List (Ls × Bool × List (Ls × Ls × Ls)))) hs27 ⟨⟨rfl,rfl,f26_0_2⟩,trivial⟩;refine WR.appRC (R:=xrl34) (l:=l43) xty22 G H hs46 G (fun _=>by repeat first|exact .head|apply Upd.tail) G (hs27) hxl64 (q00 G) G ?_;intro v28 g28 w hr28 H;refine q0Q [_] H G G (H.rowOneS Km) Ku Kf Ts22 (by first|decide|(simp;done)|(simp;omega)) (q00 G) ?_;intro w H;refine NA (q0l Kr ?_);exact MP ⟨_,_,_,G,(H.pick (L':=[.blk bk2 (.cells #[v28] 22),RowS 34 xrl34.k xrl34.enc v28 g28, .blk bk3 (.cells #[I 0,I 0] 27), .blk bk13 (.cells #[S o59.1,I o59.2] 72)]) Kp),gM,gT,hb5,hr28⟩
          refine q0x (A:=[.blk bk13 (.cells #[S o51.1,I o51.2] 72)]) (B:=[.blk bk2 (.cells #[v44] 22),RowS 34 xrl34.k xrl34.enc v44 g45, .blk bk3 (.cells #[I 0,I 0] 27)]) (H.pick (L':=[.blk bk13 (.cells #[S o51.1,I o51.2] 72), .blk bk2 (.cells #[v44] 22),RowS 34 xrl34.k xrl34.enc v44 g45, .blk bk3 (.cells #[I 0,I 0] 27)]) Kp) (Y0w hx60) (.left (q0o _)) G ⟨gM,gT⟩ (q00 G) G ?_;intro v26 M w its H hle hR;replace gM:=gM.mono hle;replace gT:=gT.mono hle;replace hs46:=hs46.mono hle;replace hb5:=hb5.mono hle;try dsimp only at hR
          obtain⟨x26_0_2,rfl,f26_0_2,rfl⟩:=hR;simp only[l04,l07] at H;refine NA ?_;refine q0R (i:=0) (j:=3) Kr G G ?_ ?_
          ·
           refine ST (XL H Ta22) G ?_;refine NA (q0v (fuel:=0) [3,4,5] G Kr ?_);obtain⟨q63,rfl⟩:=f26_0_2.hd;refine q1J (enc:=xrl34.enc) xty22 ([(s56,b57,q63)]:List (Ls × Bool × Hd)) H (fun _=>G) G Kr G G G (q00 G) G ?_;intro v27 M w H hle hs27;replace gM:=gM.mono hle;replace gT:=gT.mono hle;replace hs46:=hs46.mono hle;replace hb5:=hb5.mono hle;replace f26_0_2:=f26_0_2.mono hle;replace hs27:=SlR.of (R:=xrl34) (l:=([(s56,b57,l58)]:List (Ls × Bool × List (Ls × Ls × Ls)))) hs27 ⟨⟨rfl,rfl,f26_0_2⟩,trivial⟩;refine WR.appRC (R:=xrl34) (l:=l43) xty22 G H hs46 G (fun _=>by repeat first|exact .head|apply Upd.tail) G (hs27) hxl64 (q00 G) G ?_;intro v28 g28 w hr28 H;refine q0Q [_] H G G (H.rowOneS Km) Ku Kf Ts22 (by first|decide|(simp;done)|(simp;omega)) (q00 G) ?_;intro w H;refine NA (q0l Kr ?_);exact MP ⟨_,_,_,G,(H.pick (L':=[.blk bk2 (.cells #[v28] 22),RowS 34 xrl34.k xrl34.enc v28 g28, .blk bk3 (.cells #[I 0,I 0] 27), .blk bk13 (.cells #[S o59.1,I o59.2] 72)]) Kp),gM,gT,hb5,hr28⟩
          obtain⟨q63,rfl⟩:=f26_0_2.hd;refine q1J (enc:=xrl34.enc) xty22 ([(s56,b57,q63)]:List (Ls × Bool × Hd)) H (fun _=>G) G Kr G G G (q00 G) G ?_;intro v27 M w H hle hs27;replace gM:=gM.mono hle;replace gT:=gT.mono hle;replace hs46:=hs46.mono hle;replace hb5:=hb5.mono hle;replace f26_0_2:=f26_0_2.mono hle;replace hs27:=SlR.of (R:=xrl34) (l:=([(s56,b57,l58)]:List (Ls × Bool × List (Ls × Ls × Ls)))) hs27 ⟨⟨rfl,rfl,f26_0_2⟩,trivial⟩;refine NA (q0v (fuel:=0) [0,4,5] G Kr (ST (XL H Ta22) G ?_));refine WR.appRC (R:=xrl34) (l:=l43) xty22 G H hs46 G (fun _=>by repeat first|exact .head|apply Upd.tail) G (hs27) hxl64 (q00 G) G ?_;intro v28 g28 w hr28 H;refine q0Q [_] H G G (H.rowOneS Km) Ku Kf Ts22 (by first|decide|(simp;done)|(simp;omega)) (q00 G) ?_;intro w H;refine NA (q0l Kr ?_);exact MP ⟨_,_,_,G,(H.pick (L':=[.blk bk2 (.cells #[v28] 22),RowS 34 xrl34.k xrl34.enc v28 g28, .blk bk3 (.cells #[I 0,I 0] 27), .blk bk13 (.cells #[S o59.1,I o59.2] 72)]) Kp),gM,gT,hb5,hr28⟩
         rintro e w ⟨v65,b66,M,rfl,H,gM,gT,hb5,hr67⟩;refine IB ?_;exact AG m49 ⟨_,_,_,_,_,_,G,H,gM,gT,hb5,hr67,e34⟩ (l0b _)
        try dsimp only at e34
        obtain rfl:=oI e34;try dsimp only at e12
        obtain rfl:=oI e12;try dsimp only at h
        obtain rfl:=oI h;refine q0H (m:=6) G G H ?_;intro w H;refine TK 1 G (fun _=>q01 G) G ?_;refine q0R (i:=0) (j:=2) Kr G G ?_ ?_
        ·
         refine ST (XL H Ta22) G ?_;refine NA (ON 2 Kr G ?_);refine q0I (A:=[.blk bk13 (.cells #[S o51.1,I o51.2] 72)]) (B:=[.blk bk2 (.cells #[v44] 22),RowS 34 xrl34.k xrl34.enc v44 g45, .blk bk3 (.cells #[I 0,I 0] 27)]) (H.pick (L':=[.blk bk13 (.cells #[S o51.1,I o51.2] 72), .blk bk2 (.cells #[v44] 22),RowS 34 xrl34.k xrl34.enc v44 g45, .blk bk3 (.cells #[I 0,I 0] 27)]) Kp) (Y0w hx60) (.left (q0o _)) G ⟨gM,gT⟩ (q00 G) ?_;intro M w H hle;refine WQ.pAny (e':=[(2,ptr bk2 0),(3,ptr bk3 0)]) ⟨G,G,trivial⟩ Kr ?_
         (repeat(first|refine q0O ?_|refine q0X ?_|refine q0T ?_|refine q0Y ?_))
         exact parse_pan (s:=p0) (n:=n62) H Kp (hb5.mono hle) G G (fun M=>⟨_,G,SlR.nil⟩)
        refine q0I (A:=[.blk bk13 (.cells #[S o51.1,I o51.2] 72)]) (B:=[.blk bk2 (.cells #[v44] 22),RowS 34 xrl34.k xrl34.enc v44 g45, .blk bk3 (.cells #[I 0,I 0] 27)]) (H.pick (L':=[.blk bk13 (.cells #[S o51.1,I o51.2] 72), .blk bk2 (.cells #[v44] 22),RowS 34 xrl34.k xrl34.enc v44 g45, .blk bk3 (.cells #[I 0,I 0] 27)]) Kp) (Y0w hx60) (.left (q0o _)) G ⟨gM,gT⟩ (q00 G) ?_;intro M w H hle;refine WQ.pAny (e':=[(2,ptr bk2 0),(3,ptr bk3 0)]) ⟨G,G,trivial⟩ Kr ?_
        (repeat(first|refine q0O ?_|refine q0X ?_|refine q0T ?_|refine q0Y ?_))
        exact parse_pan (s:=p0) (n:=n62) H Kp (hb5.mono hle) G G (fun M=>⟨_,G,SlR.nil⟩)
       subst hk55;rw[if_neg l06] at e34;refine q0m (q06 (q06 (q0d ?_)));exact MN ⟨_,_,_,_,_,_,G,(H.pick (L':=[.blk bk2 (.cells #[v44] 22),RowS 34 xrl34.k xrl34.enc v44 g45, .blk bk3 (.cells #[I 0,I 0] 27), .blk bk13 (.cells #[S o51.1,I o51.2] 72)]) Kp),gM,gT,hb5,hs46,e34⟩
      try dsimp only at e34
      obtain rfl:=oI e34;try dsimp only at e12
      obtain rfl:=oI e12;try dsimp only at h
      obtain rfl:=oI h;refine RG (MV G G ?_);refine q0I (A:=[.blk bk13 (.cells #[S s47,I n48] 72)]) (B:=[.blk bk2 (.cells #[v44] 22),RowS 34 xrl34.k xrl34.enc v44 g45, .blk bk3 (.cells #[I 0,I 0] 27)]) (H.pick (L':=[.blk bk13 (.cells #[S s47,I n48] 72), .blk bk2 (.cells #[v44] 22),RowS 34 xrl34.k xrl34.enc v44 g45, .blk bk3 (.cells #[I 0,I 0] 27)]) Kp) (Y0b hx52) (.left (q0o _)) G trivial (q00 G) ?_;intro M w H hle
      (repeat(first|refine q0O ?_|refine q0X ?_|refine q0T ?_|refine q0Y ?_))
      exact parse_pan (s:=p0) (n:=n54) H Kp (hb5.mono hle) G G (fun M=>⟨_,G,SlR.nil⟩)
     rintro e w ⟨l36,v37,g38,s40,n41,M,rfl,H,gM,gT,hb5,hs39,q68⟩;obtain rfl:=oI q68;try dsimp only at e12
     refine TN (SQ ?_);obtain⟨o72,hx71,e12⟩:=bnd e12;rcases o72 with ⟨n69,o70⟩|n73
     ·
      try dsimp only at e12
      refine RG (MV G G ?_);refine q0x (A:=[.blk bk13 (.cells #[S s40,I n41] 72)]) (B:=[.blk bk2 (.cells #[v37] 22),RowS 34 xrl34.k xrl34.enc v37 g38, .blk bk3 (.cells #[I 0,I 0] 27)]) (H.pick (L':=[.blk bk13 (.cells #[S s40,I n41] 72), .blk bk2 (.cells #[v37] 22),RowS 34 xrl34.k xrl34.enc v37 g38, .blk bk3 (.cells #[I 0,I 0] 27)]) Kp) (Y0v hx71) (.left (q0o _)) G trivial (q00 G) G ?_;intro v30 M w its H hle hR;replace gM:=gM.mono hle;replace gT:=gT.mono hle;replace hs39:=hs39.mono hle;replace hb5:=hb5.mono hle;try dsimp only at hR
      obtain⟨rfl,rfl⟩:=hR;simp only[l04,l07] at H;refine ST (Ex.neqAnyNil Tu20 G) G (NL (TN ?_));refine q0k G (fun hk74=>?_) (fun hk74=>?_)
      ·
       replace hk74 :¬(n69=none):=of_not_decide hk74;rw[if_neg hk74] at e12;obtain⟨o77,hx76,e12⟩:=bnd e12;rcases o77 with o75|n78
       ·
        try dsimp only at e12
        refine RG (MV G G ?_);refine q0x (A:=[.blk bk13 (.cells #[S o70.1,I o70.2] 72)]) (B:=[.blk bk2 (.cells #[v37] 22),RowS 34 xrl34.k xrl34.enc v37 g38, .blk bk3 (.cells #[I 0,I 0] 27)]) (H.pick (L':=[.blk bk13 (.cells #[S o70.1,I o70.2] 72), .blk bk2 (.cells #[v37] 22),RowS 34 xrl34.k xrl34.enc v37 g38, .blk bk3 (.cells #[I 0,I 0] 27)]) Kp) (Y03 hx76) (.left (q0o _)) G trivial (q00 G) G ?_;intro v33 M w its H hle hR;replace gM:=gM.mono hle;replace gT:=gT.mono hle;replace hs39:=hs39.mono hle;replace hb5:=hb5.mono hle;try dsimp only at hR
        obtain⟨rfl,rfl⟩:=hR;simp only[l04,l07] at H;refine NL ?_;exact MN ⟨_,_,_,_,G,(H.pick (L':=[.blk bk2 (.cells #[v37] 22),RowS 34 xrl34.k xrl34.enc v37 g38, .blk bk3 (.cells #[I 0,I 0] 27)]) Kp),gM,gT,hb5,hs39,e12⟩
       try dsimp only at e12
       obtain rfl:=oI e12;try dsimp only at h
       obtain rfl:=oI h;refine RG (MV G G ?_);refine q0I (A:=[.blk bk13 (.cells #[S o70.1,I o70.2] 72)]) (B:=[.blk bk2 (.cells #[v37] 22),RowS 34 xrl34.k xrl34.enc v37 g38, .blk bk3 (.cells #[I 0,I 0] 27)]) (H.pick (L':=[.blk bk13 (.cells #[S o70.1,I o70.2] 72), .blk bk2 (.cells #[v37] 22),RowS 34 xrl34.k xrl34.enc v37 g38, .blk bk3 (.cells #[I 0,I 0] 27)]) Kp) (Y03 hx76) (.left (q0o _)) G trivial (q00 G) ?_;intro M w H hle
       (repeat(first|refine q0O ?_|refine q0X ?_|refine q0T ?_|refine q0Y ?_))
       exact parse_pan (s:=p0) (n:=n78) H Kp (hb5.mono hle) G G (fun M=>⟨_,G,SlR.nil⟩)
      replace hk74:n69=none:=of_not_decide' hk74;rw[if_pos hk74] at e12;refine SK ?_;exact MN ⟨_,_,_,_,G,(H.pick (L':=[.blk bk2 (.cells #[v37] 22),RowS 34 xrl34.k xrl34.enc v37 g38, .blk bk3 (.cells #[I 0,I 0] 27)]) Kp),gM,gT,hb5,hs39,e12⟩
     try dsimp only at e12
     obtain rfl:=oI e12;try dsimp only at h
     obtain rfl:=oI h;refine RG (MV G G ?_);refine q0I (A:=[.blk bk13 (.cells #[S s40,I n41] 72)]) (B:=[.blk bk2 (.cells #[v37] 22),RowS 34 xrl34.k xrl34.enc v37 g38, .blk bk3 (.cells #[I 0,I 0] 27)]) (H.pick (L':=[.blk bk13 (.cells #[S s40,I n41] 72), .blk bk2 (.cells #[v37] 22),RowS 34 xrl34.k xrl34.enc v37 g38, .blk bk3 (.cells #[I 0,I 0] 27)]) Kp) (Y0v hx71) (.left (q0o _)) G trivial (q00 G) ?_;intro M w H hle
     (repeat(first|refine q0O ?_|refine q0X ?_|refine q0T ?_|refine q0Y ?_))
     exact parse_pan (s:=p0) (n:=n73) H Kp (hb5.mono hle) G G (fun M=>⟨_,G,SlR.nil⟩)
    try dsimp only at e12
    obtain rfl:=oI e12;try dsimp only at h
    obtain rfl:=oI h;refine q0H (m:=6) G G H ?_;intro w H;refine TK 1 G (fun _=>q01 G) G ?_;refine q0R (i:=0) (j:=2) Kr G G ?_ ?_
    ·
     refine ST (XL H Ta22) G ?_;refine NA (ON 2 Kr G ?_);refine q0I (A:=[.blk bk13 (.cells #[S o7.1,I o7.2] 72)]) (B:=[.blk bk3 (.cells #[I 0,I 0] 27), .blk bk2 (.cells #[Value.slice none 0 0] 22)]) (H.pick (L':=[.blk bk13 (.cells #[S o7.1,I o7.2] 72), .blk bk3 (.cells #[I 0,I 0] 27), .blk bk2 (.cells #[Value.slice none 0 0] 22)]) Kp) (Y0w hx23) (.left (q0o _)) G ⟨gM,gT⟩ (q00 G) ?_;intro M w H hle;refine WQ.pAny (e':=[(2,ptr bk2 0),(3,ptr bk3 0)]) ⟨G,G,trivial⟩ Kr ?_
     (repeat(first|refine q0O ?_|refine q0X ?_|refine q0T ?_|refine q0Y ?_))
     exact parse_pan (s:=p0) (n:=n25) H Kp (hb5.mono hle) G G (fun M=>⟨_,G,SlR.nil⟩)
    refine q0I (A:=[.blk bk13 (.cells #[S o7.1,I o7.2] 72)]) (B:=[.blk bk3 (.cells #[I 0,I 0] 27), .blk bk2 (.cells #[Value.slice none 0 0] 22)]) (H.pick (L':=[.blk bk13 (.cells #[S o7.1,I o7.2] 72), .blk bk3 (.cells #[I 0,I 0] 27), .blk bk2 (.cells #[Value.slice none 0 0] 22)]) Kp) (Y0w hx23) (.left (q0o _)) G ⟨gM,gT⟩ (q00 G) ?_;intro M w H hle;refine WQ.pAny (e':=[(2,ptr bk2 0),(3,ptr bk3 0)]) ⟨G,G,trivial⟩ Kr ?_
    (repeat(first|refine q0O ?_|refine q0X ?_|refine q0T ?_|refine q0Y ?_))
    exact parse_pan (s:=p0) (n:=n25) H Kp (hb5.mono hle) G G (fun M=>⟨_,G,SlR.nil⟩)
   replace hk18:n6=none:=of_not_decide' hk18;rw[if_pos hk18] at e12;refine SK ?_;replace H:=H.newRowS 34 xrl34.k xrl34.enc;have hr82:RelL xrl34 M [] []:=RelL.nil;exact MN ⟨_,_,_,_,G,(H.pick (L':=[.blk bk2 (.cells #[(Value.slice none 0 0)] 22),RowS 34 xrl34.k xrl34.enc (Value.slice none 0 0) ([]:List (Ls × Bool × Hd)), .blk bk3 (.cells #[I 0,I 0] 27)]) Kp),gM,gT,hb5,hr82,e12⟩
  rintro e w ⟨l14,v15,g16,M,rfl,H,gM,gT,hb5,hs17,q83⟩;obtain rfl:=oI q83;try dsimp only at h
  refine TN (SQ (SQ ?_));obtain⟨⟨n85,n86⟩,hx87,h⟩:=bnd h;try dsimp only at h
  refine RG (ST (XL H Ta22) G ?_);obtain⟨M,hle,hs84,H⟩:=H.freezeRowS (v:=v15) (enc:=xrl34.enc) (t:=34) Kv (fun _=>rfl);replace gM:=gM.mono hle;replace gT:=gT.mono hle;replace hs17:=hs17.mono hle;replace hb5:=hb5.mono hle;replace hs84:=SlR.of (R:=xrl34) hs84 hs17;refine q05 H (Y2z hx87) G ⟨gM,gT,hs84⟩ (q00 G) G ?_;intro v35 M w H hle hR;replace gM:=gM.mono hle;replace gT:=gT.mono hle;replace hb5:=hb5.mono hle;replace hs84:=hs84.mono hle;try dsimp only at hR
  obtain rfl:=hR;refine q0j [_,_] H Tz27 G (q00 G) G ?_;intro bk5 w H;refine q0c [_,_] H G G G Ku Ts27 G Kf Kf (q00 G) ?_;intro w H;refine NL (TN (SQ ?_));obtain⟨b88,hx89,h⟩:=bnd h;refine RG (ST (q0w H G Km Ta27 Ts27 Kf) G ?_);refine q05 H (Y2t hx89) G trivial (q00 G) G ?_;intro v37 M w H hle hR;replace gM:=gM.mono hle;replace gT:=gT.mono hle;replace hs84:=hs84.mono hle;replace hb5:=hb5.mono hle;obtain rfl:=hR;refine NL (TN ?_);refine q0k G (fun hk90=>?_) (fun hk90=>?_)
  ·
   subst hk90;rw[if_pos rfl] at h;refine SQ ?_;obtain⟨⟨n91,n92⟩,hx93,h⟩:=bnd h;try dsimp only at h
   refine RG (ST (q03 Tu27 G Ts3 Dc G) G (ST (XL H Ta3) G ?_));refine q05 H (Y07 hx93) G trivial (q00 G) G ?_;intro v40 M w H hle hR;try dsimp only at hR
   obtain rfl:=hR;refine q0Q [_] H G G (q1u _ _ _) Ku Kf Ts22 (by first|decide|(simp;done)|(simp;omega)) (q00 G) ?_;intro w H;refine q0c [_,_] H G G G Ku Ts27 G Kf Kf (q00 G) ?_;intro w H;refine NL (TN (RT ?_));obtain rfl:=oI h;exact WQ.dretD2 G ⟨_,G,H.load1 Km Ta22 Kf⟩ ⟨_,G,H.loadAgg Km Ta27 Ts27 Kf⟩ H.ext (fun _ hK=>parse_ret hK) (⟨_,G,SlR.nil⟩)
  subst hk90;rw[if_neg l06] at h;refine SK (TN (SQ ?_));obtain⟨⟨n94,n95⟩,hx96,h⟩:=bnd h;try dsimp only at h
  refine q2f (fun e w =>∃  (M:Mem),e=[(1,ptr bk1 0),(2,ptr bk2 0),(3,ptr bk3 0)]∧St w0 M0 M [.blk bk2 (.cells #[v15] 22), .blk bk3 (.cells #[I n94,I n95] 27)] w∧GlF (fun w =>∃m,w.cell? ⟨2,0,none⟩=some (.int .i64 m)) M∧Tabs M∧PtM M bk1 (.cells #[S p0] 9)∧SlR xrl34 M v15 l14) ?_ ?_
  ·
   refine q0H (m:=4) G G H ?_;intro w H;refine q0R (i:=0) (j:=1) Kr G G ?_ ?_
   ·
    refine ST (XL H Ta22) G ?_;refine NA (q0v (fuel:=0) [1,2,3] G Kr (q05 H (Y0L hx96) G trivial (q00 G) G ?_));intro v42 M w H hle hR;replace gM:=gM.mono hle;replace gT:=gT.mono hle;replace hs84:=hs84.mono hle;replace hb5:=hb5.mono hle;try dsimp only at hR
    obtain rfl:=hR;refine q0Q [_] H G G (hs84.one) Ku Kf Ts22 (by first|decide|(simp;done)|(simp;omega)) (q00 G) ?_;intro w H;refine q0c [_,_] H G G G Ku Ts27 G Kf Kf (q00 G) ?_;intro w H;refine NA (q0l Kr ?_);exact MP ⟨_,G,(H.pick (L':=[.blk bk2 (.cells #[v15] 22), .blk bk3 (.cells #[I n94,I n95] 27)]) Kp),gM,gT,hb5,hs84⟩
   refine q05 H (Y0L hx96) G trivial (q00 G) G ?_;intro v42 M w H hle hR;replace gM:=gM.mono hle;replace gT:=gT.mono hle;replace hs84:=hs84.mono hle;replace hb5:=hb5.mono hle;try dsimp only at hR
   obtain rfl:=hR;refine NA (q0v (fuel:=0) [0,2,3] G Kr (ST (XL H Ta22) G ?_));refine q0Q [_] H G G (hs84.one) Ku Kf Ts22 (by first|decide|(simp;done)|(simp;omega)) (q00 G) ?_;intro w H;refine q0c [_,_] H G G G Ku Ts27 G Kf Kf (q00 G) ?_;intro w H;refine NA (q0l Kr ?_);exact MP ⟨_,G,(H.pick (L':=[.blk bk2 (.cells #[v15] 22), .blk bk3 (.cells #[I n94,I n95] 27)]) Kp),gM,gT,hb5,hs84⟩
  rintro e w ⟨M,rfl,H,gM,gT,hb5,hs84⟩;refine TN (RT ?_);obtain rfl:=oI h;exact WQ.dretD2 G ⟨_,G,H.load1 Km Ta22 Kf⟩ ⟨_,G,H.loadAgg Km Ta27 Ts27 Kf⟩ H.ext (fun _ hK=>parse_ret hK) (⟨_,G,hs84⟩)
 try dsimp only at h
 obtain rfl:=oI h;refine RG (MV G G ?_);refine q0I (A:=[.blk bk13 (.cells #[S p0,I 0] 72)]) (B:=[.blk bk3 (.cells #[I 0,I 0] 27), .blk bk2 (.cells #[Value.slice none 0 0] 22)]) (H.pick (L':=[.blk bk13 (.cells #[S p0,I 0] 72), .blk bk3 (.cells #[I 0,I 0] 27), .blk bk2 (.cells #[Value.slice none 0 0] 22)]) Kp) (Y0v hx8) (.left (q0o _)) G trivial (q00 G) ?_;intro M w H hle
 (repeat(first|refine q0O ?_|refine q0X ?_|refine q0T ?_|refine q0Y ?_))
 exact parse_pan (s:=p0) (n:=n10) H Kp (hb5.mono hle) G G (fun M=>⟨_,G,SlR.nil⟩)
theorem Y42 {p0:(Ls × Ls × Ls)}{r:(Ls × (Int × Int))}(h:Y2V p0=some r):Ct Tryz.prog 23 [Value.agg #[S p0.1,S p0.2.1,S p0.2.2]] (fun M=>GlF (fun w =>∃m,w.cell? ⟨2,0,none⟩=some (.int .i64 m)) M∧Tabs M) (fun v M=>v=Value.tuple #[S r.1,Value.agg #[I r.2.1,I r.2.2]]):=by
 refine Ct.of Tryz.func23 (enters Tryz.func23 Kr G) G G G ?_;intro w0 M0 H hp;obtain⟨gM,gT⟩:=hp;unfold Y2V at h;refine SQ (RG (q1z [_,_,_] H G G (q00 G) G ?_));intro bk1 w H;refine AS G G (q0j [_,_] H Tz27 G (q00 G) G ?_);intro bk3 w H;refine NL (TN (SQ (SQ ?_)));obtain⟨⟨n1,n2⟩,hx3,h⟩:=bnd h;try dsimp only at h
 refine RG (ST (q0w H G Km Ta24 Ts24 Kf) G ?_);refine q05 H (Y1s hx3) G ⟨gM,gT⟩ (q00 G) G ?_;intro v6 M w H hle hR;replace gM:=gM.mono hle;replace gT:=gT.mono hle;try dsimp only at hR
 obtain rfl:=hR;refine q0j [_,_] H Tz27 G (q00 G) G ?_;intro bk4 w H;refine q0c [_,_] H G G G Ku Ts27 G Kf Kf (q00 G) ?_;intro w H;refine NL (TN (SQ ?_));obtain⟨b4,hx5,h⟩:=bnd h;refine RG (ST (q0w H G Km Ta27 Ts27 Kf) G ?_);refine q05 H (Y2t hx5) G trivial (q00 G) G ?_;intro v8 M w H hle hR;replace gM:=gM.mono hle;replace gT:=gT.mono hle;obtain rfl:=hR;refine NL (TN ?_);refine q0k G (fun hk6=>?_) (fun hk6=>?_)
 ·
  subst hk6;rw[if_pos rfl] at h;refine SQ (q0H (m:=3) G G H ?_);intro w H;refine TK 1 G (fun _=>Ex.assign G) G (q0v (fuel:=0) [0,2] G Kr (ST (q0w H G Km Ta27 Ts27 Kf) G ?_));refine q0c [_,_] H G G G Ku Ts27 G Kf Kf (q00 G) ?_;intro w H;refine NA (q0l Kr (TN (RT ?_)));obtain rfl:=oI h;exact q0y G G ⟨_,G,H.loadAgg Km Ta27 Ts27 Kf⟩ H.ext G
 subst hk6;rw[if_neg l06] at h;refine SK (TN (SQ ?_));obtain⟨s7,hx8,h⟩:=bnd h;refine RG (ST (q03 Tu24 G Ts9 Dc G) G (ST (XL H Ta9) G ?_));refine q05 H (Y54 hx8) G trivial (q00 G) G ?_;intro v12 M w H hle hR;replace gM:=gM.mono hle;replace gT:=gT.mono hle;obtain rfl:=hR;refine ST (q03 Tu24 G Ts9 Dc G) G (q1y [_,_,_] H G G Ku Kf Ts9 (by first|decide|(simp;done)|(simp;omega)) Kf Kf (q00 G) ?_);intro w H;refine NL (TN (SQ ?_));obtain⟨s9,hx10,h⟩:=bnd h;obtain⟨⟨n11,n12⟩,hx13,h⟩:=bnd h;try dsimp only at h
 refine RG (ST (q0w H G Km Ta24 Ts24 Kf) G ?_);refine q05 H (Y1I hx10) G ⟨gM,gT⟩ (q00 G) G ?_;intro v15 M w H hle hR;obtain rfl:=hR;refine q05 H (Y0L hx13) G trivial (q00 G) G ?_;intro v16 M w H hle hR;try dsimp only at hR
 obtain rfl:=hR;refine AS G G (q0c [_,_] H G G G Ku Ts27 G Kf Kf (q00 G) ?_);intro w H;refine NL (TN (RT ?_));obtain rfl:=oI h;exact q0y G G ⟨_,G,H.loadAgg Km Ta27 Ts27 Kf⟩ H.ext G
theorem Y4o {p0:List (Ls × Bool × List (Ls × Ls × Ls))}{vp0:Value}{r:(List (Ls × Ls × Ls) × (Int × Int))}(h:Y3i p0=some r):Ct Tryz.prog 14 [vp0] (fun M=>GlF (fun w =>∃m,w.cell? ⟨2,0,none⟩=some (.int .i64 m)) M∧Tabs M∧SlR xrl34 M vp0 p0) (fun v M =>∃x0,v=Value.tuple #[x0,Value.agg #[I r.2.1,I r.2.2]]∧SlS M 3 xenc24 x0 r.1):=by
 refine Ct.of Tryz.func14 (enters Tryz.func14 Kr G) G G G ?_;intro w0 M0 H hp;obtain⟨gM,gT,hp0⟩:=hp;unfold Y3i at h;refine SQ (RG (AS G G (q0j [_,_] H Tz27 G (q00 G) G ?_)));intro bk3 w H;refine NL (TN (SQ (SQ ?_)));obtain⟨⟨n1,n2⟩,hx3,h⟩:=bnd h;try dsimp only at h
 refine RG (MV G G (q05 H (Y2z hx3) G ⟨gM,gT,hp0⟩ (q00 G) G ?_));intro v9 M w H hle hR;replace gM:=gM.mono hle;replace gT:=gT.mono hle;replace hp0:=hp0.mono hle;try dsimp only at hR
 obtain rfl:=hR;refine q0j [_,_] H Tz27 G (q00 G) G ?_;intro bk4 w H;refine q0c [_,_] H G G G Ku Ts27 G Kf Kf (q00 G) ?_;intro w H;refine NL (TN (SQ ?_));obtain⟨b4,hx5,h⟩:=bnd h;refine RG (ST (q0w H G Km Ta27 Ts27 Kf) G ?_);refine q05 H (Y2t hx5) G trivial (q00 G) G ?_;intro v11 M w H hle hR;replace gM:=gM.mono hle;replace gT:=gT.mono hle;replace hp0:=hp0.mono hle;obtain rfl:=hR;refine NL (TN ?_);refine q0k G (fun hk6=>?_) (fun hk6=>?_)
 ·
  subst hk6;rw[if_pos rfl] at h;refine SQ (q0H (m:=3) G G H ?_);intro w H;refine TK 1 G (fun _=>Ex.assign G) G (q0v (fuel:=0) [0,2] G Kr (ST (q0w H G Km Ta27 Ts27 Kf) G ?_));refine q0c [_,_] H G G G Ku Ts27 G Kf Kf (q00 G) ?_;intro w H;refine NA (q0l Kr (TN (RT ?_)));obtain rfl:=oI h;exact q0y G G ⟨_,G,H.loadAgg Km Ta27 Ts27 Kf⟩ H.ext (⟨_,G,(SlS.nil _ _ (fun _=>G))⟩)
 subst hk6;rw[if_neg l06] at h;refine SK (TN (SQ (RG (AS G G (NL (TN (SQ (SQ (RG (MV G G (ST (q1v Tu22 hp0 G) G (MV G G (NL (TN ?_))))))))))))));obtain⟨o7,e8,h⟩:=bnd h;refine q0h (fun e w =>∃(l10:List (Ls × Ls × Ls)) (v11:Value) (M:Mem),e=[(3,ptr bk3 0),(5,v11)]∧St w0 M0 M [.blk bk3 (.cells #[I 0,I 0] 27),RowS 24 3 xenc24 v11 l10] w∧GlF (fun w =>∃m,w.cell? ⟨2,0,none⟩=some (.int .i64 m)) M∧Tabs M∧some l10=some o7) [] ?_ ?_ (trivial)
 ·
  refine BL ?_;replace H:=H.newRowS 24 3 xenc24;refine q0A (fun m e w =>∃(l13:List (Ls × Ls × Ls)) (v14:Value) (n15:Int) (M:Mem),e=[(3,ptr bk3 0),(5,v14),(13,vp0),(14,I (p0.length:Int)),(15,I n15)]∧St w0 M0 M [.blk bk3 (.cells #[I 0,I 0] 27),RowS 24 3 xenc24 v14 l13] w∧GlF (fun w =>∃m,w.cell? ⟨2,0,none⟩=some (.int .i64 m)) M∧Tabs M∧SlR xrl34 M vp0 p0∧Y1Z p0 m l13 n15=some o7) FU [(3,_),(5,_),(13,_),(14,_),(15,_)] ⟨rfl,rfl,rfl,rfl,rfl,trivial⟩ ⟨_,_,_,_,rfl,(H.pick (L':=[.blk bk3 (.cells #[I 0,I 0] 27),RowS 24 3 xenc24 (Value.slice none 0 0) []]) Kp),gM,gT,hp0,e8⟩ ?_;rintro m16 e w ⟨l13,v14,n15,M,rfl,H,gM,gT,hp0,e8⟩;rcases m16 with _|m16
  · rw[Y1Z] at e8;cases e8
  rw[Y1Z] at e8;refine SQ (RG (ST (q0n G G) G (NL (TN (SQ ?_)))));refine CB (p:=n15<(p0.length:Int)) G (fun hk18=>?_) fun hk18=>?_
  ·
   rw[if_pos hk18] at e8;refine SK (TN (SQ (BL (SQ ?_))));obtain⟨a19,hxa19,e8⟩:=bnd e8;obtain⟨bk17,o17,fq17,ha17,hc17,hr17⟩:=hp0.atC hxa19;obtain⟨f17_0,f17_1,q17_2⟩:=fq17;replace hr17:f17_0=a19.1∧f17_1=a19.2.1∧SlS M 3 xenc24 (hv q17_2) a19.2.2:=hr17;obtain⟨rfl,rfl,hs17_2⟩:=hr17;refine RG (ST (q0u ha17 Tu22 Ts34 G G) G (ST (q1i H G hc17 Ta34 Ts34 Kf) G ?_));refine q0j [_,_,_] H Tz34 G (q00 G) G ?_;intro bk7 w H;refine q0c [_,_,_] H G G G Ku Ts34 G Kf (by simp only[l0H,l2d,(hs17_2).one.2];rfl) (q00 G) ?_;intro w H;refine NL (TN ?_);obtain⟨l20,hx21,e8⟩:=bnd e8;obtain⟨l22,hxl22,e8⟩:=bnd e8;refine RG (MV G G (ST (q03 Tu34 G Ts30 Dc G) G (ST (XL H Ta30) G ?_)));refine q05 H (Y45 hx21) G (hs17_2) (q00 G) G ?_;intro v22 M w H hle hR;replace gM:=gM.mono hle;replace gT:=gT.mono hle;replace hp0:=hp0.mono hle;have f22_0:=hR;refine q2l (l:=l13) xty30 G xone24 H G (fun _=>by repeat first|exact .head|apply Upd.tail) G (f22_0) hxl22 (q00 G) G ?_;intro v23 w H;refine AS G G (NL (IB (TN ?_)));obtain⟨n23,hxn23,e8⟩:=bnd e8;refine RG (ST (q0p G G hxn23) G (MV G G (NL ?_)));exact AG m16 ⟨_,_,_,_,G,(H.pick (L':=[.blk bk3 (.cells #[I 0,I 0] 27),RowS 24 3 xenc24 v23 l22]) Kp),gM,gT,hp0,e8⟩ (l0b _)
  rw[if_neg hk18] at e8;refine q0m (q06 (q06 (q0d ?_)));exact MN ⟨_,_,_,G,H,gM,gT,e8⟩
 rintro e w ⟨l10,v11,M,rfl,H,gM,gT,q24⟩;obtain rfl:=oI q24;refine TN (SQ ?_);obtain⟨⟨n25,n26⟩,hx27,h⟩:=bnd h;try dsimp only at h
 refine RG (MV G G (q05 H (Y0L hx27) G trivial (q00 G) G ?_));intro v26 M w H hle hR;try dsimp only at hR
 obtain rfl:=hR;refine AS G G (q0c [_,_] H G G G Ku Ts27 G Kf Kf (q00 G) ?_);intro w H;refine NL (TN (RT ?_));obtain⟨M,hle,hs28,H⟩:=H.freezeRowS (v:=v11) (enc:=xenc24) (t:=24) Kv (fun _=>rfl);obtain rfl:=oI h;exact q0y G G ⟨_,G,H.loadAgg Km Ta27 Ts27 Kf⟩ H.ext (⟨_,G,hs28⟩)
end Go.Proofs.YtkmjdamkifbddaaGreatDoor
end
