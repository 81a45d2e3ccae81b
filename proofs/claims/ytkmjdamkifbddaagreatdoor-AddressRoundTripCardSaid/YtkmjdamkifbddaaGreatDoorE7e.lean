/-
  Fct5, Fct6, Fct7, AaF, AbF, AcF, AdF, RqF, AeF, B64Law, Wa, Wb, Wc, Wd, We, Wf, Wg, AgF: own texts of this repository (wip/tpl, wip/plans), merged and shaken by wip/tools/pack.py.
-/
import Derived.KernelRfl
import Derived.Lib.CountLaws
import Derived.Test.YtkmjdamkifbddaaGreatDoorE7d
set_option maxRecDepth 100000
set_option linter.unusedVariables false
set_option linter.unusedSimpArgs false
section
namespace Go.Proofs.YtkmjdamkifbddaaGreatDoor
open Go Go.RowKit Go.Ph Go.Ph.Pl Go.Ph.Pf
set_option maxHeartbeats 4000000 in
theorem Y2x  {r:Bool} (h:Y0B=some r):Ct Tryz.prog 9 [] (fun M=>GlF (fun w =>∃m,w.cell? ⟨2,0,none⟩=some (.int .i64 m)) M∧Tabs M) (fun v M=>v=Value.bool r):=by
 refine Ct.of Tryz.func9 (enters Tryz.func9 Kr G) G G G ?_;intro w0 M0 H hp;obtain⟨gM,gT⟩:=hp;unfold Y0B at h;refine SQ (RG (AS G G (NL (TN (SQ ?_)))));obtain⟨⟨s2,⟨n3,n4⟩⟩,hx5,h⟩:=bnd h;try dsimp only at h
 refine RG (ST (q0N [S [65,46,32,66],S [97],S [120]] Tu24 Tz24 (xplaces24 Tu24) G G) G (q1J (enc:=xenc24) xty30 ([([65,46,32,66],[97],[120])]:List (Ls × Ls × Ls)) H (fun _=>G) G Kr G G G (q00 G) G ?_));intro v11 M w H hle hs11;replace gM:=gM.mono hle;replace gT:=gT.mono hle;refine ST (q0N [S [],Value.bool false,v11] Tu34 Tz34 (xplaces34 Tu34) G (by obtain⟨_,_,_,hv,-⟩:=hs11;rw [hv];clear hv;rfl)) G ?_;obtain⟨q1,rfl⟩:=hs11.hd;refine q1J (enc:=xrl34.enc) xty22 ([([],false,q1)]:List (Ls × Bool × Hd)) H (fun _=>G) G Kr G G G (q00 G) G ?_;intro v13 M w H hle hs13;replace gM:=gM.mono hle;replace gT:=gT.mono hle;replace hs11:=hs11.mono hle;replace hs13:=SlR.of (R:=xrl34) (l:=([([],false,([([65,46,32,66],[97],[120])]:List (Ls × Ls × Ls)))]:List (Ls × Bool × List (Ls × Ls × Ls)))) hs13 ⟨⟨rfl,rfl,hs11⟩,trivial⟩;refine q05 H (Y3u hx5) G ⟨gM,gT,hs13⟩ (q00 G) G ?_;intro v14 M w H hle hR;replace gM:=gM.mono hle;replace gT:=gT.mono hle;try dsimp only at hR
 obtain rfl:=hR;refine MV G G (ST (q0b G G) G (ST (q0b G G) G (q0j [_,_] H Tz27 G (q00 G) G ?_)));intro bk2 w H;refine AS G G (q0c [_,_] H G G G Ku Ts27 G Kf Kf (q00 G) ?_);intro w H;refine NL (TN (SQ ?_));obtain⟨⟨l6,⟨n7,n8⟩⟩,hx9,h⟩:=bnd h;try dsimp only at h
 refine RG (q05 H (Y30 hx9) G ⟨gM,gT⟩ (q00 G) G ?_);intro v18 M w H hle hR;replace gM:=gM.mono hle;replace gT:=gT.mono hle;try dsimp only at hR
 obtain⟨x18_0,rfl,f18_0⟩:=hR;refine MV G G (ST (q0b G G) G (ST (q0b G G) G (q0j [_,_] H Tz27 G (q00 G) G ?_)));intro bk4 w H;refine AS G G (q0c [_,_] H G G G Ku Ts27 G Kf Kf (q00 G) ?_);intro w H;refine NL (TN (SQ ?_));obtain⟨⟨s10,⟨n11,n12⟩⟩,hx13,h⟩:=bnd h;try dsimp only at h
 refine RG (ST (q0N [S [],S [65],S [88,46,69,120,97,109,112,108,101]] Tu24 Tz24 (xplaces24 Tu24) G G) G (q05 H (Y42 hx13) G ⟨gM,gT⟩ (q00 G) G ?_));intro v23 M w H hle hR;replace gM:=gM.mono hle;replace gT:=gT.mono hle;replace f18_0:=f18_0.mono hle;try dsimp only at hR
 obtain rfl:=hR;refine MV G G (ST (q0b G G) G (ST (q0b G G) G (q0j [_,_] H Tz27 G (q00 G) G ?_)));intro bk6 w H;refine AS G G (q0c [_,_] H G G G Ku Ts27 G Kf Kf (q00 G) ?_);intro w H;refine NL (TN (SQ ?_));obtain⟨⟨l14,⟨n15,n16⟩⟩,hx17,h⟩:=bnd h;try dsimp only at h
 refine RG (MV G G (q05 H (Y4o hx17) G ⟨gM,gT,f18_0⟩ (q00 G) G ?_));intro v28 M w H hle hR;replace gM:=gM.mono hle;replace gT:=gT.mono hle;replace f18_0:=f18_0.mono hle;try dsimp only at hR
 obtain⟨x28_0,rfl,f28_0⟩:=hR;refine MV G G (ST (q0b G G) G (ST (q0b G G) G (q0j [_,_] H Tz27 G (q00 G) G ?_)));intro bk8 w H;refine AS G G (q0c [_,_] H G G G Ku Ts27 G Kf Kf (q00 G) ?_);intro w H;refine NL (TN (SQ ?_));obtain⟨o18,e19,h⟩:=bnd h;refine q0h (fun e w =>∃(b20:Bool) (M:Mem),e=[(0,Value.bool b20)]∧St w0 M0 M [] w∧GlF (fun w =>∃m,w.cell? ⟨2,0,none⟩=some (.int .i64 m)) M∧Tabs M∧some b20=some o18) [] ?_ ?_ (trivial)
 ·
  refine RG (ST (q03 Tu27 G Ts3 Dc G) G (ST (XL H Ta3) G ?_));by_cases hk21:n3=(0:Int)
  ·
   rw[if_pos hk21] at e19;by_cases hk22:n7=(0:Int)
   ·
    rw[if_pos hk22] at e19;by_cases hk23:n11=(0:Int)
    ·
     rw[if_pos hk23] at e19;by_cases hk24:n15=(0:Int)
     ·
      rw[if_pos hk24] at e19;by_cases hk25:s2=[34,65,46,32,66,34,32,60,97,64,120,62]
      ·
       rw[if_pos hk25] at e19;by_cases hk26:(l6.length:Int)=(1:Int)
       ·
        rw[if_pos hk26] at e19;obtain⟨a27,hxa27,e19⟩:=bnd e19;obtain⟨bk60,o60,fq60,ha60,hc60,hr60⟩:=f18_0.atC hxa27;obtain⟨f60_0,f60_1,q60_2⟩:=fq60;replace hr60:f60_0=a27.1∧f60_1=a27.2.1∧SlS M 3 xenc24 (hv q60_2) a27.2.2:=hr60;obtain⟨rfl,rfl,hs60_2⟩:=hr60;by_cases hk28:a27.2.1=true
        ·
         rw[if_pos hk28] at e19;obtain⟨a29,hxa29,e19⟩:=bnd e19;obtain⟨bk66,o66,fq66,ha66,hc66,hr66⟩:=f18_0.atC hxa29;obtain⟨f66_0,f66_1,q66_2⟩:=fq66;replace hr66:f66_0=a29.1∧f66_1=a29.2.1∧SlS M 3 xenc24 (hv q66_2) a29.2.2:=hr66;obtain⟨rfl,rfl,hs66_2⟩:=hr66;by_cases hk30:a29.1=[103]
         ·
          rw[if_pos hk30] at e19;by_cases hk31:s10=[65,64,120,46,101,120,97,109,112,108,101]
          ·
           rw[if_pos hk31] at e19;by_cases hk32:(l14.length:Int)=(2:Int)
           ·
            rw[if_pos hk32] at e19;obtain⟨a33,hxa33,e19⟩:=bnd e19;obtain⟨bk82,o82,ha82,hc82⟩:=f28_0.atC hxa33;refine DT hk21 (q0e G G) G (MV G G (SG (q03 Tu27 G Ts3 Dc G) G G G (SG (XL H Ta3) G G G ?_)));refine DU hk22 (q0e G G) G G G (PT G G G (MV G G (SG (q03 Tu27 G Ts3 Dc G) G G G (SG (XL H Ta3) G G G ?_))));refine DU hk23 (q0e G G) G G G (PT G G G (MV G G (SG (q03 Tu27 G Ts3 Dc G) G G G (SG (XL H Ta3) G G G ?_))));refine DU hk24 (q0e G G) G G G (PT G G G (MV G G (SG (q01 G) G G G (DU hk25 (q0z G G) G G G (PT G G G (MV G G (SG (q01 G) G G G (SG (q1v Tu22 f18_0 G) G G G (DU hk26 (q0e G G) G G G (PT G G G (MV G G (SG (q01 G) G G G (SG (q0u ha60 Tu22 Ts34 G G) G G G (SG (q03 Tu34 G Ts4 Dc G) G G G (q09 (v' := .bool true) (q08 H G (hc60.at (j:=1) G) Ta4) (congrArg Value.bool hk28) (q04 G G G) G G (PT G G G ?_))))))))))))))));refine MV G G (SG (q01 G) G G G (SG (q0u ha66 Tu22 Ts34 G G) G G G (SG (q03 Tu34 G Ts9 Dc G) G G G (SG (q08 H G (hc66.at (j:=0) G) Ta9) G G G (DU hk30 (q0z G G) G G G (PT G G G (MV G G (SG (q01 G) G G G (DU hk31 (q0z G G) G G G (PT G G G (MV G G (SG (q01 G) G G G (SG (q1o Tu30 f28_0 G) G G G (DU hk32 (q0e G G) G G G (PT G G G (MV G G (SG (q01 G) G G G (SG (q0u ha82 Tu30 Ts24 G G) G G G ?_))))))))))))))))));refine SG (q03 Tu24 G Ts9 Dc G) G G G (SG (q08 H G (hc82.at (j:=1) G) Ta9) G G G (SG (q0z G G) G G G (PT G G G (AS G G (NL ?_)))));exact MN ⟨_,_,G,(H.pick (L':=[]) Kp),gM,gT,e19⟩
           rw[if_neg hk32] at e19;refine DT hk21 (q0e G G) G (MV G G (SG (q03 Tu27 G Ts3 Dc G) G G G (SG (XL H Ta3) G G G ?_)));refine DU hk22 (q0e G G) G G G (PT G G G (MV G G (SG (q03 Tu27 G Ts3 Dc G) G G G (SG (XL H Ta3) G G G ?_))));refine DU hk23 (q0e G G) G G G (PT G G G (MV G G (SG (q03 Tu27 G Ts3 Dc G) G G G (SG (XL H Ta3) G G G ?_))));refine DU hk24 (q0e G G) G G G (PT G G G (MV G G (SG (q01 G) G G G (DU hk25 (q0z G G) G G G (PT G G G (MV G G (SG (q01 G) G G G (SG (q1v Tu22 f18_0 G) G G G (DU hk26 (q0e G G) G G G (PT G G G (MV G G (SG (q01 G) G G G (SG (q0u ha60 Tu22 Ts34 G G) G G G (SG (q03 Tu34 G Ts4 Dc G) G G G (q09 (v' := .bool true) (q08 H G (hc60.at (j:=1) G) Ta4) (congrArg Value.bool hk28) (q04 G G G) G G (PT G G G ?_))))))))))))))));refine MV G G (SG (q01 G) G G G (SG (q0u ha66 Tu22 Ts34 G G) G G G (SG (q03 Tu34 G Ts9 Dc G) G G G (SG (q08 H G (hc66.at (j:=0) G) Ta9) G G G (DU hk30 (q0z G G) G G G (PT G G G (MV G G (SG (q01 G) G G G (DU hk31 (q0z G G) G G G (PT G G G (MV G G (SG (q01 G) G G G (SG (q1o Tu30 f28_0 G) G G G (DG hk32 (q0e G G) G G G (PT G G G (MV G G (q0i 5 G G (PF G G G (AS G G (NL ?_))))))))))))))))))));exact MN ⟨_,_,G,(H.pick (L':=[]) Kp),gM,gT,e19⟩
          rw[if_neg hk31] at e19;refine DT hk21 (q0e G G) G (MV G G (SG (q03 Tu27 G Ts3 Dc G) G G G (SG (XL H Ta3) G G G ?_)));refine DU hk22 (q0e G G) G G G (PT G G G (MV G G (SG (q03 Tu27 G Ts3 Dc G) G G G (SG (XL H Ta3) G G G ?_))));refine DU hk23 (q0e G G) G G G (PT G G G (MV G G (SG (q03 Tu27 G Ts3 Dc G) G G G (SG (XL H Ta3) G G G ?_))));refine DU hk24 (q0e G G) G G G (PT G G G (MV G G (SG (q01 G) G G G (DU hk25 (q0z G G) G G G (PT G G G (MV G G (SG (q01 G) G G G (SG (q1v Tu22 f18_0 G) G G G (DU hk26 (q0e G G) G G G (PT G G G (MV G G (SG (q01 G) G G G (SG (q0u ha60 Tu22 Ts34 G G) G G G (SG (q03 Tu34 G Ts4 Dc G) G G G (q09 (v' := .bool true) (q08 H G (hc60.at (j:=1) G) Ta4) (congrArg Value.bool hk28) (q04 G G G) G G (PT G G G ?_))))))))))))))));refine MV G G (SG (q01 G) G G G (SG (q0u ha66 Tu22 Ts34 G G) G G G (SG (q03 Tu34 G Ts9 Dc G) G G G (SG (q08 H G (hc66.at (j:=0) G) Ta9) G G G (DU hk30 (q0z G G) G G G (PT G G G (MV G G (SG (q01 G) G G G (DG hk31 (q0z G G) G G G (PT G G G (MV G G (q0i 3 G G (PF G G G (MV G G (q0i 5 G G (PF G G G (AS G G (NL ?_))))))))))))))))));exact MN ⟨_,_,G,(H.pick (L':=[]) Kp),gM,gT,e19⟩
         rw[if_neg hk30] at e19;refine DT hk21 (q0e G G) G (MV G G (SG (q03 Tu27 G Ts3 Dc G) G G G (SG (XL H Ta3) G G G ?_)));refine DU hk22 (q0e G G) G G G (PT G G G (MV G G (SG (q03 Tu27 G Ts3 Dc G) G G G (SG (XL H Ta3) G G G ?_))));refine DU hk23 (q0e G G) G G G (PT G G G (MV G G (SG (q03 Tu27 G Ts3 Dc G) G G G (SG (XL H Ta3) G G G ?_))));refine DU hk24 (q0e G G) G G G (PT G G G (MV G G (SG (q01 G) G G G (DU hk25 (q0z G G) G G G (PT G G G (MV G G (SG (q01 G) G G G (SG (q1v Tu22 f18_0 G) G G G (DU hk26 (q0e G G) G G G (PT G G G (MV G G (SG (q01 G) G G G (SG (q0u ha60 Tu22 Ts34 G G) G G G (SG (q03 Tu34 G Ts4 Dc G) G G G (q09 (v' := .bool true) (q08 H G (hc60.at (j:=1) G) Ta4) (congrArg Value.bool hk28) (q04 G G G) G G (PT G G G ?_))))))))))))))));refine MV G G (SG (q01 G) G G G (SG (q0u ha66 Tu22 Ts34 G G) G G G (SG (q03 Tu34 G Ts9 Dc G) G G G (SG (q08 H G (hc66.at (j:=0) G) Ta9) G G G (DG hk30 (q0z G G) G G G (PT G G G (MV G G (GF G G G (GF G G G (PF G G G (MV G G (q0i 3 G G (PF G G G (MV G G (q0i 5 G G (PF G G G (AS G G (NL ?_))))))))))))))))));exact MN ⟨_,_,G,(H.pick (L':=[]) Kp),gM,gT,e19⟩
        rw[if_neg hk28] at e19;refine DT hk21 (q0e G G) G (MV G G (SG (q03 Tu27 G Ts3 Dc G) G G G (SG (XL H Ta3) G G G ?_)));refine DU hk22 (q0e G G) G G G (PT G G G (MV G G (SG (q03 Tu27 G Ts3 Dc G) G G G (SG (XL H Ta3) G G G ?_))));refine DU hk23 (q0e G G) G G G (PT G G G (MV G G (SG (q03 Tu27 G Ts3 Dc G) G G G (SG (XL H Ta3) G G G ?_))));refine DU hk24 (q0e G G) G G G (PT G G G (MV G G (SG (q01 G) G G G (DU hk25 (q0z G G) G G G (PT G G G (MV G G (SG (q01 G) G G G (SG (q1v Tu22 f18_0 G) G G G (DU hk26 (q0e G G) G G G (PT G G G (MV G G (SG (q01 G) G G G (SG (q0u ha60 Tu22 Ts34 G G) G G G (SG (q03 Tu34 G Ts4 Dc G) G G G (q09 (v' := .bool false) (q08 H G (hc60.at (j:=1) G) Ta4) (congrArg Value.bool (l1g hk28)) (q04 G G G) G G ?_)))))))))))))));refine PT G G G (MV G G (q0i 5 G G (PF G G G (MV G G (GF G G G (GF G G G (PF G G G (MV G G (q0i 3 G G (PF G G G (MV G G (q0i 5 G G (PF G G G (AS G G (NL ?_)))))))))))))));exact MN ⟨_,_,G,(H.pick (L':=[]) Kp),gM,gT,e19⟩
       rw[if_neg hk26] at e19;refine DT hk21 (q0e G G) G (MV G G (SG (q03 Tu27 G Ts3 Dc G) G G G (SG (XL H Ta3) G G G ?_)));refine DU hk22 (q0e G G) G G G (PT G G G (MV G G (SG (q03 Tu27 G Ts3 Dc G) G G G (SG (XL H Ta3) G G G ?_))));refine DU hk23 (q0e G G) G G G (PT G G G (MV G G (SG (q03 Tu27 G Ts3 Dc G) G G G (SG (XL H Ta3) G G G ?_))));refine DU hk24 (q0e G G) G G G (PT G G G (MV G G (SG (q01 G) G G G (DU hk25 (q0z G G) G G G (PT G G G (MV G G (SG (q01 G) G G G (SG (q1v Tu22 f18_0 G) G G G (DG hk26 (q0e G G) G G G (PT G G G (MV G G (q0i 4 G G (PF G G G (MV G G (q0i 5 G G (PF G G G (MV G G (GF G G G (GF G G G (PF G G G (MV G G (q0i 3 G G (PF G G G (MV G G (q0i 5 G G (PF G G G (AS G G (NL ?_))))))))))))))))))))))))))));exact MN ⟨_,_,G,(H.pick (L':=[]) Kp),gM,gT,e19⟩
      rw[if_neg hk25] at e19;refine DT hk21 (q0e G G) G (MV G G (SG (q03 Tu27 G Ts3 Dc G) G G G (SG (XL H Ta3) G G G ?_)));refine DU hk22 (q0e G G) G G G (PT G G G (MV G G (SG (q03 Tu27 G Ts3 Dc G) G G G (SG (XL H Ta3) G G G ?_))));refine DU hk23 (q0e G G) G G G (PT G G G (MV G G (SG (q03 Tu27 G Ts3 Dc G) G G G (SG (XL H Ta3) G G G ?_))));refine DU hk24 (q0e G G) G G G (PT G G G (MV G G (SG (q01 G) G G G (DG hk25 (q0z G G) G G G (PT G G G (MV G G (q0i 3 G G (PF G G G (MV G G (q0i 4 G G (PF G G G (MV G G (q0i 5 G G (PF G G G (MV G G (GF G G G (GF G G G (PF G G G (MV G G (q0i 3 G G (PF G G G (MV G G (q0i 5 G G (PF G G G (AS G G (NL ?_))))))))))))))))))))))))));exact MN ⟨_,_,G,(H.pick (L':=[]) Kp),gM,gT,e19⟩
     rw[if_neg hk24] at e19;refine DT hk21 (q0e G G) G (MV G G (SG (q03 Tu27 G Ts3 Dc G) G G G (SG (XL H Ta3) G G G ?_)));refine DU hk22 (q0e G G) G G G (PT G G G (MV G G (SG (q03 Tu27 G Ts3 Dc G) G G G (SG (XL H Ta3) G G G ?_))));refine DU hk23 (q0e G G) G G G (PT G G G (MV G G (SG (q03 Tu27 G Ts3 Dc G) G G G (SG (XL H Ta3) G G G ?_))));refine DG hk24 (q0e G G) G G G (PT G G G (MV G G (GF G G G (GF G G G (PF G G G (MV G G (q0i 3 G G (PF G G G (MV G G (q0i 4 G G (PF G G G (MV G G (q0i 5 G G (PF G G G (MV G G (GF G G G (GF G G G (PF G G G (MV G G (q0i 3 G G (PF G G G (MV G G (q0i 5 G G (PF G G G (AS G G (NL ?_))))))))))))))))))))))))));exact MN ⟨_,_,G,(H.pick (L':=[]) Kp),gM,gT,e19⟩
    rw[if_neg hk23] at e19;refine DT hk21 (q0e G G) G (MV G G (SG (q03 Tu27 G Ts3 Dc G) G G G (SG (XL H Ta3) G G G ?_)));refine DU hk22 (q0e G G) G G G (PT G G G (MV G G (SG (q03 Tu27 G Ts3 Dc G) G G G (SG (XL H Ta3) G G G ?_))));refine DG hk23 (q0e G G) G G G (PT G G G (MV G G (q0i 3 G G (PF G G G (MV G G (GF G G G (GF G G G (PF G G G (MV G G (q0i 3 G G (PF G G G (MV G G (q0i 4 G G (PF G G G (MV G G (q0i 5 G G (PF G G G (MV G G (GF G G G (GF G G G (PF G G G (MV G G (q0i 3 G G (PF G G G (MV G G (q0i 5 G G (PF G G G (AS G G (NL ?_)))))))))))))))))))))))))))));exact MN ⟨_,_,G,(H.pick (L':=[]) Kp),gM,gT,e19⟩
   rw[if_neg hk22] at e19;refine DT hk21 (q0e G G) G (MV G G (SG (q03 Tu27 G Ts3 Dc G) G G G (SG (XL H Ta3) G G G ?_)));refine DG hk22 (q0e G G) G G G (PT G G G (MV G G (q0i 3 G G (PF G G G (MV G G (q0i 3 G G (PF G G G (MV G G (GF G G G (GF G G G (PF G G G (MV G G (q0i 3 G G (PF G G G (MV G G (q0i 4 G G (PF G G G (MV G G (q0i 5 G G (PF G G G (MV G G (GF G G G (GF G G G (PF G G G (MV G G (q0i 3 G G (PF G G G (MV G G (q0i 5 G G (PF G G G (AS G G (NL ?_))))))))))))))))))))))))))))))));exact MN ⟨_,_,G,(H.pick (L':=[]) Kp),gM,gT,e19⟩
  rw[if_neg hk21] at e19;refine DF hk21 (q0e G G) G (MV G G (q0i 3 G G (PF G G G (MV G G (q0i 3 G G (PF G G G (MV G G (q0i 3 G G (PF G G G (MV G G (GF G G G (GF G G G (PF G G G (MV G G (q0i 3 G G (PF G G G (MV G G (q0i 4 G G (PF G G G (MV G G (q0i 5 G G (PF G G G (MV G G (GF G G G (GF G G G (PF G G G (MV G G (q0i 3 G G (PF G G G (MV G G (q0i 5 G G (PF G G G (AS G G (NL ?_))))))))))))))))))))))))))))))))));exact MN ⟨_,_,G,(H.pick (L':=[]) Kp),gM,gT,e19⟩
 rintro e w ⟨b20,M,rfl,H,gM,gT,q34⟩;obtain rfl:=oI q34;refine TN (RT ?_);obtain rfl:=oI h;exact q07 G G H.ext G
theorem Y3P {p0:List (Ls × Ls × Ls)}{p1:List (Ls × Ls × Ls)}{vp0:Value}{vp1:Value}{r:Bool}(h:Y2s p0 p1=some r):Ct Tryz.prog 15 [vp0,vp1] (fun M=>SlS M 3 xenc24 vp0 p0∧SlS M 3 xenc24 vp1 p1) (fun v M=>v=Value.bool r):=by
 refine Ct.of Tryz.func15 (enters Tryz.func15 Kr G) G G G ?_;intro w0 M0 H hp;obtain⟨hp0,hp1⟩:=hp;unfold Y2s at h;refine SQ (RG (AS G G (NL (TN (SQ (SQ (RG (MV G G (ST (q1o Tu30 hp0 G) G (MV G G (ST (q1o Tu30 hp1 G) G (ST (q1p G G) G (NL (TN ?_))))))))))))));refine q0k G (fun hk1=>?_) (fun hk1=>?_)
 ·
  replace hk1 :¬((p0.length:Int)=(p1.length:Int)):=of_not_decide hk1;rw[if_neg hk1] at h;refine SQ (RG (AS G G (NL (TN (RT ?_)))));obtain rfl:=oI h;exact q07 G G H.ext G
 replace hk1:(p0.length:Int)=(p1.length:Int):=of_not_decide' hk1;rw[if_pos hk1] at h;refine SK (TN (SQ (SQ (RG (AS G G (NL (TN ?_)))))));obtain⟨o2,e3,h⟩:=bnd h;refine q0h (fun e w =>∃  (M:Mem),e=[]∧St w0 M0 M [] w∧some (.inl ())=some o2) [] ?_ ?_ (trivial)
 ·
  refine BL (q0A (fun m e w =>∃(n4:Int) (M:Mem),e=[(0,vp0),(1,vp1),(5,I n4)]∧St w0 M0 M [] w∧SlS M 3 xenc24 vp0 p0∧SlS M 3 xenc24 vp1 p1∧Y0K p0 p1 m n4=some o2) FU [(0,_),(1,_),(5,_)] ⟨rfl,rfl,rfl,trivial⟩ ⟨_,_,rfl,H,hp0,hp1,e3⟩ ?_);rintro m5 e w ⟨n4,M,rfl,H,hp0,hp1,e3⟩;rcases m5 with _|m5
  · rw[Y0K] at e3;cases e3
  rw[Y0K] at e3;refine SQ (SQ (RG (MV G G (MV G G (ST (q1o Tu30 hp0 G) G (ST (q0n G G) G (NL (TN ?_))))))));refine CB (p:=n4<(p0.length:Int)) G (fun hk6=>?_) fun hk6=>?_
  ·
   rw[if_pos hk6] at e3;refine SK (TN (SQ (BL (SQ ?_))));obtain⟨a7,hxa7,e3⟩:=bnd e3;obtain⟨bk19,o19,ha19,hc19⟩:=hp0.atC hxa7;obtain⟨a8,hxa8,e3⟩:=bnd e3;obtain⟨bk23,o23,ha23,hc23⟩:=hp1.atC hxa8;refine q0H (m:=9) G G H ?_;intro w H;refine TK 0 G (fun _=>q01 G) G (TK 1 G (fun _=>q01 G) G (TK 2 G (fun _=>q0u ha19 Tu30 Ts24 G G) G (TK 4 G (fun _=>q01 G) G (TK 5 G (fun _=>q01 G) G (TK 6 G (fun _=>q0u ha23 Tu30 Ts24 G G) G (q1e (i:=3) [7] G Kr Kr Kr (q1i H G hc19 Ta24 Ts24 Kf) (q00 G) G G (fun _ _=>G) ?_))))));refine q0v (fuel:=0) [7,8] G Kr (ST (q1i H G hc23 Ta24 Ts24 Kf) G ?_);refine ST (q2i G G Kr (xeq24 a7.1 a8.1 a7.2.1 a8.2.1 a7.2.2 a8.2.2)) G (NA (q0l Kr (TN ?_)));refine q0k G (fun hk9=>?_) (fun hk9=>?_)
   ·
    replace hk9 :¬(a7.1=a8.1∧a7.2.1=a8.2.1∧a7.2.2=a8.2.2):=of_not_decide hk9;rw[if_neg hk9] at e3;refine SQ (RG (AS G G (NL (TN (RT ?_)))));obtain rfl:=oI e3;try dsimp only at h
    obtain rfl:=oI h;exact q07 G G H.ext G
   replace hk9:a7.1=a8.1∧a7.2.1=a8.2.1∧a7.2.2=a8.2.2:=of_not_decide' hk9;rw[if_pos hk9] at e3;refine SK (IB (TN ?_));obtain⟨n10,hxn10,e3⟩:=bnd e3;refine RG (MV G G (ST (q0p G G hxn10) G (AS G G (NL ?_))));exact AG m5 ⟨_,_,G,H,hp0,hp1,e3⟩ (l0b _)
  rw[if_neg hk6] at e3;refine q0m (q06 (q06 (q0d ?_)));exact MN ⟨_,G,H,e3⟩
 rintro e w ⟨M,rfl,H,q11⟩;obtain rfl:=oI q11;try dsimp only at h
 refine TN (SQ (RG (AS G G (NL (TN (RT ?_))))));obtain rfl:=oI h;exact q07 G G H.ext G
theorem Y3S {p0:List (Ls × Bool × List (Ls × Ls × Ls))}{p1:List (Ls × Bool × List (Ls × Ls × Ls))}{vp0:Value}{vp1:Value}{r:Bool}(h:Y33 p0 p1=some r):Ct Tryz.prog 22 [vp0,vp1] (fun M=>SlR xrl34 M vp0 p0∧SlR xrl34 M vp1 p1) (fun v M=>v=Value.bool r):=by
 refine Ct.of Tryz.func22 (enters Tryz.func22 Kr G) G G G ?_;intro w0 M0 H hp;obtain⟨hp0,hp1⟩:=hp;unfold Y33 at h;refine SQ (RG (AS G G (NL (TN (SQ (SQ (RG (MV G G (ST (q1v Tu22 hp0 G) G (MV G G (ST (q1v Tu22 hp1 G) G (ST (q1p G G) G (NL (TN ?_))))))))))))));refine q0k G (fun hk1=>?_) (fun hk1=>?_)
 ·
  replace hk1 :¬((p0.length:Int)=(p1.length:Int)):=of_not_decide hk1;rw[if_neg hk1] at h;refine SQ (RG (AS G G (NL (TN (RT ?_)))));obtain rfl:=oI h;exact q07 G G H.ext G
 replace hk1:(p0.length:Int)=(p1.length:Int):=of_not_decide' hk1;rw[if_pos hk1] at h;refine SK (TN (SQ (SQ (RG (AS G G (NL (TN ?_)))))));obtain⟨o2,e3,h⟩:=bnd h;refine q0h (fun e w =>∃  (M:Mem),e=[]∧St w0 M0 M [] w∧some (.inl ())=some o2) [] ?_ ?_ (trivial)
 ·
  refine BL (q0A (fun m e w =>∃(n4:Int) (M:Mem),e=[(0,vp0),(1,vp1),(5,I n4)]∧St w0 M0 M [] w∧SlR xrl34 M vp0 p0∧SlR xrl34 M vp1 p1∧Y1w p0 p1 m n4=some o2) FU [(0,_),(1,_),(5,_)] ⟨rfl,rfl,rfl,trivial⟩ ⟨_,_,rfl,H,hp0,hp1,e3⟩ ?_);rintro m5 e w ⟨n4,M,rfl,H,hp0,hp1,e3⟩;rcases m5 with _|m5
  · rw[Y1w] at e3;cases e3
  rw[Y1w] at e3;refine SQ (SQ (RG (MV G G (MV G G (ST (q1v Tu22 hp0 G) G (ST (q0n G G) G (NL (TN ?_))))))));refine CB (p:=n4<(p0.length:Int)) G (fun hk6=>?_) fun hk6=>?_
  ·
   rw[if_pos hk6] at e3;refine SK (TN (SQ (BL (SQ ?_))));obtain⟨o7,e8,e3⟩:=bnd e3;refine q0h (fun e w =>∃(b9:Bool) (M:Mem),e=[(0,vp0),(1,vp1),(5,I n4),(54,Value.bool b9)]∧St w0 M0 M [] w∧SlR xrl34 M vp0 p0∧SlR xrl34 M vp1 p1∧some b9=some o7) [] ?_ ?_ (trivial)
   ·
    obtain⟨a10,hxa10,e8⟩:=bnd e8;obtain⟨bk19,o19,fq19,ha19,hc19,hr19⟩:=hp0.atC hxa10;obtain⟨f19_0,f19_1,q19_2⟩:=fq19;replace hr19:f19_0=a10.1∧f19_1=a10.2.1∧SlS M 3 xenc24 (hv q19_2) a10.2.2:=hr19;obtain⟨rfl,rfl,hs19_2⟩:=hr19;obtain⟨a11,hxa11,e8⟩:=bnd e8;obtain⟨bk24,o24,fq24,ha24,hc24,hr24⟩:=hp1.atC hxa11;obtain⟨f24_0,f24_1,q24_2⟩:=fq24;replace hr24:f24_0=a11.1∧f24_1=a11.2.1∧SlS M 3 xenc24 (hv q24_2) a11.2.2:=hr24;obtain⟨rfl,rfl,hs24_2⟩:=hr24;refine q0H (m:=38) G G H ?_;intro w H;refine TK 0 G (fun _=>q01 G) G (TK 1 G (fun _=>q01 G) G (TK 2 G (fun _=>q0u ha19 Tu22 Ts34 G G) G (TK 3 G (fun _=>q03 Tu34 G Ts9 Dc G) G (TK 5 G (fun _=>q01 G) G (TK 6 G (fun _=>q01 G) G (TK 7 G (fun _=>q0u ha24 Tu22 Ts34 G G) G ?_))))));refine TK 8 G (fun _=>q03 Tu34 G Ts9 Dc G) G (q1e (i:=4) [9] G Kr Kr Kr (q08 H G (hc19.at (j:=0) G) Ta9) (q00 G) G G (fun _ _=>G) (ON 9 Kr G (ST (q08 H G (hc24.at (j:=0) G) Ta9) G (NA ?_))));by_cases hk12:a10.1=a11.1
    ·
     rw[if_pos hk12] at e8;obtain⟨a13,hxa13,e8⟩:=bnd e8;obtain⟨bk31,o31,fq31,ha31,hc31,hr31⟩:=hp0.atC hxa13;obtain⟨f31_0,f31_1,q31_2⟩:=fq31;replace hr31:f31_0=a13.1∧f31_1=a13.2.1∧SlS M 3 xenc24 (hv q31_2) a13.2.2:=hr31;obtain⟨rfl,rfl,hs31_2⟩:=hr31;obtain⟨a14,hxa14,e8⟩:=bnd e8;obtain⟨bk36,o36,fq36,ha36,hc36,hr36⟩:=hp1.atC hxa14;obtain⟨f36_0,f36_1,q36_2⟩:=fq36;replace hr36:f36_0=a14.1∧f36_1=a14.2.1∧SlS M 3 xenc24 (hv q36_2) a14.2.2:=hr36;obtain⟨rfl,rfl,hs36_2⟩:=hr36;by_cases hk15:a13.2.1=a14.2.1
     ·
      rw[if_pos hk15] at e8;obtain⟨a16,hxa16,e8⟩:=bnd e8;obtain⟨bk44,o44,fq44,ha44,hc44,hr44⟩:=hp0.atC hxa16;obtain⟨f44_0,f44_1,q44_2⟩:=fq44;replace hr44:f44_0=a16.1∧f44_1=a16.2.1∧SlS M 3 xenc24 (hv q44_2) a16.2.2:=hr44;obtain⟨rfl,rfl,hs44_2⟩:=hr44;obtain⟨a17,hxa17,e8⟩:=bnd e8;obtain⟨bk49,o49,fq49,ha49,hc49,hr49⟩:=hp1.atC hxa17;obtain⟨f49_0,f49_1,q49_2⟩:=fq49;replace hr49:f49_0=a17.1∧f49_1=a17.2.1∧SlS M 3 xenc24 (hv q49_2) a17.2.2:=hr49;obtain⟨rfl,rfl,hs49_2⟩:=hr49;obtain⟨b18,hx19,e8⟩:=bnd e8;refine q0v (fuel:=26) [10,11] G Kr (q09 (v' := .bool false) (q1q G G) (congrArg Value.bool (by rw[decide_eq_true hk12];rfl)) (q00 G) G G ?_);refine MV G G (NA (q0B (i:=12) G Kr Kr Kr (fun _=>q01 G) (q04 G G G) G G (fun _ _=>G) (q0B (i:=13) G Kr Kr Kr (fun _=>q01 G) (q04 G G G) G G (fun _ _=>G) (q0B (i:=14) G Kr Kr Kr (fun _=>q0u ha31 Tu22 Ts34 G G) (q04 G G G) G G (fun _ _=>G) (q0B (i:=15) G Kr Kr Kr (fun _=>q03 Tu34 G Ts4 Dc G) (q04 G G G) G G (fun _ _=>G) (q0B (i:=17) G Kr Kr Kr (fun _=>q01 G) (q04 G G G) G G (fun _ _=>G) (q0B (i:=18) G Kr Kr Kr (fun _=>q01 G) (q04 G G G) G G (fun _ _=>G) ?_)))))));refine q0B (i:=19) G Kr Kr Kr (fun _=>q0u ha36 Tu22 Ts34 G G) (q04 G G G) G G (fun _ _=>G) (q0B (i:=20) G Kr Kr Kr (fun _=>q03 Tu34 G Ts4 Dc G) (q04 G G G) G G (fun _ _=>G) (q1e (i:=16) [21] G Kr Kr Kr (q08 H G (hc31.at (j:=1) G) Ta4) (q04 G G G) G G (fun _ _=>G) (q0v (fuel:=13) [21,22,23,24] G Kr (SG (q08 H G (hc36.at (j:=1) G) Ta4) G G G (q09 (v' := .bool false) (Ex.neqBo Tu4 G G) (congrArg Value.bool (by rw[decide_eq_true hk15];rfl)) (q04 G G G) G G ?_)))))
      refine PF G G G (MV G G (NA (q0B (i:=25) G Kr Kr Kr (fun _=>q01 G) (q04 G G G) G G (fun _ _=>G) (q0B (i:=26) G Kr Kr Kr (fun _=>q01 G) (q04 G G G) G G (fun _ _=>G) (q0B (i:=27) G Kr Kr Kr (fun _=>q0u ha44 Tu22 Ts34 G G) (q04 G G G) G G (fun _ _=>G) (q0B (i:=28) G Kr Kr Kr (fun _=>q03 Tu34 G Ts30 Dc G) (q04 G G G) G G (fun _ _=>G) (q0B (i:=30) G Kr Kr Kr (fun _=>q01 G) (q04 G G G) G G (fun _ _=>G) (q0B (i:=31) G Kr Kr Kr (fun _=>q01 G) (q04 G G G) G G (fun _ _=>G) ?_))))))));refine q0B (i:=32) G Kr Kr Kr (fun _=>q0u ha49 Tu22 Ts34 G G) (q04 G G G) G G (fun _ _=>G) (q0B (i:=33) G Kr Kr Kr (fun _=>q03 Tu34 G Ts30 Dc G) (q04 G G G) G G (fun _ _=>G) (q1e (i:=29) [34] G Kr Kr Kr (q08 H G (hc44.at (j:=2) G) Ta30) (q04 G G G) G G (fun _ _=>G) (q0v (fuel:=0) [34,35,36,37] G Kr (SG (q08 H G (hc49.at (j:=2) G) Ta30) G G G (q05 H (Y3P hx19) G ⟨hs44_2,hs49_2⟩ (q04 G G G) G ?_)))));intro v52 M w H hle hR;replace hp0:=hp0.mono hle;replace hp1:=hp1.mono hle;obtain rfl:=hR;refine SG (q0L G) G G G (PF G G G (NA (q0l Kr ?_)));exact MN ⟨_,_,G,H,hp0,hp1,e8⟩
     rw[if_neg hk15] at e8;refine q0v (fuel:=26) [10,11] G Kr (q09 (v' := .bool false) (q1q G G) (congrArg Value.bool (by rw[decide_eq_true hk12];rfl)) (q00 G) G G ?_);refine MV G G (NA (q0B (i:=12) G Kr Kr Kr (fun _=>q01 G) (q04 G G G) G G (fun _ _=>G) (q0B (i:=13) G Kr Kr Kr (fun _=>q01 G) (q04 G G G) G G (fun _ _=>G) (q0B (i:=14) G Kr Kr Kr (fun _=>q0u ha31 Tu22 Ts34 G G) (q04 G G G) G G (fun _ _=>G) (q0B (i:=15) G Kr Kr Kr (fun _=>q03 Tu34 G Ts4 Dc G) (q04 G G G) G G (fun _ _=>G) (q0B (i:=17) G Kr Kr Kr (fun _=>q01 G) (q04 G G G) G G (fun _ _=>G) (q0B (i:=18) G Kr Kr Kr (fun _=>q01 G) (q04 G G G) G G (fun _ _=>G) ?_)))))));refine q0B (i:=19) G Kr Kr Kr (fun _=>q0u ha36 Tu22 Ts34 G G) (q04 G G G) G G (fun _ _=>G) (q0B (i:=20) G Kr Kr Kr (fun _=>q03 Tu34 G Ts4 Dc G) (q04 G G G) G G (fun _ _=>G) (q1e (i:=16) [21] G Kr Kr Kr (q08 H G (hc31.at (j:=1) G) Ta4) (q04 G G G) G G (fun _ _=>G) (q0v (fuel:=13) [21,22,23,24] G Kr (SG (q08 H G (hc36.at (j:=1) G) Ta4) G G G (q09 (v' := .bool true) (Ex.neqBo Tu4 G G) (congrArg Value.bool (by rw[decide_eq_false hk15];rfl)) (q04 G G G) G G ?_)))));refine PF G G G (MV G G (NA (q2k (fuel:=7) [25,26,27,28,29,30] G Kr Kr G (q0v (fuel:=0) [31,32,33,34,35,36,37] G Kr (q0i 6 G G (PT G G G (NA (q0l Kr ?_))))))));exact MN ⟨_,_,G,H,hp0,hp1,e8⟩
    rw[if_neg hk12] at e8;refine q0v (fuel:=26) [10,11] G Kr (q09 (v' := .bool true) (q1q G G) (congrArg Value.bool (by rw[decide_eq_false hk12];rfl)) (q00 G) G G ?_);refine MV G G (NA (q2k (fuel:=20) [12,13,14,15,16,17] G Kr Kr G (q0v (fuel:=13) [18,19,20,21,22,23,24] G Kr (q0i 5 G G (PT G G G (MV G G (NA (q2k (fuel:=7) [25,26,27,28,29,30] G Kr Kr G (q0v (fuel:=0) [31,32,33,34,35,36,37] G Kr (q0i 6 G G (PT G G G (NA (q0l Kr ?_)))))))))))));exact MN ⟨_,_,G,H,hp0,hp1,e8⟩
   rintro e w ⟨b9,M,rfl,H,hp0,hp1,q20⟩;obtain rfl:=oI q20;refine TN ?_;refine q0k G (fun hk21=>?_) (fun hk21=>?_)
   ·
    subst hk21;rw[if_pos rfl] at e3;refine SQ (RG (AS G G (NL (TN (RT ?_)))));obtain rfl:=oI e3;try dsimp only at h
    obtain rfl:=oI h;exact q07 G G H.ext G
   subst hk21;rw[if_neg l06] at e3;refine SK (IB (TN ?_));obtain⟨n22,hxn22,e3⟩:=bnd e3;refine RG (MV G G (ST (q0p G G hxn22) G (AS G G (NL ?_))));exact AG m5 ⟨_,_,G,H,hp0,hp1,e3⟩ (l0b _)
  rw[if_neg hk6] at e3;refine q0m (q06 (q06 (q0d ?_)));exact MN ⟨_,G,H,e3⟩
 rintro e w ⟨M,rfl,H,q23⟩;obtain rfl:=oI q23;try dsimp only at h
 refine TN (SQ (RG (AS G G (NL (TN (RT ?_))))));obtain rfl:=oI h;exact q07 G G H.ext G
theorem fold_name_1_ct {p0:UInt8}{r:Bool}(h:fold_name_1 p0=some r):Ct Tryz.prog 94 [encB p0] (fun M=>True) (fun v M=>v=Value.bool r):=by
 refine Ct.of Tryz.func94 (enters Tryz.func94 Kr G) G G G ?_;intro w0 M0 H hp;unfold fold_name_1 at h;refine SQ (RG (AS G G (NL (TN (SQ ?_)))));obtain⟨o1,e2,h⟩:=bnd h;refine q0h (fun e w =>∃(b3:Bool) (M:Mem),e=[(2,Value.bool b3)]∧St w0 M0 M [] w∧some b3=some o1) [] ?_ ?_ (trivial)
 ·
  by_cases hk4:33≤p0.toNat
  ·
   rw[if_pos hk4] at e2;refine RG (MV G G (DT hk4 (q1f (i:=p0.toNat) (j:=33) G G) G ?_));by_cases hk5:p0.toNat≤126
   ·
    rw[if_pos hk5] at e2;refine MV G G (SG (q01 G) G G G (DU hk5 (q1A (i:=p0.toNat) (j:=126) G G) G G G (PT G G G (MV G G (SG (q01 G) G G G (SG (Ex.neqB (c:=p0) (d:=58) G G) G G G (PT G G G (AS G G (NL ?_)))))))));exact MN ⟨_,_,G,H,e2⟩
   rw[if_neg hk5] at e2;refine MV G G (SG (q01 G) G G G (DG hk5 (q1A (i:=p0.toNat) (j:=126) G G) G G G (PT G G G (MV G G (GF G G G (GF G G G (PF G G G (AS G G (NL ?_)))))))));exact MN ⟨_,_,G,H,e2⟩
  rw[if_neg hk4] at e2;refine RG (MV G G (DF hk4 (q1f (i:=p0.toNat) (j:=33) G G) G (MV G G (GF G G G (GF G G G (PF G G G (MV G G (GF G G G (GF G G G (PF G G G (AS G G (NL ?_))))))))))));exact MN ⟨_,_,G,H,e2⟩
 rintro e w ⟨b3,M,rfl,H,q6⟩;obtain rfl:=oI q6;refine TN (RT ?_);obtain rfl:=oI h;exact q07 G G H.ext G
theorem fold_name_ct {p0:Ls}{r:Bool}(h:fold_name p0=some r):Ct Tryz.prog 58 [S p0] (fun M=>True) (fun v M=>v=Value.bool r):=by
 refine Ct.of Tryz.func58 (enters Tryz.func58 Kr G) G G G ?_;intro w0 M0 H hp;unfold fold_name at h;refine SQ (RG (AS G G (NL (TN (SQ ?_)))));obtain⟨o1,e2,h⟩:=bnd h;refine q0h (fun e w =>∃(b3:Bool) (M:Mem),e=[(2,Value.bool b3)]∧St w0 M0 M [] w∧some b3=some o1) [] ?_ ?_ (trivial)
 ·
  by_cases hk4:p0=[]
  ·
   rw[if_pos hk4] at e2;refine RG (MV G G (q09 (v' := .bool false) (q1q G G) (congrArg Value.bool (by rw[decide_eq_true hk4];rfl)) (q00 G) G G ?_));refine MV G G (q0i 3 G G (PF G G G (MV G G (GF G G G (GF G G G (PF G G G (AS G G (NL ?_))))))));exact MN ⟨_,_,G,H,e2⟩
  rw[if_neg hk4] at e2;refine RG (MV G G (q09 (v' := .bool true) (q1q G G) (congrArg Value.bool (by rw[decide_eq_false hk4];rfl)) (q00 G) G G ?_));by_cases hk5:(p0.length:Int)≤(60:Int)
  ·
   rw[if_pos hk5] at e2;obtain⟨b6,hx7,e2⟩:=bnd e2;refine MV G G (SG (q01 G) G G G (SG (q0g Tu9 G) G G G (DU hk5 (q1C G G) G G G (PT G G G (MV G G (SG (q01 G) G G G (q05 H (Y3N hx7) G ((⟨⟨G,G⟩,(fun _ _ h=>FnV.of (fold_name_1_ct h) (fun _ _=>trivial))⟩:FnT90 _ _ _)) (q04 G G G) G ?_)))))));intro v12 M w H hle hR;obtain rfl:=hR;refine PT G G G (AS G G (NL ?_));exact MN ⟨_,_,G,H,e2⟩
  rw[if_neg hk5] at e2;refine MV G G (SG (q01 G) G G G (SG (q0g Tu9 G) G G G (DG hk5 (q1C G G) G G G (PT G G G (MV G G (GF G G G (GF G G G (PF G G G (AS G G (NL ?_))))))))));exact MN ⟨_,_,G,H,e2⟩
 rintro e w ⟨b3,M,rfl,H,q8⟩;obtain rfl:=oI q8;refine TN (RT ?_);obtain rfl:=oI h;exact q07 G G H.ext G
theorem Y4J {p0:Int}{r:Bool}(h:Y2j p0=some r):Ct Tryz.prog 188 [Value.int .i32 p0] (fun M=>True) (fun v M=>v=Value.bool r):=by
 refine Ct.of Tf188 (enters Tf188 Kr G) G G G ?_;intro w0 M0 H hp;unfold Y2j at h;refine SQ (RG (AS G G (NL (TN (SQ (BL (SQ ?_)))))));obtain⟨o1,e2,h⟩:=bnd h;refine q0h (fun e w =>∃(b3:Bool) (M:Mem),e=[(0,Value.int .i32 p0),(3,Value.bool b3)]∧St w0 M0 M [] w∧some b3=some o1) [] ?_ ?_ (trivial)
 ·
  by_cases hk4:(0:Int)≤p0
  ·
   rw[if_pos hk4] at e2;refine RG (MV G G (DT hk4 (q1C G G) G (MV G G (SG (q01 G) G G G (SG (q0n G G) G G G (PT G G G (AS G G (NL ?_))))))));exact MN ⟨_,_,G,H,e2⟩
  rw[if_neg hk4] at e2;refine RG (MV G G (DF hk4 (q1C G G) G (MV G G (GF G G G (GF G G G (PF G G G (AS G G (NL ?_))))))));exact MN ⟨_,_,G,H,e2⟩
 rintro e w ⟨b3,M,rfl,H,q5⟩;obtain rfl:=oI q5;refine TN ?_;refine q0k G (fun hk6=>?_) (fun hk6=>?_)
 ·
  subst hk6;rw[if_pos rfl] at h;refine SQ (RG (AS G G (NL (TN (RT ?_)))));obtain rfl:=oI h;exact q07 G G H.ext G
 subst hk6;rw[if_neg l06] at h;refine SQ ?_;obtain⟨o7,e8,h⟩:=bnd h;refine q0h (fun e w =>∃(b9:Bool) (M:Mem),e=[(10,Value.bool b9)]∧St w0 M0 M [] w∧some b9=some o7) [] ?_ ?_ (trivial)
 ·
  by_cases hk10:(57343:Int)<p0
  ·
   rw[if_pos hk10] at e8;refine RG (MV G G (DT hk10 (q0n G G) G (MV G G (SG (q01 G) G G G (SG (q1C G G) G G G (PT G G G (AS G G (NL ?_))))))));exact MN ⟨_,_,G,H,e8⟩
  rw[if_neg hk10] at e8;refine RG (MV G G (DF hk10 (q0n G G) G (MV G G (GF G G G (GF G G G (PF G G G (AS G G (NL ?_))))))));exact MN ⟨_,_,G,H,e8⟩
 rintro e w ⟨b9,M,rfl,H,q11⟩;obtain rfl:=oI q11;refine TN ?_;refine q0k G (fun hk12=>?_) (fun hk12=>?_)
 ·
  subst hk12;rw[if_pos rfl] at h;refine SQ (RG (AS G G (NL (TN (RT ?_)))));obtain rfl:=oI h;exact q07 G G H.ext G
 subst hk12;rw[if_neg l06] at h;refine SK (IB (TN (SQ (RG (AS G G (NL (TN (RT ?_))))))));obtain rfl:=oI h;exact q07 G G H.ext G
theorem Y3v {p0:Ls}{p1:Int}{r:Int}(h:Y22 p0 p1=some r):Ct Tryz.prog 161 [S p0,Value.int .i32 p1] (fun M=>True) (fun v M=>v=I r):=by
 refine Ct.of Tf161 (enters Tf161 Kr G) G G G ?_;intro w0 M0 H hp;unfold Y22 at h;refine SQ (RG (AS G G (NL (TN (BL (SQ ?_))))));obtain⟨o1,e2,h⟩:=bnd h;refine q0h (fun e w =>∃(b3:Bool) (M:Mem),e=[(0,S p0),(1,Value.int .i32 p1),(160,Value.bool b3)]∧St w0 M0 M [] w∧some b3=some o1) [] ?_ ?_ (trivial)
 ·
  by_cases hk4:(0:Int)≤p1
  ·
   rw[if_pos hk4] at e2;refine RG (MV G G (DT hk4 (q1C G G) G (MV G G (SG (q01 G) G G G (SG (q0n G G) G G G (PT G G G (AS G G (NL ?_))))))));exact MN ⟨_,_,G,H,e2⟩
  rw[if_neg hk4] at e2;refine RG (MV G G (DF hk4 (q1C G G) G (MV G G (GF G G G (GF G G G (PF G G G (AS G G (NL ?_))))))));exact MN ⟨_,_,G,H,e2⟩
 rintro e w ⟨b3,M,rfl,H,q5⟩;obtain rfl:=oI q5;refine TN ?_;refine q0k G (fun hk6=>?_) (fun hk6=>?_)
 ·
  subst hk6;rw[if_pos rfl] at h;refine SQ ?_;obtain⟨n7,hx8,h⟩:=bnd h;refine RG (MV G G (MV G G (ST (Ex.convU8C Tu21 Tu5 G) G (q05 H (Y2p hx8) G trivial (q00 G) G ?_))));intro v170 M w H hle hR;obtain rfl:=hR;refine AS G G (NL (TN (RT ?_)));obtain rfl:=oI h;exact q07 G G H.ext G
 subst hk6;rw[if_neg l06] at h;refine SQ (RG (MV G G (ST (q0e G G) G (AS G G (NL (TN ?_))))));refine CB (p:=p1=(65533:Int)) G (fun hk9=>?_) fun hk9=>?_
 ·
  rw[if_pos hk9] at h;refine SQ (SQ (RG (MV G G (q2c H Tu9 G (q00 G) G ?_))));intro bk175 w H;refine NL (TN ?_);obtain⟨o10,e11,h⟩:=bnd h;refine q0h (fun e w =>∃  (M:Mem),e=[]∧St w0 M0 M [] w∧some (.inl ())=some o10) [] ?_ ?_ (trivial)
  ·
   refine BL (q0A (fun m e w =>∃(ps12:Nat) (M:Mem),e=[(175,ptr bk175 0)]∧St w0 M0 M [.blk bk175 (.stringIter ⟨((p0):Ls).toArray⟩ ps12)] w∧Y1M p0 m ps12=some o10) FU [(175,_)] ⟨rfl,trivial⟩ ⟨_,_,rfl,H,e11⟩ ?_);rintro m13 e w ⟨ps12,M,rfl,H,e11⟩;rcases m13 with _|m13
   · rw[Y1M] at e11;cases e11
   rw[Y1M] at e11;refine SQ ?_;by_cases hk14:ps12<p0.length
   ·
    rw[if_pos hk14] at e11;refine RG (WR.nextT H hk14 G Ku (q00 G) G ?_);intro w H;refine ST (q0b G G) G (NL (TN (SQ (CT G (SK (TN (BL (SQ (RG (ST (q0b G G) G (ST (q0b G G) G (AS G G (AS G G (NL (TN (SQ (RG (MV G G (ST (q0e G G) G (NL (TN ?_)))))))))))))))))))));refine CB (p:=((Utf.dr (p0.drop ps12)).1:Int)=(65533:Int)) G (fun hk15=>?_) fun hk15=>?_
    ·
     rw[if_pos hk15] at e11;refine SQ (RG (MV G G (AS G G (NL (TN (RT ?_))))));obtain rfl:=oI e11;try dsimp only at h
     obtain rfl:=oI h;exact q07 G G H.ext G
    rw[if_neg hk15] at e11;refine SK (IB ?_);exact AG m13 ⟨_,_,G,H,e11⟩ (l0b _)
   rw[if_neg hk14] at e11;refine RG (WR.nextF H (l1B hk14) G Km (q00 G) G ?_);refine ST (q0b G G) G (NL (TN (SQ (CF G (q0m (q06 (q06 (q0d ?_))))))));exact MN ⟨_,G,(H.pick (L':=[]) Kp),e11⟩
  rintro e w ⟨M,rfl,H,q16⟩;obtain rfl:=oI q16;try dsimp only at h
  refine TN (SQ (RG (AS G G (NL (TN (RT ?_))))));obtain rfl:=oI h;exact q07 G G H.ext G
 rw[if_neg hk9] at h;refine SQ ?_;obtain⟨b19,hx20,h⟩:=bnd h;refine RG (MV G G (q05 H (Y4J hx20) G trivial (q00 G) G ?_));intro v185 M w H hle hR;obtain rfl:=hR;refine ST (q0L G) G (AS G G (NL (TN ?_)));refine q0k G (fun hk21=>?_) (fun hk21=>?_)
 ·
  replace hk21:b19=false:=by simpa using hk21
  subst hk21;rw[if_neg l06] at h;refine SQ (RG (AS G G (NL (TN (RT ?_)))));obtain rfl:=oI h;exact q07 G G H.ext G
 replace hk21:b19=true:=by simpa using hk21
 subst hk21;rw[if_pos rfl] at h;refine WC.scope (SQ (RG (MV G G (ST (Ex.runeStr Tu21 Tu9 G) G (AS G G (NL (TN (SQ ?_))))))));obtain⟨n22,hxn22,h⟩:=bnd h;refine RG (MV G G (ST (q0g Tu9 G) G (ST (q1E G G hxn22) G (AS G G (NL (TN (SQ (RG (MV G G (AS G G (NL (TN (SQ (RG (AS G G (NL (TN (SQ ?_))))))))))))))))));obtain⟨o23,e24,h⟩:=bnd h;refine q0h (fun e w =>∃  (M:Mem),e=[]∧St w0 M0 M [] w∧some (.inl ())=some o23) [] ?_ ?_ (trivial)
 ·
  refine BL (q0A (fun m e w =>∃(n25:Int) (M:Mem),e=[(0,S p0),(7,S (Chs.utf8 p1)),(8,I n22),(9,I n25)]∧St w0 M0 M [] w∧Y1O p0 p1 n22 m n25=some o23) FU [(0,_),(7,_),(8,_),(9,_)] ⟨rfl,rfl,rfl,rfl,trivial⟩ ⟨_,_,rfl,H,e24⟩ ?_);rintro m26 e w ⟨n25,M,rfl,H,e24⟩;rcases m26 with _|m26
  · rw[Y1O] at e24;cases e24
  rw[Y1O] at e24;refine SQ (SQ (RG (MV G G (MV G G (ST (q0g Tu9 G) G (ST (q0n G G) G (NL (TN ?_))))))));refine CB (p:=n25<(p0.length:Int)) G (fun hk27=>?_) fun hk27=>?_
  ·
   rw[if_pos hk27] at e24;refine SK (TN (BL (WC.scope (SQ (SQ ?_)))));obtain⟨c28,hxc28,e24⟩:=bnd e24;obtain⟨c29,hxc29,e24⟩:=bnd e24;refine q0H (m:=7) G G H ?_;intro w H;refine TK 0 G (fun _=>q01 G) G (TK 1 G (fun _=>q01 G) G (TK 2 G (fun _=>q0t Tu9 G G hxc28) G (TK 3 G (fun _=>q01 G) G (q0v (fuel:=0) [4,5,6] G Kr (MV G G (ST (q0t Tu9 G G hxc29) G (ST (Ex.neqB (c:=c28) (d:=c29) G G) G (NA (q0l Kr (TN ?_))))))))));obtain⟨o30,e31,e24⟩:=bnd e24;refine q0h (fun e w =>∃(n32:Int) (M:Mem),e=[(0,S p0),(7,S (Chs.utf8 p1)),(8,I n22),(9,I n32)]∧St w0 M0 M [] w∧some (.inl n32)=some o30) [] ?_ ?_ (trivial)
   ·
    refine q0k G (fun hk33=>?_) (fun hk33=>?_)
    ·
     replace hk33 :¬(c28=c29):=of_not_decide hk33;rw[if_neg hk33] at e31;refine SQ ?_;obtain⟨n34,hxn34,e31⟩:=bnd e31;obtain⟨s35,hxs35,e31⟩:=bnd e31;obtain⟨c36,hxc36,e31⟩:=bnd e31;obtain⟨n37,hx38,e31⟩:=bnd e31;refine q0H (m:=9) G G H ?_;intro w H;refine TK 0 G (fun _=>q01 G) G (TK 1 G (fun _=>q01 G) G (TK 2 G (fun _=>q0p G G hxn34) G (TK 3 G (fun _=>q1U Tu9 G G hxs35) G (TK 4 G (fun _=>q01 G) G (q0v (fuel:=0) [5,6,7,8] G Kr (MV G G (ST (q0t Tu9 G G hxc36) G (q05 H (Y2p hx38) G trivial (q00 G) G ?_))))))));intro v41 M w H hle hR;obtain rfl:=hR;refine AS G G (NA (q0l Kr (TN (SQ (SQ (RG (MV G G (ST (q0n G G) G (NL (TN ?_))))))))));refine CB (p:=n37<(0:Int)) G (fun hk39=>?_) fun hk39=>?_
     ·
      rw[if_pos hk39] at e31;refine SQ (RG (AS G G (NL (TN (RT ?_)))));obtain rfl:=oI e31;try dsimp only at e24
      obtain rfl:=oI e24;try dsimp only at h
      obtain rfl:=oI h;exact q07 G G H.ext G
     rw[if_neg hk39] at e31;refine SK (TN ?_);obtain⟨n40,hxn40,e31⟩:=bnd e31;obtain⟨n41,hxn41,e31⟩:=bnd e31;refine RG (MV G G (MV G G (ST (q0p G G hxn40) G (ST (q0p G G hxn41) G (AS G G (NL ?_))))));exact MN ⟨_,_,G,H,e31⟩
    replace hk33:c28=c29:=of_not_decide' hk33;rw[if_pos hk33] at e31;refine SK ?_;exact MN ⟨_,_,G,H,e31⟩
   rintro e w ⟨n32,M,rfl,H,q42⟩;obtain rfl:=oI q42;try dsimp only at e24
   refine TN (SQ (SQ (RG (AS G G (NL (TN ?_))))));obtain⟨o43,e44,e24⟩:=bnd e24;refine q0h (fun e w =>∃  (M:Mem),e=[(8,I n22),(9,I n32)]∧St w0 M0 M [] w∧some ()=some o43) [] ?_ ?_ (trivial)
   ·
    refine BL (q0A (fun m e w =>∃(n45:Int) (M:Mem),e=[(0,S p0),(7,S (Chs.utf8 p1)),(8,I n22),(9,I n32),(12,I n45)]∧St w0 M0 M [] w∧Y1N p0 p1 n22 n32 m n45=some o43) FU [(0,_),(7,_),(8,_),(9,_),(12,_)] ⟨rfl,rfl,rfl,rfl,rfl,trivial⟩ ⟨_,_,rfl,H,e44⟩ ?_);rintro m46 e w ⟨n45,M,rfl,H,e44⟩;rcases m46 with _|m46
    · rw[Y1N] at e44;cases e44
    rw[Y1N] at e44;refine SQ (SQ (RG (MV G G (MV G G (ST (q0g Tu9 G) G (ST (q0n G G) G (NL (TN ?_))))))));refine CB (p:=n45<((Chs.utf8 p1).length:Int)) G (fun hk47=>?_) fun hk47=>?_
    ·
     rw[if_pos hk47] at e44;refine SK (TN (SQ (BL (SQ ?_))));obtain⟨n48,hxn48,e44⟩:=bnd e44;obtain⟨c49,hxc49,e44⟩:=bnd e44;obtain⟨n50,hxn50,e44⟩:=bnd e44;obtain⟨c51,hxc51,e44⟩:=bnd e44;refine q0H (m:=11) G G H ?_;intro w H;refine TK 0 G (fun _=>q01 G) G (TK 1 G (fun _=>q01 G) G (TK 2 G (fun _=>q01 G) G (TK 3 G (fun _=>q1E G G hxn48) G (TK 4 G (fun _=>q0t Tu9 G G hxc49) G (TK 5 G (fun _=>q01 G) G (TK 6 G (fun _=>q01 G) G ?_))))));refine q0v (fuel:=0) [7,8,9,10] G Kr (MV G G (ST (q1E G G hxn50) G (ST (q0t Tu9 G G hxc51) G (ST (Ex.neqB (c:=c49) (d:=c51) G G) G (NA (q0l Kr (TN ?_)))))));refine q0k G (fun hk52=>?_) (fun hk52=>?_)
     ·
      replace hk52 :¬(c49=c51):=of_not_decide hk52;rw[if_neg hk52] at e44;cases e44
     replace hk52:c49=c51:=of_not_decide' hk52;rw[if_pos hk52] at e44;refine SK (IB (TN ?_));obtain⟨n53,hxn53,e44⟩:=bnd e44;refine RG (MV G G (ST (q0p G G hxn53) G (AS G G (NL ?_))));exact AG m46 ⟨_,_,G,H,e44⟩ (l0b _)
    rw[if_neg hk47] at e44;refine q0m (q06 (q06 (q0d ?_)));exact MN ⟨_,G,H,e44⟩
   rintro e w ⟨M,rfl,H,q54⟩;obtain rfl:=oI q54;try dsimp only at e24
   refine TN (SQ (SQ ?_));obtain⟨n55,hxn55,e24⟩:=bnd e24;refine RG (MV G G (MV G G (ST (q1E G G hxn55) G (AS G G (NL (TN (RT ?_)))))));obtain rfl:=oI e24;try dsimp only at h
   obtain rfl:=oI h;exact q07 G G H.ext G
  rw[if_neg hk27] at e24;refine q0m (q06 (q06 (q0d ?_)));exact MN ⟨_,G,H,e24⟩
 rintro e w ⟨M,rfl,H,q58⟩;obtain rfl:=oI q58;try dsimp only at h
 refine TN (SQ (SQ (RG (AS G G (NL (TN (RT ?_)))))));obtain rfl:=oI h;exact q07 G G H.ext G
theorem Y3y {p0:Int}{r:Bool}(h:Y0D p0=some r):Ct Tryz.prog 162 [I p0] (fun M=>True) (fun v M=>v=Value.bool r):=by
 refine Ct.of Tf162 (enters Tf162 Kr G) G G G ?_;intro w0 M0 H hp;unfold Y0D at h;refine SQ (RG (AS G G (NL (TN (SQ (RG (MV G G (ST (q0E G G) G (AS G G (NL (TN (RT ?_))))))))))));obtain rfl:=oI h;exact q07 G G H.ext G
theorem Y3e {p0:Ls}{r:(List Bool × Bool)}(h:Y0G p0=some r):Ct Tryz.prog 99 [S p0] (fun M=>True) (fun v M=>v=Value.tuple #[Value.agg (List.map encBo r.1).toArray,Value.bool r.2]):=by
 refine Ct.of Tf99 (enters Tf99 Kr G) G G G ?_;intro w0 M0 H hp;unfold Y0G at h;refine SQ (RG (q0j (List.map encBo (List.replicate 256 false:List Bool)) H Tz115 Kr (q00 G) G ?_));intro bk2 w H;refine AS G G (NL (TN (SQ (SQ (RG (AS G G (NL (TN ?_))))))));obtain⟨o1,e2,h⟩:=bnd h;refine q0h (fun e w =>∃(l3:List Bool) (M:Mem),e=[(2,ptr bk2 0)]∧St w0 M0 M [.blk bk2 (.cells (List.map encBo l3).toArray 115)] w∧some (.inl l3)=some o1) [] ?_ ?_ (trivial)
 ·
  refine BL (q0A (fun m e w =>∃(l4:List Bool) (n5:Int) (M:Mem),e=[(0,S p0),(2,ptr bk2 0),(4,I n5)]∧St w0 M0 M [.blk bk2 (.cells (List.map encBo l4).toArray 115)] w∧Y1c p0 m l4 n5=some o1) FU [(0,_),(2,_),(4,_)] ⟨rfl,rfl,rfl,trivial⟩ ⟨_,_,_,rfl,H,e2⟩ ?_);rintro m6 e w ⟨l4,n5,M,rfl,H,e2⟩;rcases m6 with _|m6
  · rw[Y1c] at e2;cases e2
  rw[Y1c] at e2;refine SQ (SQ (RG (MV G G (MV G G (ST (q0g Tu9 G) G (ST (q0n G G) G (NL (TN ?_))))))));refine CB (p:=n5<(p0.length:Int)) G (fun hk7=>?_) fun hk7=>?_
  ·
   rw[if_pos hk7] at e2;refine SK (TN (SQ (BL (SQ ?_))));obtain⟨c8,hxc8,e2⟩:=bnd e2;refine RG (MV G G (MV G G (ST (q0t Tu9 G G hxc8) G (AS G G (NL (TN (SQ (SQ (RG (MV G G (ST (q1f (i:=c8.toNat) (j:=128) G G) G (NL (TN ?_)))))))))))));refine CB (p:=128≤c8.toNat) G (fun hk9=>?_) fun hk9=>?_
   ·
    rw[if_pos hk9] at e2;refine SQ ?_;obtain⟨l10,hxl10,e2⟩:=bnd e2;obtain⟨l11,hxl11,e2⟩:=bnd e2;obtain⟨l12,hxl12,e2⟩:=bnd e2;refine RG (ST (Ex.loadAggA H G Km Ta115 Ts115 hxl10) G ?_);refine WR.storeA (l2:=l10) H G G (fun _=>G) (fun _=>by repeat first|exact .head|apply Upd.tail) hxl11 hxl12 Ts115 (q00 G) ?_;intro w H;refine AS G G (NL (TN (RT ?_)));obtain⟨l13,hxl13,e2⟩:=bnd e2;obtain rfl:=oI e2;try dsimp only at h
    obtain rfl:=oI h;exact q0y G ⟨_,G,H.loadAggA Km Ta115 Ts115 hxl13⟩ G H.ext G
   rw[if_neg hk9] at e2;refine SK (TN ?_);obtain⟨a14,hxa14,e2⟩:=bnd e2;obtain⟨l15,hxl15,e2⟩:=bnd e2;refine RG (MV G G (ST (Ex.idxArrC (l:=l4) Tu115 Ts4 G G hxa14) G (WR.storeArr (a:=true) H G G ⟨G,G⟩ (fun _=>by repeat first|exact .head|apply Upd.tail) hxl15 Ts4 (q00 G) ?_)));intro w H;refine NL (IB (TN ?_));obtain⟨n16,hxn16,e2⟩:=bnd e2;refine RG (MV G G (ST (q0p G G hxn16) G (AS G G (NL ?_))));exact AG m6 ⟨_,_,_,G,H,e2⟩ (l0b _)
  rw[if_neg hk7] at e2;refine q0m (q06 (q06 (q0d ?_)));exact MN ⟨_,_,G,H,e2⟩
 rintro e w ⟨l3,M,rfl,H,q17⟩;obtain rfl:=oI q17;try dsimp only at h
 refine TN (SQ ?_);obtain⟨l18,hxl18,h⟩:=bnd h;obtain⟨l19,hxl19,h⟩:=bnd h;obtain⟨l20,hxl20,h⟩:=bnd h;refine RG (ST (Ex.loadAggA H G Km Ta115 Ts115 hxl18) G ?_);refine WR.storeA (l2:=l18) H G G (fun _=>G) (fun _=>by repeat first|exact .head|apply Upd.tail) hxl19 hxl20 Ts115 (q00 G) ?_;intro w H;refine AS G G (NL (TN (RT ?_)));obtain⟨l21,hxl21,h⟩:=bnd h;obtain rfl:=oI h;exact q0y G ⟨_,G,H.loadAggA Km Ta115 Ts115 hxl21⟩ G H.ext G
theorem Y1W {p0:List Bool}{p1:UInt8}{bp0:Nat}{r:Bool}(h:Y0t p0 p1=some r):Ct Tryz.prog 129 [ptr bp0 0,encB p1] (fun M=>PtM M bp0 (.cells (List.map encBo p0).toArray 115)) (fun v M=>v=Value.bool r):=by
 refine Ct.of Tf129 (enters Tf129 Kr G) G G G ?_;intro w0 M0 H hp;have hp0:=hp;unfold Y0t at h;refine SQ (RG (AS G G (NL (TN (SQ ?_)))));obtain⟨a1,hxa1,h⟩:=bnd h;refine RG (MV G G (MV G G (ST (q0K G) G (ST (Ex.idxArrC (l:=p0) Tu115 Ts4 G G hxa1) G (ST (Ex.loadArrM H G hp0 hxa1 Ta4) G (AS G G (NL (TN (RT ?_)))))))));obtain rfl:=oI h;exact q07 G G H.ext G
theorem Y4t {p0:Ls}{p1:Ls}{r:Int}(h:Y27 p0 p1=some r):Ct Tryz.prog 127 [S p0,S p1] (fun M=>True) (fun v M=>v=I r):=by
 refine Ct.of Tryz.func127 (enters Tryz.func127 Kr G) G G G ?_;intro w0 M0 H hp;unfold Y27 at h;refine SQ (RG (AS G G (NL (TN (SQ (SQ (RG (MV G G (ST (q0z G G) G (NL (TN ?_)))))))))));refine CB (p:=p1=[]) G (fun hk1=>?_) fun hk1=>?_
 ·
  rw[if_pos hk1] at h;refine SQ (RG (AS G G (NL (TN (RT ?_)))));obtain rfl:=oI h;exact q07 G G H.ext G
 rw[if_neg hk1] at h;refine SK (TN (SQ (SQ (RG (MV G G (ST (q0g Tu9 G) G (ST (q0e G G) G (NL (TN ?_)))))))));refine CB (p:=(p1.length:Int)=(1:Int)) G (fun hk2=>?_) fun hk2=>?_
 ·
  rw[if_pos hk2] at h;refine SQ ?_;obtain⟨c3,hxc3,h⟩:=bnd h;refine RG (MV G G (ST (q0t Tu9 G G hxc3) G (ST (q1V Tu5 Tu21 G) G (AS G G (NL (TN (SQ (SQ (RG (MV G G (ST (q1a G G) G (NL (TN ?_)))))))))))));obtain⟨o4,e5,h⟩:=bnd h;refine q0h (fun e w =>∃(n6:Int) (M:Mem),e=[(0,S p0),(5,Value.int .i32 n6)]∧St w0 M0 M [] w∧some n6=some o4) [] ?_ ?_ (trivial)
  ·
   refine CB (p:=(128:Int)≤(IntKind.i32.wrap (c3.toNat:Int))) G (fun hk7=>?_) fun hk7=>?_
   ·
    rw[if_pos hk7] at e5;refine RG (AS G G (NL ?_));exact MN ⟨_,_,G,H,e5⟩
   rw[if_neg hk7] at e5;refine SK ?_;exact MN ⟨_,_,G,H,e5⟩
  rintro e w ⟨n6,M,rfl,H,q8⟩;obtain rfl:=oI q8;refine TN (SQ ?_);obtain⟨n9,hx10,h⟩:=bnd h;refine RG (MV G G (MV G G (q05 H (Y3v hx10) G trivial (q00 G) G ?_)));intro v23 M w H hle hR;obtain rfl:=hR;refine AS G G (NL (TN (RT ?_)));obtain rfl:=oI h;exact q07 G G H.ext G
 rw[if_neg hk2] at h;refine SK (TN (SQ (SQ ?_)));obtain⟨b11,hx12,h⟩:=bnd h;refine RG (MV G G (ST (q0g Tu9 G) G (q05 H (Y3y hx12) G trivial (q00 G) G ?_)));intro v26 M w H hle hR;obtain rfl:=hR;refine NL (TN ?_);obtain⟨o13,e14,h⟩:=bnd h;refine q0h (fun e w =>∃  (M:Mem),e=[(0,S p0),(1,S p1)]∧St w0 M0 M [] w∧some (.inl ())=some o13) [] ?_ ?_ (trivial)
 ·
  refine q0k G (fun hk15=>?_) (fun hk15=>?_)
  ·
   subst hk15;rw[if_pos rfl] at e14;refine SQ ?_;obtain⟨⟨n16,b17⟩,hx18,e14⟩:=bnd e14;try dsimp only at e14
   obtain⟨l19,hxl19,e14⟩:=bnd e14;obtain⟨l20,hxl20,e14⟩:=bnd e14;refine RG (MV G G (q05 H (Y3e hx18) G trivial (q00 G) G ?_));intro v29 M w H hle hR;try dsimp only at hR
   obtain rfl:=hR;refine MV G G (ST (q0b G G) G (ST (q0b G G) G (q0j (List.map encBo (List.replicate 256 false:List Bool)) H Tz115 Kr (q00 G) G ?_)));intro bk6 w H;refine WR.storeA (l2:=n16) H G G (fun _=>G) (fun _=>by repeat first|exact .head|apply Upd.tail) hxl19 hxl20 Ts115 (q00 G) ?_;intro w H;refine AS G G (NL (TN (SQ (RG (MV G G (NL (TN ?_)))))));refine q0k G (fun hk21=>?_) (fun hk21=>?_)
   ·
    subst hk21;rw[if_pos rfl] at e14;refine SQ (SQ (RG (AS G G (NL (TN ?_)))));obtain⟨o22,e23,e14⟩:=bnd e14;refine q0h (fun e w =>∃  (M:Mem),e=[]∧St w0 M0 M [] w∧some (.inl ())=some o22) [] ?_ ?_ (trivial)
    ·
     refine BL ?_;obtain⟨M,hle,hb24,H⟩:=H.freezeVar (b:=bk6) Kv;refine q0A (fun m e w =>∃(n25:Int) (M:Mem),e=[(0,S p0),(6,ptr bk6 0),(8,I n25)]∧St w0 M0 M [] w∧PtM M bk6 (.cells (List.map encBo n16).toArray 115)∧Y0M p0 n16 m n25=some o22) FU [(0,_),(6,_),(8,_)] ⟨rfl,rfl,rfl,trivial⟩ ⟨_,_,rfl,H,hb24,e23⟩ ?_;rintro m26 e w ⟨n25,M,rfl,H,hb24,e23⟩;rcases m26 with _|m26
     · rw[Y0M] at e23;cases e23
     rw[Y0M] at e23;refine SQ (SQ (RG (MV G G (MV G G (ST (q0g Tu9 G) G (ST (q0n G G) G (NL (TN ?_))))))));refine CB (p:=n25<(p0.length:Int)) G (fun hk27=>?_) fun hk27=>?_
     ·
      rw[if_pos hk27] at e23;refine SK (TN (SQ (BL (SQ ?_))));obtain⟨c28,hxc28,e23⟩:=bnd e23;obtain⟨b29,hx30,e23⟩:=bnd e23;refine RG (MV G G (MV G G (ST (q0t Tu9 G G hxc28) G (q05 H (Y1W hx30) G (hb24) (q00 G) G ?_))));intro v42 M w H hle hR;replace hb24:=hb24.mono hle;obtain rfl:=hR;refine NL (TN ?_);refine q0k G (fun hk31=>?_) (fun hk31=>?_)
      ·
       subst hk31;rw[if_pos rfl] at e23;refine SQ (RG (MV G G (AS G G (NL (TN (RT ?_))))));obtain rfl:=oI e23;try dsimp only at e14
       obtain rfl:=oI e14;try dsimp only at h
       obtain rfl:=oI h;exact q07 G G H.ext G
      subst hk31;rw[if_neg l06] at e23;refine SK (IB (TN ?_));obtain⟨n32,hxn32,e23⟩:=bnd e23;refine RG (MV G G (ST (q0p G G hxn32) G (AS G G (NL ?_))));exact AG m26 ⟨_,_,G,H,hb24,e23⟩ (l0b _)
     rw[if_neg hk27] at e23;refine q0m (q06 (q06 (q0d ?_)));exact MN ⟨_,G,H,e23⟩
    rintro e w ⟨M,rfl,H,q33⟩;obtain rfl:=oI q33;try dsimp only at e14
    refine TN (SQ (RG (AS G G (NL (TN (RT ?_))))));obtain rfl:=oI e14;try dsimp only at h
    obtain rfl:=oI h;exact q07 G G H.ext G
   subst hk21;rw[if_neg l06] at e14;refine SK ?_;exact MN ⟨_,G,(H.pick (L':=[]) Kp),e14⟩
  subst hk15;rw[if_neg l06] at e14;refine SK ?_;exact MN ⟨_,G,H,e14⟩
 rintro e w ⟨M,rfl,H,q36⟩;obtain rfl:=oI q36;try dsimp only at h
 refine TN (SQ (SQ (RG (MV G G (q2c H Tu9 G (q00 G) G ?_)))));intro bk45 w H;refine NL (TN ?_);obtain⟨o37,e38,h⟩:=bnd h;refine q0h (fun e w =>∃  (M:Mem),e=[]∧St w0 M0 M [] w∧some (.inl ())=some o37) [] ?_ ?_ (trivial)
 ·
  refine BL (q0A (fun m e w =>∃(ps39:Nat) (M:Mem),e=[(1,S p1),(45,ptr bk45 0)]∧St w0 M0 M [.blk bk45 (.stringIter ⟨((p0):Ls).toArray⟩ ps39)] w∧Y0N p0 p1 m ps39=some o37) FU [(1,_),(45,_)] ⟨rfl,rfl,trivial⟩ ⟨_,_,rfl,H,e38⟩ ?_);rintro m40 e w ⟨ps39,M,rfl,H,e38⟩;rcases m40 with _|m40
  · rw[Y0N] at e38;cases e38
  rw[Y0N] at e38;refine SQ ?_;by_cases hk41:ps39<p0.length
  ·
   rw[if_pos hk41] at e38;refine RG (WR.nextT H hk41 G Ku (q00 G) G ?_);intro w H;refine ST (q0b G G) G (NL (TN (SQ (CT G (SK (TN (BL (SQ (RG (ST (q0b G G) G (ST (q0b G G) G (AS G G (AS G G (NL (TN (SQ ?_))))))))))))))));obtain⟨n42,hx43,e38⟩:=bnd e38;refine RG (MV G G (MV G G (q05 H (Y3v hx43) G trivial (q00 G) G ?_)));intro v52 M w H hle hR;obtain rfl:=hR;refine ST (q1a G G) G (NL (TN ?_));refine CB (p:=(0:Int)≤n42) G (fun hk44=>?_) fun hk44=>?_
   ·
    rw[if_pos hk44] at e38;refine SQ (RG (MV G G (AS G G (NL (TN (RT ?_))))));obtain rfl:=oI e38;try dsimp only at h
    obtain rfl:=oI h;exact q07 G G H.ext G
   rw[if_neg hk44] at e38;refine SK (IB ?_);exact AG m40 ⟨_,_,G,H,e38⟩ (l0b _)
  rw[if_neg hk41] at e38;refine RG (WR.nextF H (l1B hk41) G Km (q00 G) G ?_);refine ST (q0b G G) G (NL (TN (SQ (CF G (q0m (q06 (q06 (q0d ?_))))))));exact MN ⟨_,G,(H.pick (L':=[]) Kp),e38⟩
 rintro e w ⟨M,rfl,H,q45⟩;obtain rfl:=oI q45;try dsimp only at h
 refine TN (SQ (RG (AS G G (NL (TN (RT ?_))))));obtain rfl:=oI h;exact q07 G G H.ext G
theorem Y4c {p0:Ls}{p1:Ls}{r:Bool}(h:Y1r p0 p1=some r):Ct Tryz.prog 95 [S p0,S p1] (fun M=>True) (fun v M=>v=Value.bool r):=by
 refine Ct.of Tryz.func95 (enters Tryz.func95 Kr G) G G G ?_;intro w0 M0 H hp;unfold Y1r at h;refine SQ (RG (AS G G (NL (TN (SQ ?_)))));obtain⟨n1,hx2,h⟩:=bnd h;refine RG (MV G G (MV G G (q05 H (Y4t hx2) G trivial (q00 G) G ?_)));intro v7 M w H hle hR;obtain rfl:=hR;refine ST (q1a G G) G (AS G G (NL (TN (RT ?_))));obtain rfl:=oI h;exact q07 G G H.ext G
theorem fold_ends_ct {p0:Ls}{r:Bool}(h:fold_ends p0=some r):Ct Tryz.prog 61 [S p0] (fun M=>True) (fun v M=>v=Value.bool r):=by
 refine Ct.of Tryz.func61 (enters Tryz.func61 Kr G) G G G ?_;intro w0 M0 H hp;unfold fold_ends at h;refine SQ (RG (AS G G (NL (TN (SQ ?_)))));obtain⟨b1,hx2,h⟩:=bnd h;refine RG (MV G G (q05 H (Y4c hx2) G trivial (q00 G) G ?_));intro v4 M w H hle hR;obtain rfl:=hR;refine AS G G (NL (TN (RT ?_)));obtain rfl:=oI h;exact q07 G G H.ext G
theorem fold_value_ct {p0:Ls}{r:Bool}(h:fold_value p0=some r):Ct Tryz.prog 59 [S p0] (fun M=>True) (fun v M=>v=Value.bool r):=by
 refine Ct.of Tryz.func59 (enters Tryz.func59 Kr G) G G G ?_;intro w0 M0 H hp;unfold fold_value at h;refine SQ (RG (AS G G (NL (TN (SQ ?_)))));obtain⟨o1,e2,h⟩:=bnd h;refine q0h (fun e w =>∃(b3:Bool) (M:Mem),e=[(2,Value.bool b3)]∧St w0 M0 M [] w∧some b3=some o1) [] ?_ ?_ (trivial)
 ·
  obtain⟨b4,hx5,e2⟩:=bnd e2;refine RG (MV G G (q05 H (fold_ends_ct hx5) G trivial (q00 G) G ?_));intro v4 M w H hle hR;obtain rfl:=hR;refine ST (q0L G) G (MV G G ?_);rcases b4 with _|_
  ·
   rw[if_neg l06] at e2;by_cases hk6:p0=[]
   ·
    rw[if_pos hk6] at e2;refine SG (q01 G) G G G (DU hk6 (q0z G G) G G G (SG (q01 G) G G G (q0i 13 G G (SG (q0r G G) G G G (PT G G G (AS G G (NL ?_)))))));exact MN ⟨_,_,G,H,e2⟩
   rw[if_neg hk6] at e2;obtain⟨c7,hxc7,e2⟩:=bnd e2;obtain⟨b8,hx9,e2⟩:=bnd e2;refine SG (q01 G) G G G (DG hk6 (q0z G G) G G G ?_);rcases b8 with _|_
   ·
    rw[if_neg l06] at e2;obtain⟨n10,hxn10,e2⟩:=bnd e2;obtain⟨c11,hxc11,e2⟩:=bnd e2;obtain⟨b12,hx13,e2⟩:=bnd e2;refine SG (q01 G) G G G (SG (q01 G) G G G (SG (q0t Tu9 G G hxc7) G G G (q05 H (Y21 hx9) G trivial (q04 G G G) G ?_)));intro v12 M w H hle hR;obtain rfl:=hR;refine SG (q0L G) G G G (SG (q01 G) G G G (SG (q01 G) G G G (SG (q01 G) G G G (SG (q0g Tu9 G) G G G (SG (q1E G G hxn10) G G G (SG (q0t Tu9 G G hxc11) G G G (q05 H (Y21 hx13) G trivial (q04 G G G) G ?_)))))));intro v20 M w H hle hR;obtain rfl:=hR;refine SG (q0L G) G G G (SG (q0r G G) G G G (SG (q0s G G) G G G (PT G G G (AS G G (NL ?_)))));exact MN ⟨_,_,G,H,e2⟩
   rw[if_pos rfl] at e2;refine SG (q01 G) G G G (SG (q01 G) G G G (SG (q0t Tu9 G G hxc7) G G G (q05 H (Y21 hx9) G trivial (q04 G G G) G ?_)));intro v12 M w H hle hR;obtain rfl:=hR;refine SG (q0L G) G G G (SG (q01 G) G G G (q0i 7 G G (SG (q0s G G) G G G (SG (q0s G G) G G G (PT G G G (AS G G (NL ?_)))))));exact MN ⟨_,_,G,H,e2⟩
  rw[if_pos rfl] at e2;refine q0i 17 G G (PF G G G (AS G G (NL ?_)));exact MN ⟨_,_,G,H,e2⟩
 rintro e w ⟨b3,M,rfl,H,q14⟩;obtain rfl:=oI q14;refine TN (RT ?_);obtain rfl:=oI h;exact q07 G G H.ext G
theorem fold_point_ct {p0:Ls}{p1:Int}{r:Int}(h:fold_point p0 p1=some r):Ct Tryz.prog 60 [S p0,I p1] (fun M=>True) (fun v M=>v=I r):=by
 refine Ct.of Tryz.func60 (enters Tryz.func60 Kr G) G G G ?_;intro w0 M0 H hp;unfold fold_point at h;refine SQ (RG (AS G G (NL (TN (SQ (RG (AS G G (NL (TN (SQ (SQ (RG (MV G G (ST (Ex.max2 G G) G (AS G G (NL (TN ?_)))))))))))))))));obtain⟨o1,e2,h⟩:=bnd h;refine q0h (fun e w =>∃(n3:Int) (M:Mem),e=[(5,I n3)]∧St w0 M0 M [] w∧some n3=some o1) [] ?_ ?_ (trivial)
 ·
  refine BL (q0A (fun m e w =>∃(n4:Int) (n5:Int) (M:Mem),e=[(0,S p0),(5,I n4),(6,I n5)]∧St w0 M0 M [] w∧fold_point_L1 p0 m n4 n5=some o1) FU [(0,_),(5,_),(6,_)] ⟨rfl,rfl,rfl,trivial⟩ ⟨_,_,_,rfl,H,e2⟩ ?_);rintro m6 e w ⟨n4,n5,M,rfl,H,e2⟩;rcases m6 with _|m6
  · rw[fold_point_L1] at e2;cases e2
  rw[fold_point_L1] at e2;refine SQ (SQ (RG (MV G G (MV G G (ST (q0g Tu9 G) G (ST (q0n G G) G (NL (TN ?_))))))));refine CB (p:=n5<(p0.length:Int)) G (fun hk7=>?_) fun hk7=>?_
  ·
   rw[if_pos hk7] at e2;refine SK (TN (SQ (BL (SQ (SQ ?_)))));obtain⟨o8,e9,e2⟩:=bnd e2;refine q0h (fun e w =>∃(b10:Bool) (M:Mem),e=[(0,S p0),(5,I n4),(6,I n5),(26,Value.bool b10)]∧St w0 M0 M [] w∧some b10=some o8) [] ?_ ?_ (trivial)
   ·
    obtain⟨c11,hxc11,e9⟩:=bnd e9;obtain⟨b12,hx13,e9⟩:=bnd e9;refine RG (MV G G (MV G G (ST (q0t Tu9 G G hxc11) G (q05 H (Y21 hx13) G trivial (q00 G) G ?_))));intro v18 M w H hle hR;obtain rfl:=hR;refine ST (q0L G) G (MV G G ?_);rcases b12 with _|_
    ·
     rw[if_neg l06] at e9;refine q0i 5 G G (PT G G G (NL ?_));exact MN ⟨_,_,G,H,e9⟩
    rw[if_pos rfl] at e9;obtain⟨n14,hxn14,e9⟩:=bnd e9;obtain⟨c15,hxc15,e9⟩:=bnd e9;obtain⟨b16,hx17,e9⟩:=bnd e9;refine SG (q01 G) G G G (SG (q01 G) G G G (SG (q1E G G hxn14) G G G (SG (q0t Tu9 G G hxc15) G G G (q05 H (Y21 hx17) G trivial (q04 G G G) G ?_))));intro v25 M w H hle hR;obtain rfl:=hR;refine PF G G G (NL ?_);exact MN ⟨_,_,G,H,e9⟩
   rintro e w ⟨b10,M,rfl,H,q18⟩;obtain rfl:=oI q18;refine TN ?_;refine q0k G (fun hk19=>?_) (fun hk19=>?_)
   ·
    subst hk19;rw[if_pos rfl] at e2;refine q0m (q06 (q0d (TN ?_)));obtain⟨n20,hxn20,e2⟩:=bnd e2;refine RG (MV G G (ST (q0p G G hxn20) G (AS G G (NL ?_))));exact AG m6 ⟨_,_,_,G,H,e2⟩ (l0b _)
   subst hk19;rw[if_neg l06] at e2;refine SK (TN (SQ (SQ ?_)));obtain⟨o21,e22,e2⟩:=bnd e2;refine q0h (fun e w =>∃(b23:Bool) (M:Mem),e=[(0,S p0),(5,I n4),(6,I n5),(32,Value.bool b23)]∧St w0 M0 M [] w∧some b23=some o21) [] ?_ ?_ (trivial)
   ·
    by_cases hk24:(0:Int)<n4
    ·
     rw[if_pos hk24] at e22;refine RG (MV G G (DT hk24 (q0E G G) G (MV G G (SG (q01 G) G G G (SG (q0E G G) G G G (PT G G G (NL ?_)))))));exact MN ⟨_,_,G,H,e22⟩
    rw[if_neg hk24] at e22;refine RG (MV G G (DF hk24 (q0E G G) G (MV G G (GF G G G (GF G G G (PF G G G (NL ?_)))))));exact MN ⟨_,_,G,H,e22⟩
   rintro e w ⟨b23,M,rfl,H,q25⟩;obtain rfl:=oI q25;refine TN ?_;refine q0k G (fun hk26=>?_) (fun hk26=>?_)
   ·
    subst hk26;rw[if_pos rfl] at e2;refine q0m (q06 (q2p G (q06 (q06 (q0d ?_)))));exact MN ⟨_,_,G,H,e2⟩
   subst hk26;rw[if_neg l06] at e2;refine SK (TN (RG (MV G G (AS G G (NL (IB (TN ?_)))))));obtain⟨n27,hxn27,e2⟩:=bnd e2;refine RG (MV G G (ST (q0p G G hxn27) G (AS G G (NL ?_))));exact AG m6 ⟨_,_,_,G,H,e2⟩ (l0b _)
  rw[if_neg hk7] at e2;refine q0m (q06 (q06 (q0d ?_)));exact MN ⟨_,_,G,H,e2⟩
 rintro e w ⟨n3,M,rfl,H,q28⟩;obtain rfl:=oI q28;refine TN (SQ (RG (MV G G (AS G G (NL (TN (RT ?_)))))));obtain rfl:=oI h;exact q07 G G H.ext G
theorem fold_Fold_ct {p0:Ls}{p1:Ls}{r:(List Ls × (Int × Int))}(h:fold_Fold p0 p1=some r):Ct Tryz.prog 27 [S p0,S p1] (fun M=>True) (fun v M =>∃x0,v=Value.tuple #[x0,Value.agg #[I r.2.1,I r.2.2]]∧Sl M encS x0 r.1):=by
 refine Ct.of Tryz.func27 (enters Tryz.func27 Kr G) G G G ?_;intro w0 M0 H hp;unfold fold_Fold at h;refine SQ (RG (AS G G (q0j [_,_] H Tz27 G (q00 G) G ?_)));intro bk5 w H;refine NL (TN (SQ (BL (SQ ?_))));obtain⟨b1,hx2,h⟩:=bnd h;refine RG (MV G G (q05 H (fold_name_ct hx2) G trivial (q00 G) G ?_));intro v14 M w H hle hR;obtain rfl:=hR;refine ST (q0L G) G (AS G G (NL (TN ?_)));refine q0k G (fun hk3=>?_) (fun hk3=>?_)
 ·
  replace hk3:b1=false:=by simpa using hk3
  subst hk3;rw[if_neg l06] at h;refine SQ ?_;obtain⟨⟨n4,n5⟩,hx6,h⟩:=bnd h;try dsimp only at h
  refine RG (q05 H (Y07 hx6) G trivial (q00 G) G ?_);intro v16 M w H hle hR;try dsimp only at hR
  obtain rfl:=hR;refine AS G G (q0c [_,_] H G G G Ku Ts27 G Kf Kf (q00 G) ?_);intro w H;refine NL (TN (RT ?_));obtain rfl:=oI h;exact q0y G G ⟨_,G,H.loadAgg Km Ta27 Ts27 Kf⟩ H.ext (⟨_,G,q2e _ _⟩)
 replace hk3:b1=true:=by simpa using hk3
 subst hk3;rw[if_pos rfl] at h;refine SQ (RG (MV G G (ST (q0g Tu9 G) G (ST (q0E G G) G (AS G G (NL (TN ?_)))))));refine CB (p:=(4000:Int)<(p1.length:Int)) G (fun hk7=>?_) fun hk7=>?_
 ·
  rw[if_pos hk7] at h;refine SQ ?_;obtain⟨⟨n8,n9⟩,hx10,h⟩:=bnd h;try dsimp only at h
  refine RG (q05 H (Y07 hx10) G trivial (q00 G) G ?_);intro v21 M w H hle hR;try dsimp only at hR
  obtain rfl:=hR;refine AS G G (q0c [_,_] H G G G Ku Ts27 G Kf Kf (q00 G) ?_);intro w H;refine NL (TN (RT ?_));obtain rfl:=oI h;exact q0y G G ⟨_,G,H.loadAgg Km Ta27 Ts27 Kf⟩ H.ext (⟨_,G,q2e _ _⟩)
 rw[if_neg hk7] at h;refine SQ ?_;obtain⟨b11,hx12,h⟩:=bnd h;refine RG (MV G G (q05 H (fold_value_ct hx12) G trivial (q00 G) G ?_));intro v24 M w H hle hR;obtain rfl:=hR;refine ST (q0L G) G (AS G G (NL (TN ?_)));refine q0k G (fun hk13=>?_) (fun hk13=>?_)
 ·
  replace hk13:b11=false:=by simpa using hk13
  subst hk13;rw[if_neg l06] at h;refine SQ ?_;obtain⟨⟨n14,n15⟩,hx16,h⟩:=bnd h;try dsimp only at h
  refine RG (q05 H (Y07 hx16) G trivial (q00 G) G ?_);intro v26 M w H hle hR;try dsimp only at hR
  obtain rfl:=hR;refine AS G G (q0c [_,_] H G G G Ku Ts27 G Kf Kf (q00 G) ?_);intro w H;refine NL (TN (RT ?_));obtain rfl:=oI h;exact q0y G G ⟨_,G,H.loadAgg Km Ta27 Ts27 Kf⟩ H.ext (⟨_,G,q2e _ _⟩)
 replace hk13:b11=true:=by simpa using hk13
 subst hk13;rw[if_pos rfl] at h;refine SK (IB (TN (SQ ?_)));obtain⟨s17,hxs17,h⟩:=bnd h;obtain⟨s18,hxs18,h⟩:=bnd h;obtain⟨n19,hxn19,h⟩:=bnd h;refine RG (MV G G (ST (q0q G G hxs17) G (MV G G (ST (q0q G G hxs18) G (MV G G (ST (q0g Tu9 G) G (ST (q0p G G hxn19) G (AS G G (AS G G (NL (TN (SQ (RG (AS G G (NL (TN (SQ ?_)))))))))))))))));obtain⟨o20,e21,h⟩:=bnd h;refine q0h (fun e w =>∃(s22:Ls) (l24:List Ls) (v25:Value) (M:Mem),e=[(5,ptr bk5 0),(6,S s22),(8,v25)]∧St w0 M0 M [.blk bk5 (.cells #[I 0,I 0] 27),RowI 9 encS v25 l24] w∧some (s22,l24)=some o20) [] ?_ ?_ (trivial)
 ·
  refine BL ?_;replace H:=H.newRow 9 encS;refine q0A (fun m e w =>∃(s26:Ls) (n27:Int) (l29:List Ls) (v30:Value) (M:Mem),e=[(5,ptr bk5 0),(6,S s26),(7,I n27),(8,v30)]∧St w0 M0 M [.blk bk5 (.cells #[I 0,I 0] 27),RowI 9 encS v30 l29] w∧fold_Fold_L1  m s26 n27 l29=some o20) FU [(5,_),(6,_),(7,_),(8,_)] ⟨rfl,rfl,rfl,rfl,trivial⟩ ⟨_,_,_,_,_,rfl,(H.pick (L':=[.blk bk5 (.cells #[I 0,I 0] 27),RowI 9 encS (Value.slice none 0 0) []]) Kp),e21⟩ ?_;rintro m31 e w ⟨s26,n27,l29,v30,M,rfl,H,e21⟩;rcases m31 with _|m31
  · rw[fold_Fold_L1] at e21;cases e21
  rw[fold_Fold_L1] at e21;refine SQ (SQ (RG (MV G G (ST (q0g Tu9 G) G (ST (q0E G G) G (NL (TN ?_)))))));refine CB (p:=(78:Int)<(s26.length:Int)) G (fun hk33=>?_) fun hk33=>?_
  ·
   rw[if_pos hk33] at e21;refine SK (TN (BL (SQ ?_)));obtain⟨n34,hx35,e21⟩:=bnd e21;refine RG (MV G G (MV G G (q05 H (fold_point_ct hx35) G trivial (q00 G) G ?_)));intro v39 M w H hle hR;obtain rfl:=hR;refine AS G G (NL (TN (SQ (SQ (RG (MV G G (ST (q0e G G) G (NL (TN ?_)))))))));refine CB (p:=n34=(0:Int)) G (fun hk36=>?_) fun hk36=>?_
   ·
    rw[if_pos hk36] at e21;refine q0m (q06 (q2p G (q06 (q0d ?_))));exact MN ⟨_,_,_,_,G,H,e21⟩
   rw[if_neg hk36] at e21;refine SK (TN (SQ ?_));obtain⟨s37,hxs37,e21⟩:=bnd e21;obtain⟨l38,hxl38,e21⟩:=bnd e21;refine RG (MV G G (MV G G (MV G G (ST (q2m Tu9 G G hxs37) G (q0F (enc:=encS) xty55 ([s37]:List Ls) H G Kf (fun _=>G) G G (q00 G) G ?_)))));intro v46 M w H hle hs46;refine q1g (l:=l29) xty55 G (fun _=>G) H G (fun _=>by repeat first|exact .head|apply Upd.tail) G (hs46) hxl38 (q00 G) G ?_;intro v47 w H;refine AS G G (NL (TN ?_));obtain⟨s39,hxs39,e21⟩:=bnd e21;refine RG (MV G G (MV G G (ST (q1U Tu9 G G hxs39) G (AS G G (AS G G (NL (IB ?_)))))));exact AG m31 ⟨_,_,_,_,_,G,H,e21⟩ (l0b _)
  rw[if_neg hk33] at e21;refine q0m (q06 (q06 (q0d ?_)));exact MN ⟨_,_,_,_,G,H,e21⟩
 rintro e w ⟨s22,l24,v25,M,rfl,H,q40⟩;obtain rfl:=oI q40;try dsimp only at h
 refine TN (SQ ?_);obtain⟨l41,hxl41,h⟩:=bnd h;refine RG (MV G G (MV G G (q0F (enc:=encS) xty55 ([s22]:List Ls) H G Kf (fun _=>G) G G (q00 G) G ?_)));intro v53 M w H hle hs53;refine q1g (l:=l24) xty55 G (fun _=>G) H G (fun _=>by repeat first|exact .head|apply Upd.tail) G (hs53) hxl41 (q00 G) G ?_;intro v54 w H;refine AS G G (NL (TN (SQ (SQ (RG (MV G G (ST (q0M (l:=l41) Tu55 H Km G) G ?_)))))));refine MV G G (NL (TN ?_));obtain⟨o42,e43,h⟩:=bnd h;refine q0h (fun e w =>∃(n44:Int) (n45:Int) (M:Mem),e=[(5,ptr bk5 0),(8,v54)]∧St w0 M0 M [.blk bk5 (.cells #[I n44,I n45] 27),RowI 9 encS v54 l41] w∧some (.inl (n44,n45))=some o42) [] ?_ ?_ (trivial)
 ·
  refine BL (q0A (fun m e w =>∃(n46:Int) (n47:Int) (n48:Int) (M:Mem),e=[(5,ptr bk5 0),(8,v54),(55,v54),(56,I (l41.length:Int)),(57,I n48)]∧St w0 M0 M [.blk bk5 (.cells #[I n46,I n47] 27),RowI 9 encS v54 l41] w∧fold_Fold_L2 l41 m n46 n47 n48=some o42) FU [(5,_),(8,_),(55,_),(56,_),(57,_)] ⟨rfl,rfl,rfl,rfl,rfl,trivial⟩ ⟨_,_,_,_,rfl,H,e43⟩ ?_);rintro m49 e w ⟨n46,n47,n48,M,rfl,H,e43⟩;rcases m49 with _|m49
  · rw[fold_Fold_L2] at e43;cases e43
  rw[fold_Fold_L2] at e43;refine SQ (RG (ST (q0n G G) G (NL (TN (SQ ?_)))));refine CB (p:=n48<(l41.length:Int)) G (fun hk50=>?_) fun hk50=>?_
  ·
   rw[if_pos hk50] at e43;refine SK (TN (SQ (BL (SQ ?_))));obtain⟨a51,hxa51,e43⟩:=bnd e43;refine RG (MV G G (WR.idxRowC (l:=l41) H Tu55 Ts9 Km G G hxa51 (q00 G) G ?_));intro g60 hg60;refine ST (Ex.loadRowC H G hg60 Km hxa51 Ta9) G ?_;refine AS G G (AS G G (NL (TN (SQ (RG (MV G G (ST (q0g Tu9 G) G (ST (q0E G G) G (NL (TN ?_))))))))));refine CB (p:=(998:Int)<(a51.length:Int)) G (fun hk52=>?_) fun hk52=>?_
   ·
    rw[if_pos hk52] at e43;refine SQ ?_;obtain⟨⟨n53,n54⟩,hx55,e43⟩:=bnd e43;try dsimp only at e43
    refine RG (MV G G (q05 H (Y07 hx55) G trivial (q00 G) G ?_));intro v66 M w H hle hR;try dsimp only at hR
    obtain rfl:=hR;refine AS G G (q0c [_,_] H G G G Ku Ts27 G Kf Kf (q00 G) ?_);intro w H;refine NL (TN (RT ?_));obtain rfl:=oI e43;try dsimp only at h
    obtain rfl:=oI h;exact q0y G G ⟨_,G,H.loadAgg Km Ta27 Ts27 Kf⟩ H.ext (⟨_,G,q2e _ _⟩)
   rw[if_neg hk52] at e43;refine SK (IB (TN ?_));obtain⟨n56,hxn56,e43⟩:=bnd e43;refine RG (ST (q0p G G hxn56) G (MV G G (NL ?_)));exact AG m49 ⟨_,_,_,_,G,H,e43⟩ (l0b _)
  rw[if_neg hk50] at e43;refine q0m (q06 (q06 (q0d ?_)));exact MN ⟨_,_,_,G,H,e43⟩
 rintro e w ⟨n44,n45,M,rfl,H,q57⟩;obtain rfl:=oI q57;try dsimp only at h
 refine TN (SQ ?_);obtain⟨⟨n58,n59⟩,hx60,h⟩:=bnd h;try dsimp only at h
 refine RG (MV G G (q05 H (Y0L hx60) G trivial (q00 G) G ?_));intro v69 M w H hle hR;try dsimp only at hR
 obtain rfl:=hR;refine AS G G (q0c [_,_] H G G G Ku Ts27 G Kf Kf (q00 G) ?_);intro w H;refine NL (TN (RT ?_));obtain⟨M,hle,hs61,H⟩:=H.freezeRow (v:=v54) (enc:=encS) (t:=9) Kv;obtain rfl:=oI h;exact q0y G G ⟨_,G,H.loadAgg Km Ta27 Ts27 Kf⟩ H.ext (⟨_,G,hs61⟩)
theorem Y4A {p0:Ls}{p1:Ls}{r:(Ls × Ls × Bool)}(h:Y2q p0 p1=some r):Ct Tryz.prog 96 [S p0,S p1] (fun M=>GlF (fun w =>∃m,w.cell? ⟨2,0,none⟩=some (.int .i64 m)) M) (fun v M=>v=Value.tuple #[S r.1,S r.2.1,Value.bool r.2.2]):=by
 refine Ct.of Tf96 (enters Tf96 Kr G) G G G ?_;intro w0 M0 H hp;have gM:=hp;unfold Y2q at h;refine SQ (RG (AS G G (AS G G (AS G G (NL (TN (SQ (SQ ?_))))))));obtain⟨n1,hx2,h⟩:=bnd h;refine RG (MV G G (MV G G (q05 H (Y4l hx2) G (gM) (q00 G) G ?_)));intro v10 M w H hle hR;obtain rfl:=hR;refine AS G G (NL (TN (SQ (RG (MV G G (ST (q1a G G) G (NL (TN ?_))))))));refine CB (p:=(0:Int)≤n1) G (fun hk3=>?_) fun hk3=>?_
 ·
  rw[if_pos hk3] at h;refine SQ ?_;obtain⟨s4,hxs4,h⟩:=bnd h;obtain⟨n5,hxn5,h⟩:=bnd h;obtain⟨s6,hxs6,h⟩:=bnd h;refine q0H (m:=12) G G H ?_;intro w H;refine TK 0 G (fun _=>q01 G) G (TK 1 G (fun _=>q01 G) G (TK 2 G (fun _=>q2m Tu9 G G hxs4) G (TK 3 G (fun _=>q01 G) G (TK 4 G (fun _=>q01 G) G (TK 5 G (fun _=>q01 G) G (TK 6 G (fun _=>q0g Tu9 G) G ?_))))));refine TK 7 G (fun _=>q0p G G hxn5) G (TK 8 G (fun _=>q1U Tu9 G G hxs6) G (q0v (fuel:=0) [9,10,11] G Kr (AS G G (AS G G (AS G G (NA (q0l Kr (TN (RT ?_)))))))));obtain rfl:=oI h;exact q2g G G G G H.ext G
 rw[if_neg hk3] at h;refine SK (TN (SQ (RG (MV G G (AS G G (AS G G (AS G G (NL (TN (RT ?_))))))))));obtain rfl:=oI h;exact q2g G G G G H.ext G
theorem Y57 {p0:Ls}{p1:Ls}{r:(Ls × Ls × Bool)}(h:Y32 p0 p1=some r):Ct Tryz.prog 63 [S p0,S p1] (fun M=>GlF (fun w =>∃m,w.cell? ⟨2,0,none⟩=some (.int .i64 m)) M) (fun v M=>v=Value.tuple #[S r.1,S r.2.1,Value.bool r.2.2]):=by
 refine Ct.of Tryz.func63 (enters Tryz.func63 Kr G) G G G ?_;intro w0 M0 H hp;have gM:=hp;unfold Y32 at h;refine SQ (RG (AS G G (AS G G (AS G G (NL (TN (SQ ?_)))))));obtain⟨⟨s1,s2,b3⟩,hx4,h⟩:=bnd h;try dsimp only at h
 refine RG (MV G G (MV G G (q05 H (Y4A hx4) G (gM) (q00 G) G ?_)));intro v9 M w H hle hR;try dsimp only at hR
 obtain rfl:=hR;refine ST (q0b G G) G (ST (q0b G G) G (ST (q0b G G) G (AS G G (AS G G (AS G G (NL (TN (RT ?_))))))));obtain rfl:=oI h;exact q2g G G G G H.ext G
theorem Y43 {p0:Ls}{p1:UInt8}{r:Ls}(h:Y1B p0 p1=some r):Ct Tryz.prog 98 [S p0,encB p1] (fun M=>True) (fun v M=>v=S r):=by
 refine Ct.of Tryz.func98 (enters Tryz.func98 Kr G) G G G ?_;intro w0 M0 H hp;unfold Y1B at h;refine SQ (RG (AS G G (NL (TN (SQ ?_)))));obtain⟨o1,e2,h⟩:=bnd h;refine q0h (fun e w =>∃(s3:Ls) (M:Mem),e=[(0,S s3)]∧St w0 M0 M [] w∧some s3=some o1) [] ?_ ?_ (trivial)
 ·
  refine BL (q0A (fun m e w =>∃(s4:Ls) (M:Mem),e=[(0,S s4),(1,encB p1)]∧St w0 M0 M [] w∧Y19 p1 m s4=some o1) FU [(0,_),(1,_)] ⟨rfl,rfl,trivial⟩ ⟨_,_,rfl,H,e2⟩ ?_);rintro m5 e w ⟨s4,M,rfl,H,e2⟩;rcases m5 with _|m5
  · rw[Y19] at e2;cases e2
  rw[Y19] at e2;refine SQ (SQ ?_);obtain⟨o6,e7,e2⟩:=bnd e2;refine q0h (fun e w =>∃(b8:Bool) (M:Mem),e=[(0,S s4),(1,encB p1),(16,Value.bool b8)]∧St w0 M0 M [] w∧some b8=some o6) [] ?_ ?_ (trivial)
  ·
   refine RG (MV G G (ST (q0g Tu9 G) G ?_));by_cases hk9:(0:Int)<(s4.length:Int)
   ·
    rw[if_pos hk9] at e7;obtain⟨n10,hxn10,e7⟩:=bnd e7;obtain⟨c11,hxc11,e7⟩:=bnd e7;refine DT hk9 (q0E G G) G (MV G G (SG (q01 G) G G G (SG (q01 G) G G G (SG (q0g Tu9 G) G G G (SG (q1E G G hxn10) G G G (SG (q0t Tu9 G G hxc11) G G G (SG (q01 G) G G G (SG (q1B (c:=c11) (d:=p1) G G) G G G (PT G G G (NL ?_))))))))));exact MN ⟨_,_,G,H,e7⟩
   rw[if_neg hk9] at e7;refine DF hk9 (q0E G G) G (MV G G (q0i 7 G G (PF G G G (NL ?_))));exact MN ⟨_,_,G,H,e7⟩
  rintro e w ⟨b8,M,rfl,H,q12⟩;obtain rfl:=oI q12;refine TN ?_;refine q0k G (fun hk13=>?_) (fun hk13=>?_)
  ·
   subst hk13;rw[if_pos rfl] at e2;refine SK (TN (BL ?_));obtain⟨n14,hxn14,e2⟩:=bnd e2;obtain⟨s15,hxs15,e2⟩:=bnd e2;refine RG (MV G G (MV G G (ST (q0g Tu9 G) G (ST (q1E G G hxn14) G (ST (q2m Tu9 G G hxs15) G (AS G G (NL (IB ?_))))))));exact AG m5 ⟨_,_,G,H,e2⟩ (l0b _)
  subst hk13;rw[if_neg l06] at e2;refine q0m (q06 (q06 (q0d ?_)));exact MN ⟨_,_,G,H,e2⟩
 rintro e w ⟨s3,M,rfl,H,q16⟩;obtain rfl:=oI q16;refine TN (SQ (RG (MV G G (AS G G (NL (TN (RT ?_)))))));obtain rfl:=oI h;exact q07 G G H.ext G
theorem Y46 {p0:Ls}{p1:UInt8}{r:Ls}(h:Y1P p0 p1=some r):Ct Tryz.prog 97 [S p0,encB p1] (fun M=>True) (fun v M=>v=S r):=by
 refine Ct.of Tryz.func97 (enters Tryz.func97 Kr G) G G G ?_;intro w0 M0 H hp;unfold Y1P at h;refine SQ (RG (AS G G (NL (TN (SQ ?_)))));obtain⟨o1,e2,h⟩:=bnd h;refine q0h (fun e w =>∃(s3:Ls) (M:Mem),e=[(0,S s3)]∧St w0 M0 M [] w∧some s3=some o1) [] ?_ ?_ (trivial)
 ·
  refine BL (q0A (fun m e w =>∃(s4:Ls) (M:Mem),e=[(0,S s4),(1,encB p1)]∧St w0 M0 M [] w∧Y1d p1 m s4=some o1) FU [(0,_),(1,_)] ⟨rfl,rfl,trivial⟩ ⟨_,_,rfl,H,e2⟩ ?_);rintro m5 e w ⟨s4,M,rfl,H,e2⟩;rcases m5 with _|m5
  · rw[Y1d] at e2;cases e2
  rw[Y1d] at e2;refine SQ (SQ ?_);obtain⟨o6,e7,e2⟩:=bnd e2;refine q0h (fun e w =>∃(b8:Bool) (M:Mem),e=[(0,S s4),(1,encB p1),(13,Value.bool b8)]∧St w0 M0 M [] w∧some b8=some o6) [] ?_ ?_ (trivial)
  ·
   refine RG (MV G G (ST (q0g Tu9 G) G ?_));by_cases hk9:(0:Int)<(s4.length:Int)
   ·
    rw[if_pos hk9] at e7;obtain⟨c10,hxc10,e7⟩:=bnd e7;refine DT hk9 (q0E G G) G (MV G G (SG (q01 G) G G G (SG (q0t Tu9 G G hxc10) G G G (SG (q01 G) G G G (SG (q1B (c:=c10) (d:=p1) G G) G G G (PT G G G (NL ?_)))))));exact MN ⟨_,_,G,H,e7⟩
   rw[if_neg hk9] at e7;refine DF hk9 (q0E G G) G (MV G G (q0i 4 G G (PF G G G (NL ?_))));exact MN ⟨_,_,G,H,e7⟩
  rintro e w ⟨b8,M,rfl,H,q11⟩;obtain rfl:=oI q11;refine TN ?_;refine q0k G (fun hk12=>?_) (fun hk12=>?_)
  ·
   subst hk12;rw[if_pos rfl] at e2;refine SK (TN (BL ?_));obtain⟨s13,hxs13,e2⟩:=bnd e2;refine RG (MV G G (ST (q1U Tu9 G G hxs13) G (AS G G (NL (IB ?_)))));exact AG m5 ⟨_,_,G,H,e2⟩ (l0b _)
  subst hk12;rw[if_neg l06] at e2;refine q0m (q06 (q06 (q0d ?_)));exact MN ⟨_,_,G,H,e2⟩
 rintro e w ⟨s3,M,rfl,H,q14⟩;obtain rfl:=oI q14;refine TN (SQ (RG (MV G G (AS G G (NL (TN (RT ?_)))))));obtain rfl:=oI h;exact q07 G G H.ext G
theorem Y3T {p0:Ls}{p1:List Bool}{bp1:Nat}{r:Ls}(h:Y26 p0 p1=some r):Ct Tryz.prog 101 [S p0,ptr bp1 0] (fun M=>PtM M bp1 (.cells (List.map encBo p1).toArray 115)) (fun v M=>v=S r):=by
 refine Ct.of Tryz.func101 (enters Tryz.func101 Kr G) G G G ?_;intro w0 M0 H hp;have hp1:=hp;unfold Y26 at h;refine SQ (RG (AS G G (NL (TN (SQ ?_)))));obtain⟨o1,e2,h⟩:=bnd h;refine q0h (fun e w =>∃(s3:Ls) (M:Mem),e=[(0,S s3)]∧St w0 M0 M [] w∧some s3=some o1) [] ?_ ?_ (trivial)
 ·
  refine BL (q0A (fun m e w =>∃(s4:Ls) (M:Mem),e=[(0,S s4),(1,ptr bp1 0)]∧St w0 M0 M [] w∧PtM M bp1 (.cells (List.map encBo p1).toArray 115)∧Y0j p1 m s4=some o1) FU [(0,_),(1,_)] ⟨rfl,rfl,trivial⟩ ⟨_,_,rfl,H,hp1,e2⟩ ?_);rintro m5 e w ⟨s4,M,rfl,H,hp1,e2⟩;rcases m5 with _|m5
  · rw[Y0j] at e2;cases e2
  rw[Y0j] at e2;refine SQ (SQ (RG (MV G G (ST (q0g Tu9 G) G (ST (q0E G G) G (NL (TN ?_)))))));refine CB (p:=(0:Int)<(s4.length:Int)) G (fun hk6=>?_) fun hk6=>?_
  ·
   rw[if_pos hk6] at e2;refine SK (TN (BL (SQ (SQ ?_))));obtain⟨n7,hxn7,e2⟩:=bnd e2;obtain⟨c8,hxc8,e2⟩:=bnd e2;obtain⟨b9,hx10,e2⟩:=bnd e2;refine RG (MV G G (MV G G (MV G G (ST (q0g Tu9 G) G (ST (q1E G G hxn7) G (ST (q0t Tu9 G G hxc8) G (q05 H (Y1W hx10) G (hp1) (q00 G) G ?_)))))));intro v14 M w H hle hR;replace hp1:=hp1.mono hle;obtain rfl:=hR;refine ST (q0L G) G (NL (TN ?_));refine q0k G (fun hk11=>?_) (fun hk11=>?_)
   ·
    replace hk11:b9=false:=by simpa using hk11
    subst hk11;rw[if_neg l06] at e2;refine q0m (q06 (q2p G (q06 (q0d ?_))));exact MN ⟨_,_,G,H,e2⟩
   replace hk11:b9=true:=by simpa using hk11
   subst hk11;rw[if_pos rfl] at e2;refine SK (TN ?_);obtain⟨n12,hxn12,e2⟩:=bnd e2;obtain⟨s13,hxs13,e2⟩:=bnd e2;refine RG (MV G G (MV G G (ST (q0g Tu9 G) G (ST (q1E G G hxn12) G (ST (q2m Tu9 G G hxs13) G (AS G G (NL (IB ?_))))))));exact AG m5 ⟨_,_,G,H,hp1,e2⟩ (l0b _)
  rw[if_neg hk6] at e2;refine q0m (q06 (q06 (q0d ?_)));exact MN ⟨_,_,G,H,e2⟩
 rintro e w ⟨s3,M,rfl,H,q14⟩;obtain rfl:=oI q14;refine TN (SQ (RG (MV G G (AS G G (NL (TN (RT ?_)))))));obtain rfl:=oI h;exact q07 G G H.ext G
theorem Y44 {p0:Ls}{p1:List Bool}{bp1:Nat}{r:Ls}(h:Y2e p0 p1=some r):Ct Tryz.prog 100 [S p0,ptr bp1 0] (fun M=>PtM M bp1 (.cells (List.map encBo p1).toArray 115)) (fun v M=>v=S r):=by
 refine Ct.of Tryz.func100 (enters Tryz.func100 Kr G) G G G ?_;intro w0 M0 H hp;have hp1:=hp;unfold Y2e at h;refine SQ (RG (AS G G (NL (TN (SQ ?_)))));obtain⟨o1,e2,h⟩:=bnd h;refine q0h (fun e w =>∃(s3:Ls) (M:Mem),e=[(0,S s3)]∧St w0 M0 M [] w∧some s3=some o1) [] ?_ ?_ (trivial)
 ·
  refine BL (q0A (fun m e w =>∃(s4:Ls) (M:Mem),e=[(0,S s4),(1,ptr bp1 0)]∧St w0 M0 M [] w∧PtM M bp1 (.cells (List.map encBo p1).toArray 115)∧Y0o p1 m s4=some o1) FU [(0,_),(1,_)] ⟨rfl,rfl,trivial⟩ ⟨_,_,rfl,H,hp1,e2⟩ ?_);rintro m5 e w ⟨s4,M,rfl,H,hp1,e2⟩;rcases m5 with _|m5
  · rw[Y0o] at e2;cases e2
  rw[Y0o] at e2;refine SQ (SQ (RG (MV G G (ST (q0g Tu9 G) G (ST (q0E G G) G (NL (TN ?_)))))));refine CB (p:=(0:Int)<(s4.length:Int)) G (fun hk6=>?_) fun hk6=>?_
  ·
   rw[if_pos hk6] at e2;refine SK (TN (BL (SQ (SQ ?_))));obtain⟨c7,hxc7,e2⟩:=bnd e2;obtain⟨b8,hx9,e2⟩:=bnd e2;refine RG (MV G G (MV G G (ST (q0t Tu9 G G hxc7) G (q05 H (Y1W hx9) G (hp1) (q00 G) G ?_))));intro v11 M w H hle hR;replace hp1:=hp1.mono hle;obtain rfl:=hR;refine ST (q0L G) G (NL (TN ?_));refine q0k G (fun hk10=>?_) (fun hk10=>?_)
   ·
    replace hk10:b8=false:=by simpa using hk10
    subst hk10;rw[if_neg l06] at e2;refine q0m (q06 (q2p G (q06 (q0d ?_))));exact MN ⟨_,_,G,H,e2⟩
   replace hk10:b8=true:=by simpa using hk10
   subst hk10;rw[if_pos rfl] at e2;refine SK (TN ?_);obtain⟨s11,hxs11,e2⟩:=bnd e2;refine RG (MV G G (ST (q1U Tu9 G G hxs11) G (AS G G (NL (IB ?_)))));exact AG m5 ⟨_,_,G,H,hp1,e2⟩ (l0b _)
  rw[if_neg hk6] at e2;refine q0m (q06 (q06 (q0d ?_)));exact MN ⟨_,_,G,H,e2⟩
 rintro e w ⟨s3,M,rfl,H,q12⟩;obtain rfl:=oI q12;refine TN (SQ (RG (MV G G (AS G G (NL (TN (RT ?_)))))));obtain rfl:=oI h;exact q07 G G H.ext G
end Go.Proofs.YtkmjdamkifbddaaGreatDoor
end
section
namespace Go.Proofs.YtkmjdamkifbddaaGreatDoor
open Go Go.RowKit Go.Ph Go.Ph.Pl Go.Ph.Pf
theorem Y4Z {p0:Ls}{p1:Ls}{r:Ls}(h:Y3q p0 p1=some r):Ct Tryz.prog 64 [S p0,S p1] (fun M=>True) (fun v M=>v=S r):=by
 refine Ct.of Tryz.func64 (enters Tryz.func64 Kr G) G G G ?_;intro w0 M0 H hp;unfold Y3q at h;refine SQ (RG (AS G G (NL (TN (SQ (SQ ?_))))));obtain⟨o1,e2,h⟩:=bnd h;refine q0h (fun e w =>∃(b3:Bool) (M:Mem),e=[(0,S p0),(1,S p1),(12,Value.bool b3)]∧St w0 M0 M [] w∧some b3=some o1) [] ?_ ?_ (trivial)
 ·
  by_cases hk4:p0=[]
  ·
   rw[if_pos hk4] at e2;refine RG (MV G G (DT hk4 (q0z G G) G (MV G G (GT G G G (GT G G G (PT G G G (NL ?_)))))));exact MN ⟨_,_,G,H,e2⟩
  rw[if_neg hk4] at e2;refine RG (MV G G (DF hk4 (q0z G G) G (MV G G (SG (q01 G) G G G (SG (q0z G G) G G G (PF G G G (NL ?_)))))));exact MN ⟨_,_,G,H,e2⟩
 rintro e w ⟨b3,M,rfl,H,q5⟩;obtain rfl:=oI q5;refine TN ?_;refine q0k G (fun hk6=>?_) (fun hk6=>?_)
 ·
  subst hk6;rw[if_pos rfl] at h;refine SQ (RG (MV G G (AS G G (NL (TN (RT ?_))))));obtain rfl:=oI h;exact q07 G G H.ext G
 subst hk6;rw[if_neg l06] at h;refine SK (TN (SQ (SQ ?_)));obtain⟨o7,e8,h⟩:=bnd h;refine q0h (fun e w =>∃(b9:Bool) (M:Mem),e=[(0,S p0),(1,S p1),(21,Value.bool b9)]∧St w0 M0 M [] w∧some b9=some o7) [] ?_ ?_ (trivial)
 ·
  refine RG (MV G G (ST (q0g Tu9 G) G ?_));by_cases hk10:(p1.length:Int)=(1:Int)
  ·
   rw[if_pos hk10] at e8;obtain⟨c11,hxc11,e8⟩:=bnd e8;refine DT hk10 (q0e G G) G (MV G G (SG (q01 G) G G G (SG (q0t Tu9 G G hxc11) G G G (SG (Ex.lssB (i:=c11.toNat) (j:=128) G G) G G G (PT G G G (NL ?_))))));exact MN ⟨_,_,G,H,e8⟩
  rw[if_neg hk10] at e8;refine DF hk10 (q0e G G) G (MV G G (q0i 3 G G (PF G G G (NL ?_))));exact MN ⟨_,_,G,H,e8⟩
 rintro e w ⟨b9,M,rfl,H,q12⟩;obtain rfl:=oI q12;refine TN ?_;refine q0k G (fun hk13=>?_) (fun hk13=>?_)
 ·
  subst hk13;rw[if_pos rfl] at h;refine SQ ?_;obtain⟨c14,hxc14,h⟩:=bnd h;obtain⟨s15,hx16,h⟩:=bnd h;obtain⟨c17,hxc17,h⟩:=bnd h;obtain⟨s18,hx19,h⟩:=bnd h;refine q0H (m:=8) G G H ?_;intro w H;refine TK 0 G (fun _=>q01 G) G (TK 1 G (fun _=>q01 G) G (TK 2 G (fun _=>q0t Tu9 G G hxc14) G (TK 4 G (fun _=>q01 G) G (TK 5 G (fun _=>q0t Tu9 G G hxc17) G (q0v (fuel:=0) [3,6,7] G Kr (q05 H (Y43 hx16) G trivial (q00 G) G ?_))))));intro v25 M w H hle hR;obtain rfl:=hR;refine q05 H (Y46 hx19) G trivial (q00 G) G ?_;intro v28 M w H hle hR;obtain rfl:=hR;refine AS G G (NA (q0l Kr (TN (RT ?_))));obtain rfl:=oI h;exact q07 G G H.ext G
 subst hk13;rw[if_neg l06] at h;refine SK (TN (SQ (SQ ?_)));obtain⟨⟨n20,b21⟩,hx22,h⟩:=bnd h;try dsimp only at h
 obtain⟨l23,hxl23,h⟩:=bnd h;obtain⟨l24,hxl24,h⟩:=bnd h;refine RG (MV G G (q05 H (Y3e hx22) G trivial (q00 G) G ?_));intro v31 M w H hle hR;try dsimp only at hR
 obtain rfl:=hR;refine MV G G (ST (q0b G G) G (ST (q0b G G) G (q0j (List.map encBo (List.replicate 256 false:List Bool)) H Tz115 Kr (q00 G) G ?_)));intro bk5 w H;refine WR.storeA (l2:=n20) H G G (fun _=>G) (fun _=>by repeat first|exact .head|apply Upd.tail) hxl23 hxl24 Ts115 (q00 G) ?_;intro w H;refine AS G G (NL (TN (SQ (RG (MV G G (NL (TN ?_)))))));refine q0k G (fun hk25=>?_) (fun hk25=>?_)
 ·
  subst hk25;rw[if_pos rfl] at h;refine SQ ?_;obtain⟨s27,hx28,h⟩:=bnd h;obtain⟨s29,hx30,h⟩:=bnd h;refine RG (MV G G ?_);obtain⟨M,hle,hb26,H⟩:=H.freezeVar (b:=bk5) Kv;refine q05 H (Y3T hx28) G (hb26) (q00 G) G ?_;intro v36 M w H hle hR;replace hb26:=hb26.mono hle;obtain rfl:=hR;refine q05 H (Y44 hx30) G (hb26) (q00 G) G ?_;intro v37 M w H hle hR;obtain rfl:=hR;refine AS G G (NL (TN (RT ?_)));obtain rfl:=oI h;exact q07 G G H.ext G
 subst hk25;rw[if_neg l06] at h;cases h
theorem fold_Unfold_ct {p0:List Ls}{vp0:Value}{r:(Ls × Ls × (Int × Int))}(h:fold_Unfold p0=some r):Ct Tryz.prog 28 [vp0] (fun M=>GlF (fun w =>∃m,w.cell? ⟨2,0,none⟩=some (.int .i64 m)) M∧Sl M encS vp0 p0) (fun v M=>v=Value.tuple #[S r.1,S r.2.1,Value.agg #[I r.2.2.1,I r.2.2.2]]):=by
 refine Ct.of Tryz.func28 (enters Tryz.func28 Kr G) G G G ?_;intro w0 M0 H hp;obtain⟨gM,hp0⟩:=hp;unfold fold_Unfold at h;refine SQ (RG (AS G G (AS G G (q0j [_,_] H Tz27 G (q00 G) G ?_))));intro bk4 w H;refine NL (TN (SQ (SQ (RG (MV G G (ST (q0D Tu55 hp0 G) G (ST (q0E G G) G (NL (TN ?_)))))))));refine CB (p:=(300:Int)<(p0.length:Int)) G (fun hk1=>?_) fun hk1=>?_
 ·
  rw[if_pos hk1] at h;refine SQ ?_;obtain⟨⟨n2,n3⟩,hx4,h⟩:=bnd h;try dsimp only at h
  refine RG (q05 H (Y07 hx4) G trivial (q00 G) G ?_);intro v14 M w H hle hR;try dsimp only at hR
  obtain rfl:=hR;refine AS G G (AS G G (q0c [_,_] H G G G Ku Ts27 G Kf Kf (q00 G) ?_));intro w H;refine NL (TN (RT ?_));obtain rfl:=oI h;exact q2g G G G ⟨_,G,H.loadAgg Km Ta27 Ts27 Kf⟩ H.ext G
 rw[if_neg hk1] at h;refine SK (TN (SQ (RG (AS G G (NL (TN (SQ (SQ (RG (MV G G (ST (q0D Tu55 hp0 G) G (MV G G (NL (TN ?_))))))))))))));obtain⟨o5,e6,h⟩:=bnd h;refine q0h (fun e w =>∃(n7:Int) (n8:Int) (n9:Int) (M:Mem),e=[(0,vp0),(4,ptr bk4 0),(5,I n9)]∧St w0 M0 M [.blk bk4 (.cells #[I n7,I n8] 27)] w∧GlF (fun w =>∃m,w.cell? ⟨2,0,none⟩=some (.int .i64 m)) M∧Sl M encS vp0 p0∧some (.inl (n7,n8,n9))=some o5) [] ?_ ?_ (trivial)
 ·
  refine BL (q0A (fun m e w =>∃(n10:Int) (n11:Int) (n12:Int) (n13:Int) (M:Mem),e=[(0,vp0),(4,ptr bk4 0),(5,I n12),(15,vp0),(16,I (p0.length:Int)),(17,I n13)]∧St w0 M0 M [.blk bk4 (.cells #[I n10,I n11] 27)] w∧GlF (fun w =>∃m,w.cell? ⟨2,0,none⟩=some (.int .i64 m)) M∧Sl M encS vp0 p0∧fold_Unfold_L1 p0 m n10 n11 n12 n13=some o5) FU [(0,_),(4,_),(5,_),(15,_),(16,_),(17,_)] ⟨rfl,rfl,rfl,rfl,rfl,rfl,trivial⟩ ⟨_,_,_,_,_,rfl,H,gM,hp0,e6⟩ ?_);rintro m14 e w ⟨n10,n11,n12,n13,M,rfl,H,gM,hp0,e6⟩;rcases m14 with _|m14
  · rw[fold_Unfold_L1] at e6;cases e6
  rw[fold_Unfold_L1] at e6;refine SQ (RG (ST (q0n G G) G (NL (TN (SQ ?_)))));refine CB (p:=n13<(p0.length:Int)) G (fun hk15=>?_) fun hk15=>?_
  ·
   rw[if_pos hk15] at e6;refine SK (TN (SQ (BL (SQ ?_))));obtain⟨a16,hxa16,e6⟩:=bnd e6;obtain⟨bk20,o20,ha20,hc20⟩:=hp0.atC hxa16;refine RG (MV G G (ST (q0u ha20 Tu55 Ts9 G G) G (ST (q08 H G hc20 Ta9) G (AS G G (AS G G (NL (TN (SQ (SQ ?_)))))))));obtain⟨o17,e18,e6⟩:=bnd e6;refine q0h (fun e w =>∃(b19:Bool) (M:Mem),e=[(0,vp0),(4,ptr bk4 0),(5,I n12),(6,I n13),(7,S a16),(15,vp0),(16,I (p0.length:Int)),(17,I n13),(37,Value.bool b19)]∧St w0 M0 M [.blk bk4 (.cells #[I n10,I n11] 27)] w∧GlF (fun w =>∃m,w.cell? ⟨2,0,none⟩=some (.int .i64 m)) M∧Sl M encS vp0 p0∧some b19=some o17) [] ?_ ?_ (trivial)
   ·
    obtain⟨b20,hx21,e18⟩:=bnd e18;refine RG (MV G G (q05 H (fold_ends_ct hx21) G trivial (q00 G) G ?_));intro v23 M w H hle hR;replace gM:=gM.mono hle;replace hp0:=hp0.mono hle;obtain rfl:=hR;refine MV G G ?_;rcases b20 with _|_
    ·
     rw[if_neg l06] at e18;by_cases hk22:(0:Int)<n13
     ·
      rw[if_pos hk22] at e18;refine SG (q01 G) G G G (DU hk22 (q0E G G) G G G ?_);by_cases hk23:a16=[]
      ·
       rw[if_pos hk23] at e18;refine SG (q01 G) G G G (SG (q01 G) G G G (DU hk23 (q0z G G) G G G (SG (q01 G) G G G (q0i 4 G G (SG (q0r G G) G G G (SG (q0r G G) G G G (PF G G G (NL ?_))))))));exact MN ⟨_,_,G,H,gM,hp0,e18⟩
      rw[if_neg hk23] at e18;obtain⟨c24,hxc24,e18⟩:=bnd e18;obtain⟨b25,hx26,e18⟩:=bnd e18;refine SG (q01 G) G G G (SG (q01 G) G G G (DG hk23 (q0z G G) G G G (SG (q01 G) G G G (SG (q01 G) G G G (SG (q0t Tu9 G G hxc24) G G G (q05 H (Y21 hx26) G trivial (q04 G G G) G ?_))))));intro v33 M w H hle hR;replace gM:=gM.mono hle;replace hp0:=hp0.mono hle;obtain rfl:=hR;refine SG (q0L G) G G G (SG (q0s G G) G G G (SG (q0r G G) G G G (PF G G G (NL ?_))));exact MN ⟨_,_,G,H,gM,hp0,e18⟩
     rw[if_neg hk22] at e18;refine SG (q01 G) G G G (DG hk22 (q0E G G) G G G (SG (q01 G) G G G (q0i 8 G G (SG (q0s G G) G G G (PF G G G (NL ?_))))));exact MN ⟨_,_,G,H,gM,hp0,e18⟩
    rw[if_pos rfl] at e18;refine q0i 12 G G (PT G G G (NL ?_));exact MN ⟨_,_,G,H,gM,hp0,e18⟩
   rintro e w ⟨b19,M,rfl,H,gM,hp0,q27⟩;obtain rfl:=oI q27;refine TN ?_;refine q0k G (fun hk28=>?_) (fun hk28=>?_)
   ·
    subst hk28;rw[if_pos rfl] at e6;refine SQ ?_;obtain⟨⟨n29,n30⟩,hx31,e6⟩:=bnd e6;try dsimp only at e6
    refine RG (MV G G (q05 H (Y07 hx31) G trivial (q00 G) G ?_));intro v39 M w H hle hR;try dsimp only at hR
    obtain rfl:=hR;refine AS G G (AS G G (q0c [_,_] H G G G Ku Ts27 G Kf Kf (q00 G) ?_));intro w H;refine NL (TN (RT ?_));obtain rfl:=oI e6;try dsimp only at h
    obtain rfl:=oI h;exact q2g G G G ⟨_,G,H.loadAgg Km Ta27 Ts27 Kf⟩ H.ext G
   subst hk28;rw[if_neg l06] at e6;refine SK (TN ?_);obtain⟨n32,hxn32,e6⟩:=bnd e6;refine RG (MV G G (MV G G (ST (q0g Tu9 G) G (ST (q0p G G hxn32) G (AS G G (NL (IB (TN ?_))))))));obtain⟨n33,hxn33,e6⟩:=bnd e6;refine RG (ST (q0p G G hxn33) G (MV G G (NL ?_)));exact AG m14 ⟨_,_,_,_,_,G,H,gM,hp0,e6⟩ (l0b _)
  rw[if_neg hk15] at e6;refine q0m (q06 (q06 (q0d ?_)));exact MN ⟨_,_,_,_,G,H,gM,hp0,e6⟩
 rintro e w ⟨n7,n8,n9,M,rfl,H,gM,hp0,q34⟩;obtain rfl:=oI q34;try dsimp only at h
 refine TN (SQ (SQ (RG (MV G G (ST (q0E G G) G (NL (TN ?_)))))));refine CB (p:=(8000:Int)<n9) G (fun hk35=>?_) fun hk35=>?_
 ·
  rw[if_pos hk35] at h;refine SQ ?_;obtain⟨⟨n36,n37⟩,hx38,h⟩:=bnd h;try dsimp only at h
  refine RG (q05 H (Y07 hx38) G trivial (q00 G) G ?_);intro v47 M w H hle hR;try dsimp only at hR
  obtain rfl:=hR;refine AS G G (AS G G (q0c [_,_] H G G G Ku Ts27 G Kf Kf (q00 G) ?_));intro w H;refine NL (TN (RT ?_));obtain rfl:=oI h;exact q2g G G G ⟨_,G,H.loadAgg Km Ta27 Ts27 Kf⟩ H.ext G
 rw[if_neg hk35] at h;refine SK (TN (SQ ?_));obtain⟨s39,hx40,h⟩:=bnd h;obtain⟨⟨s41,s42,b43⟩,hx44,h⟩:=bnd h;try dsimp only at h
 refine RG (MV G G (q05 H (Y1E hx40) G (hp0) (q00 G) G ?_));intro v50 M w H hle hR;replace gM:=gM.mono hle;obtain rfl:=hR;refine q05 H (Y57 hx44) G (gM) (q00 G) G ?_;intro v51 M w H hle hR;replace gM:=gM.mono hle;try dsimp only at hR
 obtain rfl:=hR;refine MV G G (ST (q0b G G) G (ST (q0b G G) G (ST (q0b G G) G (AS G G (AS G G (AS G G (NL (TN (SQ (SQ ?_))))))))));obtain⟨o45,e46,h⟩:=bnd h;refine q0h (fun e w =>∃(b47:Bool) (M:Mem),e=[(4,ptr bk4 0),(8,S s41),(9,S s42),(61,Value.bool b47)]∧St w0 M0 M [.blk bk4 (.cells #[I n7,I n8] 27)] w∧GlF (fun w =>∃m,w.cell? ⟨2,0,none⟩=some (.int .i64 m)) M∧some b47=some o45) [] ?_ ?_ (trivial)
 ·
  refine RG (MV G G (ST (q0L G) G (MV G G ?_)));rcases b43 with _|_
  ·
   rw[if_neg l06] at e46;refine q0i 3 G G (PT G G G (NL ?_));exact MN ⟨_,_,G,H,gM,e46⟩
  rw[if_pos rfl] at e46;obtain⟨b48,hx49,e46⟩:=bnd e46;refine SG (q01 G) G G G (q05 H (fold_name_ct hx49) G trivial (q04 G G G) G ?_);intro v59 M w H hle hR;replace gM:=gM.mono hle;obtain rfl:=hR;refine SG (q0L G) G G G (PF G G G (NL ?_));exact MN ⟨_,_,G,H,gM,e46⟩
 rintro e w ⟨b47,M,rfl,H,gM,q50⟩;obtain rfl:=oI q50;refine TN ?_;refine q0k G (fun hk51=>?_) (fun hk51=>?_)
 ·
  subst hk51;rw[if_pos rfl] at h;refine SQ ?_;obtain⟨⟨n52,n53⟩,hx54,h⟩:=bnd h;try dsimp only at h
  refine RG (q05 H (Y07 hx54) G trivial (q00 G) G ?_);intro v62 M w H hle hR;try dsimp only at hR
  obtain rfl:=hR;refine AS G G (AS G G (q0c [_,_] H G G G Ku Ts27 G Kf Kf (q00 G) ?_));intro w H;refine NL (TN (RT ?_));obtain rfl:=oI h;exact q2g G G G ⟨_,G,H.loadAgg Km Ta27 Ts27 Kf⟩ H.ext G
 subst hk51;rw[if_neg l06] at h;refine SK (TN (SQ ?_));obtain⟨s55,hx56,h⟩:=bnd h;refine RG (MV G G (q05 H (Y4Z hx56) G trivial (q00 G) G ?_));intro v64 M w H hle hR;obtain rfl:=hR;refine AS G G (NL (TN (SQ (SQ (RG (MV G G (ST (q0g Tu9 G) G (ST (q0E G G) G (NL (TN ?_))))))))));refine CB (p:=(4000:Int)<(s55.length:Int)) G (fun hk57=>?_) fun hk57=>?_
 ·
  rw[if_pos hk57] at h;refine SQ ?_;obtain⟨⟨n58,n59⟩,hx60,h⟩:=bnd h;try dsimp only at h
  refine RG (q05 H (Y07 hx60) G trivial (q00 G) G ?_);intro v68 M w H hle hR;try dsimp only at hR
  obtain rfl:=hR;refine AS G G (AS G G (q0c [_,_] H G G G Ku Ts27 G Kf Kf (q00 G) ?_));intro w H;refine NL (TN (RT ?_));obtain rfl:=oI h;exact q2g G G G ⟨_,G,H.loadAgg Km Ta27 Ts27 Kf⟩ H.ext G
 rw[if_neg hk57] at h;refine SK (TN (SQ ?_));obtain⟨⟨n61,n62⟩,hx63,h⟩:=bnd h;try dsimp only at h
 refine RG (MV G G (MV G G (q05 H (Y0L hx63) G trivial (q00 G) G ?_)));intro v71 M w H hle hR;try dsimp only at hR
 obtain rfl:=hR;refine AS G G (AS G G (q0c [_,_] H G G G Ku Ts27 G Kf Kf (q00 G) ?_));intro w H;refine NL (TN (RT ?_));obtain rfl:=oI h;exact q2g G G G ⟨_,G,H.loadAgg Km Ta27 Ts27 Kf⟩ H.ext G
theorem Y4h {p0:List (Ls × Bool × List (Ls × Ls × Ls))}{vp0:Value}{r:Bool}(h:Y2F p0=some r):Ct Tryz.prog 8 [vp0] (fun M=>GlF (fun w =>∃m,w.cell? ⟨2,0,none⟩=some (.int .i64 m)) M∧Tabs M∧SlR xrl34 M vp0 p0) (fun v M=>v=Value.bool r):=by
 refine Ct.of Tryz.func8 (enters Tryz.func8 Kr G) G G G ?_;intro w0 M0 H hp;obtain⟨gM,gT,hp0⟩:=hp;unfold Y2F at h;refine SQ (RG (AS G G (NL (TN (SQ (SQ ?_))))));obtain⟨b1,hx2,h⟩:=bnd h;refine RG (q05 H (Y2x hx2) G ⟨gM,gT⟩ (q00 G) G ?_);intro v14 M w H hle hR;replace gM:=gM.mono hle;replace gT:=gT.mono hle;replace hp0:=hp0.mono hle;obtain rfl:=hR;refine ST (q0L G) G (NL (TN ?_));refine q0k G (fun hk3=>?_) (fun hk3=>?_)
 ·
  replace hk3:b1=false:=by simpa using hk3
  subst hk3;rw[if_neg l06] at h;refine SQ (RG (AS G G (NL (TN (RT ?_)))));obtain rfl:=oI h;exact q07 G G H.ext G
 replace hk3:b1=true:=by simpa using hk3
 subst hk3;rw[if_pos rfl] at h;refine SK (TN (SQ ?_));obtain⟨⟨s4,⟨n5,n6⟩⟩,hx7,h⟩:=bnd h;try dsimp only at h
 refine RG (MV G G (q05 H (Y3u hx7) G ⟨gM,gT,hp0⟩ (q00 G) G ?_));intro v18 M w H hle hR;replace gM:=gM.mono hle;replace gT:=gT.mono hle;replace hp0:=hp0.mono hle;try dsimp only at hR
 obtain rfl:=hR;refine MV G G (ST (q0b G G) G (ST (q0b G G) G (q0j [_,_] H Tz27 G (q00 G) G ?_)));intro bk4 w H;refine AS G G (q0c [_,_] H G G G Ku Ts27 G Kf Kf (q00 G) ?_);intro w H;refine NL (TN (SQ (SQ (RG (ST (q03 Tu27 G Ts3 Dc G) G (ST (XL H Ta3) G ?_))))));refine ST (q1p G G) G (NL (TN ?_));refine q0k G (fun hk8=>?_) (fun hk8=>?_)
 ·
  replace hk8 :¬(n5=(0:Int)):=of_not_decide hk8;rw[if_neg hk8] at h;refine SQ (RG (MV G G (ST (q0z G G) G (AS G G (NL (TN (RT ?_)))))));obtain rfl:=oI h;exact q07 G G H.ext G
 replace hk8:n5=(0:Int):=of_not_decide' hk8;rw[if_pos hk8] at h;refine SK (TN (SQ ?_));obtain⟨⟨l9,⟨n10,n11⟩⟩,hx12,h⟩:=bnd h;try dsimp only at h
 refine RG (MV G G (q05 H (Y30 hx12) G ⟨gM,gT⟩ (q00 G) G ?_));intro v28 M w H hle hR;replace gM:=gM.mono hle;replace gT:=gT.mono hle;replace hp0:=hp0.mono hle;try dsimp only at hR
 obtain⟨x28_0,rfl,f28_0⟩:=hR;refine MV G G (ST (q0b G G) G (ST (q0b G G) G (q0j [_,_] H Tz27 G (q00 G) G ?_)));intro bk6 w H;refine AS G G (q0c [_,_] H G G G Ku Ts27 G Kf Kf (q00 G) ?_);intro w H;refine NL (TN (SQ (SQ ?_)));obtain⟨o13,e14,h⟩:=bnd h;refine q0h (fun e w =>∃(b15:Bool) (M:Mem),e=[(0,vp0),(3,S s4),(39,Value.bool b15)]∧St w0 M0 M [] w∧GlF (fun w =>∃m,w.cell? ⟨2,0,none⟩=some (.int .i64 m)) M∧Tabs M∧SlR xrl34 M vp0 p0∧some b15=some o13) [] ?_ ?_ (trivial)
 ·
  refine RG (ST (q03 Tu27 G Ts3 Dc G) G (ST (XL H Ta3) G ?_));by_cases hk16:n10=(0:Int)
  ·
   rw[if_pos hk16] at e14;obtain⟨b17,hx18,e14⟩:=bnd e14;refine q09 (v' := .bool false) (q1p G G) (congrArg Value.bool (by rw[decide_eq_true hk16];rfl)) (q00 G) G G ?_;refine MV G G (SG (q01 G) G G G (SG (q01 G) G G G (q05 H (Y3S hx18) G ⟨f28_0,hp0⟩ (q04 G G G) G ?_)));intro v37 M w H hle hR;replace gM:=gM.mono hle;replace gT:=gT.mono hle;replace hp0:=hp0.mono hle;obtain rfl:=hR;refine SG (q0L G) G G G (PF G G G (NL ?_));exact MN ⟨_,_,G,(H.pick (L':=[]) Kp),gM,gT,hp0,e14⟩
  rw[if_neg hk16] at e14;refine q09 (v' := .bool true) (q1p G G) (congrArg Value.bool (by rw[decide_eq_false hk16];rfl)) (q00 G) G G ?_;refine MV G G (q0i 4 G G (PT G G G (NL ?_)));exact MN ⟨_,_,G,(H.pick (L':=[]) Kp),gM,gT,hp0,e14⟩
 rintro e w ⟨b15,M,rfl,H,gM,gT,hp0,q19⟩;obtain rfl:=oI q19;refine TN ?_;refine q0k G (fun hk20=>?_) (fun hk20=>?_)
 ·
  subst hk20;rw[if_pos rfl] at h;refine SQ (RG (AS G G (NL (TN (RT ?_)))));obtain rfl:=oI h;exact q07 G G H.ext G
 subst hk20;rw[if_neg l06] at h;refine SK (TN (SQ ?_));obtain⟨⟨l21,⟨n22,n23⟩⟩,hx24,h⟩:=bnd h;try dsimp only at h
 refine RG (MV G G (q05 H (fold_Fold_ct hx24) G trivial (q00 G) G ?_));intro v42 M w H hle hR;replace gM:=gM.mono hle;replace gT:=gT.mono hle;replace hp0:=hp0.mono hle;try dsimp only at hR
 obtain⟨x42_0,rfl,f42_0⟩:=hR;refine MV G G (ST (q0b G G) G (ST (q0b G G) G (q0j [_,_] H Tz27 G (q00 G) G ?_)));intro bk8 w H;refine AS G G (q0c [_,_] H G G G Ku Ts27 G Kf Kf (q00 G) ?_);intro w H;refine NL (TN (SQ (SQ ?_)));obtain⟨o25,e26,h⟩:=bnd h;refine q0h (fun e w =>∃(b27:Bool) (M:Mem),e=[(0,vp0),(7,x42_0),(8,ptr bk8 0),(52,Value.bool b27)]∧St w0 M0 M [.blk bk8 (.cells #[I n22,I n23] 27)] w∧GlF (fun w =>∃m,w.cell? ⟨2,0,none⟩=some (.int .i64 m)) M∧Tabs M∧SlR xrl34 M vp0 p0∧Sl M encS x42_0 l21∧some b27=some o25) [] ?_ ?_ (trivial)
 ·
  refine RG (ST (q03 Tu27 G Ts3 Dc G) G (ST (XL H Ta3) G ?_));by_cases hk28:n22=(0:Int)
  ·
   rw[if_pos hk28] at e26;refine q09 (v' := .bool false) (q1p G G) (congrArg Value.bool (by rw[decide_eq_true hk28];rfl)) (q00 G) G G ?_;refine MV G G (SG (q01 G) G G G (SG (q0D Tu55 f42_0 G) G G G (SG (q0E G G) G G G (PF G G G (NL ?_)))));exact MN ⟨_,_,G,H,gM,gT,hp0,f42_0,e26⟩
  rw[if_neg hk28] at e26;refine q09 (v' := .bool true) (q1p G G) (congrArg Value.bool (by rw[decide_eq_false hk28];rfl)) (q00 G) G G ?_;refine MV G G (q0i 3 G G (PT G G G (NL ?_)));exact MN ⟨_,_,G,H,gM,gT,hp0,f42_0,e26⟩
 rintro e w ⟨b27,M,rfl,H,gM,gT,hp0,f42_0,q29⟩;obtain rfl:=oI q29;refine TN ?_;refine q0k G (fun hk30=>?_) (fun hk30=>?_)
 ·
  subst hk30;rw[if_pos rfl] at h;refine SQ ?_;obtain⟨o31,e32,h⟩:=bnd h;refine q0h (fun e w =>∃(b33:Bool) (M:Mem),e=[(2,Value.bool b33)]∧St w0 M0 M [] w∧GlF (fun w =>∃m,w.cell? ⟨2,0,none⟩=some (.int .i64 m)) M∧Tabs M∧some b33=some o31) [] ?_ ?_ (trivial)
  ·
   refine RG (ST (q03 Tu27 G Ts3 Dc G) G (ST (XL H Ta3) G ?_));by_cases hk34:n22=(0:Int)
   ·
    rw[if_pos hk34] at e32;refine DT hk34 (q0e G G) G (MV G G (q0i 3 G G (PT G G G (AS G G (NL ?_)))));exact MN ⟨_,_,G,(H.pick (L':=[]) Kp),gM,gT,e32⟩
   rw[if_neg hk34] at e32;refine DF hk34 (q0e G G) G (MV G G (SG (q01 G) G G G (SG (q0D Tu55 f42_0 G) G G G (SG (q0e G G) G G G (PF G G G (AS G G (NL ?_)))))));exact MN ⟨_,_,G,(H.pick (L':=[]) Kp),gM,gT,e32⟩
  rintro e w ⟨b33,M,rfl,H,gM,gT,q35⟩;obtain rfl:=oI q35;refine TN (RT ?_);obtain rfl:=oI h;exact q07 G G H.ext G
 subst hk30;rw[if_neg l06] at h;refine SK (TN (SQ ?_));obtain⟨⟨s36,s37,⟨n38,n39⟩⟩,hx40,h⟩:=bnd h;try dsimp only at h
 refine RG (MV G G (q05 H (fold_Unfold_ct hx40) G ⟨gM,f42_0⟩ (q00 G) G ?_));intro v63 M w H hle hR;replace gM:=gM.mono hle;replace gT:=gT.mono hle;replace hp0:=hp0.mono hle;try dsimp only at hR
 obtain rfl:=hR;refine MV G G (ST (q0b G G) G (ST (q0b G G) G (ST (q0b G G) G (q0j [_,_] H Tz27 G (q00 G) G ?_))));intro bk11 w H;refine AS G G (AS G G (q0c [_,_] H G G G Ku Ts27 G Kf Kf (q00 G) ?_));intro w H;refine NL (TN (SQ ?_));obtain⟨⟨l41,⟨n42,n43⟩⟩,hx44,h⟩:=bnd h;try dsimp only at h
 refine RG (MV G G (q05 H (Y30 hx44) G ⟨gM,gT⟩ (q00 G) G ?_));intro v69 M w H hle hR;replace gM:=gM.mono hle;replace gT:=gT.mono hle;replace hp0:=hp0.mono hle;try dsimp only at hR
 obtain⟨x69_0,rfl,f69_0⟩:=hR;refine MV G G (ST (q0b G G) G (ST (q0b G G) G (q0j [_,_] H Tz27 G (q00 G) G ?_)));intro bk13 w H;refine AS G G (q0c [_,_] H G G G Ku Ts27 G Kf Kf (q00 G) ?_);intro w H;refine NL (TN (SQ ?_));obtain⟨o45,e46,h⟩:=bnd h;refine q0h (fun e w =>∃(b47:Bool) (M:Mem),e=[(2,Value.bool b47)]∧St w0 M0 M [] w∧GlF (fun w =>∃m,w.cell? ⟨2,0,none⟩=some (.int .i64 m)) M∧Tabs M∧some b47=some o45) [] ?_ ?_ (trivial)
 ·
  refine RG (ST (q03 Tu27 G Ts3 Dc G) G (ST (XL H Ta3) G ?_));by_cases hk48:n38=(0:Int)
  ·
   rw[if_pos hk48] at e46;by_cases hk49:n42=(0:Int)
   ·
    rw[if_pos hk49] at e46;obtain⟨b50,hx51,e46⟩:=bnd e46;refine DT hk48 (q0e G G) G (MV G G (SG (q03 Tu27 G Ts3 Dc G) G G G (SG (XL H Ta3) G G G ?_)));refine DU hk49 (q0e G G) G G G (PT G G G (MV G G (SG (q01 G) G G G (SG (q01 G) G G G (q05 H (Y3S hx51) G ⟨f69_0,hp0⟩ (q04 G G G) G ?_)))));intro v83 M w H hle hR;replace gM:=gM.mono hle;replace gT:=gT.mono hle;obtain rfl:=hR;refine PT G G G (AS G G (NL ?_));exact MN ⟨_,_,G,(H.pick (L':=[]) Kp),gM,gT,e46⟩
   rw[if_neg hk49] at e46;refine DT hk48 (q0e G G) G (MV G G (SG (q03 Tu27 G Ts3 Dc G) G G G (SG (XL H Ta3) G G G ?_)));refine DG hk49 (q0e G G) G G G (PT G G G (MV G G (q0i 3 G G (PF G G G (AS G G (NL ?_))))));exact MN ⟨_,_,G,(H.pick (L':=[]) Kp),gM,gT,e46⟩
  rw[if_neg hk48] at e46;refine DF hk48 (q0e G G) G (MV G G (q0i 3 G G (PF G G G (MV G G (q0i 3 G G (PF G G G (AS G G (NL ?_))))))));exact MN ⟨_,_,G,(H.pick (L':=[]) Kp),gM,gT,e46⟩
 rintro e w ⟨b47,M,rfl,H,gM,gT,q52⟩;obtain rfl:=oI q52;refine TN (RT ?_);obtain rfl:=oI h;exact q07 G G H.ext G
end Go.Proofs.YtkmjdamkifbddaaGreatDoor
end
section
namespace Go.Proofs.YtkmjdamkifbddaaGreatDoor
open Go Go.RowKit Go.Ph Go.Ph.Pl Go.Ph.Pf
end Go.Proofs.YtkmjdamkifbddaaGreatDoor
end
section
namespace Go.Ph.Ad
open Go.Ph.Pl Go.Ph.Pf
open Go.Ph.Chs (vld lower)
abbrev Big (l:Ls):Prop:=l.length≤140737488355328
abbrev Adr : Type:=Ls × Ls × Ls
abbrev Itm : Type:=Ls × Bool × List Adr
theorem foldI {α σ γ:Type}{L:Nat→σ→Int→Option γ}(l:List α)(F:σ→α→σ)(fin:σ→γ)(I:Nat→σ→Prop)
 (hend :∀m s,I l.length s→L (m+1) s (l.length:Int)=some (fin s))
 (hstep :∀m s i a,l[i]? = some a→I i s→I (i+1) (F s a)∧L (m+1) s (i:Int)=L m (F s a) ((i+1:Nat):Int)) :
 ∀(d i:Nat) (s:σ) (m:Nat),l.length-i=d→i≤l.length→d<m→I i s→L m s (i:Int)=some (fin ((l.drop i).foldl F s)):=by
 intro d;induction d with
 | zero =>
   intro i s m h1 h2 h3 hI;obtain⟨m,rfl⟩ :∃k,m=k+1:=⟨m-1,by omega⟩
   obtain rfl:i=l.length:=by omega
   rw[hend m s hI,l0J];rfl
 | succ d ih =>
   intro i s m h1 h2 h3 hI;obtain⟨m,rfl⟩ :∃k,m=k+1:=⟨m-1,by omega⟩
   have hi:i<l.length:=by omega
   obtain⟨hI',hL⟩:=hstep m s i l[i] (List.getElem?_eq_getElem hi) hI;rw[hL,ih (i+1) _ m Om Om Om hI',l09 hi];rfl
theorem foldI0 {α σ γ:Type}{L:Nat→σ→Int→Option γ}(l:List α)(F:σ→α→σ)(fin:σ→γ)(I:Nat→σ→Prop)(hl:l.length≤9223372036854775807)
 (hend :∀m s,I l.length s→L (m+1) s (l.length:Int)=some (fin s))
 (hstep :∀m s i a,l[i]? = some a→I i s→I (i+1) (F s a)∧L (m+1) s (i:Int)=L m (F s a) ((i+1:Nat):Int)) (s:σ) (h0:I 0 s):L FU s 0=some (fin (l.foldl F s)):=by
 have:=foldI l F fin I hend hstep l.length 0 s FU Om Om (FU_gt hl) h0;simpa using this
theorem allB {p:UInt8→Prop}(h :∀n,n<256→p (UInt8.ofNat n))(c:UInt8):p c:=by
 have:=h c.toNat c.toNat_lt;rwa [UInt8.ofNat_toNat] at this
theorem failed_eq (a b:Int):Y1z (a,b)=some (!decide (a=0)):=rfl
theorem fault_eq (a b:Int):Y0a a b=some (a,b):=by unfold Y0a;rfl
theorem none_eq : Y0T=some (0,0):=rfl
theorem rin_eq (a b c:Int):R_In a b c=some (decide (b≤a∧a≤c)):=by
 unfold R_In;by_cases h:b≤a <;> simp [h]
def letB (c:UInt8):Bool:=decide (97≤c.toNat∧c.toNat≤122) ||(decide (65≤c.toNat∧c.toNat≤90) || decide (48≤c.toNat∧c.toNat≤57))
def atB (c:UInt8):Bool:=letB c ||([33,35,36,37,38,39,42,43,45,47,61,63,94,95,96,123,124,125,126]:Ls).any (fun x=>decide (x=c))
def doB (c:UInt8):Bool:=letB c || decide (c=45)
def prB (c:UInt8):Bool:=decide (32≤c.toNat∧c.toNat≤126)
theorem letter_eq (c:UInt8):Y2b c=some (letB c):=by
 refine allB (p:=fun c=>Y2b c=some (letB c)) ?_ c;decide +kernel
theorem atom_eq (c:UInt8):Y2u c=some (atB c):=by
 refine allB (p:=fun c=>Y2u c=some (atB c)) ?_ c;decide +kernel
theorem domB_eq (c:UInt8):Y2y c=some (doB c):=by
 refine allB (p:=fun c=>Y2y c=some (doB c)) ?_ c;decide +kernel
theorem locB_eq (c:UInt8):Y2J c=some (prB c):=by
 refine allB (p:=fun c=>Y2J c=some (prB c)) ?_ c;decide +kernel
theorem all_eq (l:Ls)(hl:Big l)(g:UInt8→Option Bool)(p:UInt8→Bool)(hg :∀c,g c=some (p c)):Y2U l g=some (l.all p):=by
 unfold Y2U;rw[scan0 (L:=Y1A l g) (l:=l) (p:=fun c => !p c) (stop := .inl ()) (r := .inr false) (FU_gt Om) (fun m=>by rw[Y1A,if_neg Om]) (fun m i h=>by
  rw[Y1A,if_pos Om,idx_nat,List.getElem?_eq_getElem h,chk_succ (by have:=hl;omega)];simp only[bsome,hg];cases p l[i] <;> simp)]
 simp only[bsome];rw[l2p];cases l.any (fun c => !p c) <;> simp
def locT (l:Ls):Bool:=l.all prB&&decide (1≤l.length∧l.length≤60)
theorem local_eq (l:Ls)(hl:Big l):Y2f l=some (locT l):=by
 unfold Y2f locT;by_cases h:l=[]
 · subst h;rfl
 have hpos:1≤l.length:=by cases l <;> simp_all
 rw[if_neg h];by_cases h2:l.length≤60
 · rw[if_pos Om,all_eq l hl _ prB locB_eq];simp [hpos,h2]
 rw[if_neg Om];simp [h2]
def dispF (l:Ls):Int:=if 500<l.length then 1 else if vld l=true then 0 else 5
theorem disp_eq (l:Ls):Y2r l=some (dispF l):=by
 unfold Y2r dispF Y1i;by_cases h:500<l.length
 · rw[if_pos Om,if_pos h]
 rw[if_neg Om,if_neg h,if_pos Om];simp only[bsome];cases vld l <;> rfl
def nc (c x:UInt8):Bool := !decide (x=c)
theorem index_c (c:UInt8):∀(l:Ls),Lib.index l [c]=if c∈l then((l.takeWhile (nc c)).length:Int) else -1
 | []=>rfl
 | x :: l=>by
   rw[Lib.index];by_cases h:x=c
   · subst h;rw[if_pos (by simp [List.isPrefixOf]),if_pos Sm,l0B (by simp [nc])];rfl
   have hn:nc c x=true:=by unfold nc;rw [decide_eq_false h];rfl
   have h' :¬c=x:=fun e=>h e.symm
   rw[if_neg (by simp [List.isPrefixOf,h']),index_c c l,l0w hn];by_cases hm:c∈l
   · rw[if_pos hm,if_neg (by first|(simp;done)|(simp;omega)),if_pos (by simp [hm]),l02];omega
   rw[if_neg hm,if_pos Dc,if_neg (by simp [hm,h'])]
def spl (c:UInt8):Ls→List Ls
 | []=>[[]]
 | x::l=>if x=c then []::spl c l else match spl c l with
   | p::r=>(x::p)::r
   | []=>[[x]]
theorem spl_ne (c:UInt8)(l:Ls):spl c l≠ []:=by
 cases l with
 | nil=>simp [spl]
 | cons x l =>
   rw[spl];split
   · simp
   split <;> simp
theorem spl_not {c:UInt8}:∀{l:Ls},c∉l→spl c l=[l]
 | [],_=>rfl
 | x::l,h=>by
   rw[spl,if_neg (fun e=>h (by simp [e])),spl_not (fun e=>h (by simp [e]))]
theorem spl_mem {c:UInt8}:∀{l:Ls},c∈l→spl c l=l.takeWhile (nc c)::spl c (l.drop ((l.takeWhile (nc c)).length+1))
 | [],h=>by simp at h
 | x :: l,h=>by
   by_cases hx:x=c
   · subst hx;rw[spl,if_pos rfl,l0B (by simp [nc])];rfl
   have hn:nc c x=true:=by unfold nc;rw [decide_eq_false hx];rfl
   have hl:c∈l:=by rcases List.mem_cons.1 h with e|e;exact absurd e.symm hx;exact e
   rw[spl,if_neg hx,spl_mem hl,l0w hn];simp
theorem tw_lt {c:UInt8}:∀{l:Ls},c∈l→(l.takeWhile (nc c)).length<l.length
 | [],h=>by simp at h
 | x :: l,h=>by
   by_cases hx:x=c
   · subst hx;rw[l0B (by simp [nc])];simp
   have hn:nc c x=true:=by unfold nc;rw [decide_eq_false hx];rfl
   have hl:c∈l:=by rcases List.mem_cons.1 h with e|e;exact absurd e.symm hx;exact e
   rw[l0w hn];have:=tw_lt hl;simp;omega
theorem take_tw (c:UInt8):∀(l:Ls),l.take (l.takeWhile (nc c)).length=l.takeWhile (nc c)
 | []=>rfl
 | x::l=>by
   by_cases hn:nc c x=true
   · rw[l0w hn,l02,l0F,take_tw c l]
   rw[l0B hn];rfl
theorem split_L2 {σ:Type}(Y:σ→Ls→Option (σ × Bool))(c:UInt8):∀(n:Nat) (s:Ls) (st:σ) (m:Nat),s.length≤n→n<m→s.length<4294967281→
 ((Y0z Y [c] 0 m s st).bind fun o=>(match o with | .inl (s24,s25)=>(Y s25 s24).bind fun(s41,b42)=>some s41 | .inr r44=>some r44))=runL Y (spl c s) st:=by
 intro n;induction n with
 | zero =>
   intro s st m h1 h2 h3;obtain⟨m,rfl⟩ :∃k,m=k+1:=⟨m-1,by omega⟩
   obtain rfl:s=[]:=l0a Om;rw[Y0z];unfold Y2a;have hi:Lib.index ([]:Ls) [c] = -1:=by rw[index_c,if_neg Sm]
   rw[if_pos Dc,bsome,hi,if_pos Dc,bsome,spl,runL];dsimp only;cases Y st [] with
   | none=>rfl
   | some r=>obtain⟨a,b⟩:=r;cases b <;> rfl
 | succ n ih =>
   intro s st m h1 h2 h3;obtain⟨m,rfl⟩ :∃k,m=k+1:=⟨m-1,by omega⟩
   rw[Y0z];unfold Y2a;rw[if_pos h3,bsome,index_c];by_cases hm:c∈s
   · have hlt:=tw_lt hm;rw[if_pos hm,if_neg Om,show ((s.takeWhile (nc c)).length:Int)+0=(((s.takeWhile (nc c)).length:Nat):Int) by omega,chk_ok Om Om,bsome,cut_to rfl Om,bsome,take_tw,spl_mem hm,runL];cases hy:Y st (s.takeWhile (nc c)) with
     | none=>rfl
     | some r =>
       obtain⟨a,b⟩:=r;rw[bsome,bsome];dsimp only;cases b with
       | false=>rfl
       | true =>
         rw[if_pos rfl,if_pos rfl,show (([c]:Ls).length:Int)=((1:Nat):Int) from rfl,chk_addN 1 Om,bsome,cut_from rfl Om,bsome];exact ih _ a m (by rw[l01];omega) Om (by rw[l01];omega)
   rw[if_neg hm,if_pos Dc,bsome,spl_not hm,runL];dsimp only;cases Y st s with
   | none=>rfl
   | some r=>obtain⟨a,b⟩:=r;cases b <;> rfl
theorem splitSeq_eq {σ:Type}(Y:σ→Ls→Option (σ × Bool))(c:UInt8)(s:Ls)(st:σ)(hs:s.length<4294967281):Y1H [c] s 0 σ Y st=runL Y (spl c s) st:=by
 unfold Y1H;rw[if_neg Sm];exact split_L2 Y c s.length s st FU (l0e _) (FU_gt Om) hs
def good (p:UInt8→Bool)(x:Ls):Bool := !decide (x=[])&&x.all p
theorem parts_run (g:UInt8→Option Bool)(p:UInt8→Bool)(hg :∀c,g c=some (p c)):∀(l:List Ls),(∀x∈l,Big x)→runL (stepY exStop (Y28 g)) l (false,0)=some (false,if l.all (good p)=true then 0 else 1)
 | [],_=>rfl
 | x :: l,h=>by
   rw[runL];unfold stepY;rw[if_neg Dc];have hx:Y28 g (false,0) x=some (if good p x=true then(false,0) else(false,1)):=by
    unfold Y28 good;dsimp only;by_cases hx:x=[]
    · subst hx;rfl
    rw[if_neg hx,all_eq x (h x l0D) g p hg];simp only[bsome,hx];cases x.all p <;> rfl
   rw[hx,l0H];have ih:=parts_run g p hg l (fun y hy=>h y (l0t _ hy));cases hgx:good p x with
   | false=>rfl
   | true =>
     simp only[if_true,l0T,bsome,l1S];exact ih
theorem spl_len (c:UInt8):∀(l:Ls),∀x∈spl c l,x.length≤l.length
 | [],x,hx=>by simp [spl] at hx;simp [hx]
 | a :: l,x,hx=>by
   rw[spl] at hx;split at hx
   · rcases List.mem_cons.1 hx with rfl|hx
     · simp
     have:=spl_len c l x hx;simp;omega
   cases hs:spl c l with
   | nil=>exact absurd hs (spl_ne c l)
   | cons p r =>
     rw[hs] at hx;dsimp only at hx;rcases List.mem_cons.1 hx with rfl|hx
     · have:=spl_len c l p (by rw[hs];exact l0D);simp;omega
     have:=spl_len c l x (by rw[hs];exact l0t _ hx);simp;omega
theorem parts_eq (s:Ls)(hs:s.length<4294967281)(g:UInt8→Option Bool)(p:UInt8→Bool)(hg :∀c,g c=some (p c)):Y2P s g=some ((spl 46 s).all (good p)):=by
 unfold Y2P;rw[splitSeq_eq _ _ _ _ hs,parts_run g p hg _ (fun x hx=>by have:=spl_len 46 s x hx;unfold Big;omega),bsome];cases(spl 46 s).all (good p) <;> rfl
def dtF (p:UInt8→Bool):Bool→Ls→Bool
 | e,[] => !e
 | e,c::l=>if c=46 then(if e=true then false else dtF p true l) else(if p c=true then dtF p false l else false)
theorem spl_dt (p:UInt8→Bool):∀(l:Ls) (e:Bool) (h:Ls) (t:List Ls),spl 46 l=h::t→dtF p e l=(h.all p&&((!e || !decide (h=[]))&&t.all (good p)))
 | [],e,h,t,hs=>by
   simp only[spl,List.cons.injEq] at hs;obtain⟨rfl,rfl⟩:=hs;cases e <;> rfl
 | c :: l,e,h,t,hs=>by
   rw[spl] at hs;rw[dtF];by_cases hc:c=46
   · rw[if_pos hc] at hs;obtain⟨rfl,rfl⟩:=List.cons.inj hs;rw[if_pos hc];cases hl:spl 46 l with
     | nil=>exact absurd hl (spl_ne _ _)
     | cons a b =>
       rw[spl_dt p l true a b hl,l0H];cases e <;> simp [good,Bool.and_comm,Bool.and_left_comm,Bool.and_assoc]
   rw[if_neg hc] at hs;rw[if_neg hc];cases hl:spl 46 l with
   | nil=>exact absurd hl (spl_ne _ _)
   | cons a b =>
     rw[hl] at hs;dsimp only at hs;obtain⟨rfl,rfl⟩:=List.cons.inj hs;rw[spl_dt p l false a b hl,l0H];cases p c <;> simp
theorem dt_spl (p:UInt8→Bool)(s:Ls):(spl 46 s).all (good p)=dtF p true s:=by
 cases hs:spl 46 s with
 | nil=>exact absurd hs (spl_ne _ _)
 | cons h t =>
   rw[spl_dt p s true h t hs,l0H];unfold good;cases h.all p <;> simp
theorem dotted_eq (s:Ls)(hs:s.length<4294967281):Y1Y s=some (dtF atB true s):=by
 unfold Y1Y;rw[parts_eq s hs _ atB atom_eq,bsome,dt_spl]
def domT (s:Ls):Bool:=decide (s.length≤60)&&dtF doB true s
theorem domain_eq (s:Ls):Y2C s=some (domT s):=by
 unfold Y2C domT;by_cases h:s.length≤60
 · rw[if_pos Om,parts_eq s Om _ doB domB_eq,dt_spl];simp [h]
 rw[if_neg Om];simp [h]
def addrF (a:Adr):Int × Int:=if dispF a.1=0 then(if locT a.2.1=true then(if domT a.2.2=true then(0,0) else(10,-5)) else(10,-4)) else(dispF a.1,-3)
abbrev BigA (a:Adr):Prop:=Big a.1∧Big a.2.1∧Big a.2.2
theorem validate_eq (a:Adr)(h:BigA a):Y1L (a.1,a.2.1,a.2.2)=some (addrF a):=by
 unfold Y1L addrF;rw[disp_eq,local_eq _ h.2.1,domain_eq];simp only[bsome,fault_eq,none_eq];by_cases h1:dispF a.1=0
 · rw[if_pos h1,if_pos h1];cases locT a.2.1
   · rfl
   cases domT a.2.2 <;> rfl
 rw[if_neg h1,if_neg h1]
end Go.Ph.Ad
end
section
namespace Go.Ph.Ad
open Go.Ph.Pl Go.Ph.Pf
abbrev BigI (x:Itm):Prop:=Big x.1∧x.2.2.length≤140737488355328∧∀a∈x.2.2,BigA a
abbrev BigL (l:List Itm):Prop:=l.length≤140737488355328∧∀x∈l,BigI x
def memF : List Adr→Int
 | []=>0
 | a::l=>if (addrF a).1=0 then memF l else(addrF a).1
def badI (x:Itm):Bool := !decide (x.2.1 = !decide (x.1=[])) ||(!x.2.1 && !decide (x.2.2.length=1))
def itemF (x:Itm):Int:=if dispF x.1=0 then(if badI x=true then 5 else memF x.2.2) else dispF x.1
theorem item_L1 (x:Itm)(h:BigI x):∀(k i m:Nat),x.2.2.length-i≤k→k<m→i≤x.2.2.length→
 ((Y1e x m (i:Int)).bind fun o26=>(match o26 with | .inl _=>some 0 | .inr r25=>some r25))=some (memF (x.2.2.drop i)):=by
 intro k;induction k with
 | zero =>
   intro i m h1 h2 h3;obtain⟨m,rfl⟩ :∃k,m=k+1:=⟨m-1,by omega⟩
   obtain rfl:i=x.2.2.length:=by omega
   rw[Y1e,if_neg Om,bsome,l0J];rfl
 | succ k ih =>
   intro i m h1 h2 h3;obtain⟨m,rfl⟩ :∃k,m=k+1:=⟨m-1,by omega⟩
   by_cases hi:i<x.2.2.length
   · rw[Y1e,if_pos Om,idx_nat,List.getElem?_eq_getElem hi,l09 hi,memF,bsome];rw[validate_eq _ (h.2.2 _ (l0E hi)),bsome];have h5:=ih (i+1) m Om Om Om;obtain⟨a,b,hab⟩ :∃a b,addrF x.2.2[i]=(a,b):=⟨_,_,rfl⟩
     rw[hab];dsimp only;rw[failed_eq,bsome];by_cases ha:a=0
     · rw[if_neg (by simp [ha]),if_pos ha,chk_succ (by have:=h.2.1;omega),bsome];exact h5
     rw[if_pos (by simp [ha]),if_neg ha];rfl
   obtain rfl:i=x.2.2.length:=by omega
   rw[Y1e,if_neg Om,bsome,l0J];rfl
theorem item_eq (x:Itm)(h:BigI x):Y3s (x.1,x.2.1,x.2.2)=some (itemF x):=by
 unfold Y3s itemF;rw[disp_eq,bsome];by_cases h1:dispF x.1=0
 · rw [if_pos h1,if_pos h1];have hb:(if x.2.1=(!decide (x.1=[])) then(if x.2.1=true then some false else some (!decide ((x.2.2.length:Int)=(1:Int)))) else some true)=some (badI x):=by
    unfold badI;have hd:decide ((x.2.2.length:Int)=1)=decide (x.2.2.length=1):=decide_eq_decide.2 ⟨fun h=>by omega,fun h=>by omega⟩;rw[hd];by_cases h2:x.2.1 = !decide (x.1=[])
    · rw[if_pos h2,decide_eq_true h2];cases x.2.1 <;> rfl
    rw[if_neg h2,decide_eq_false h2];rfl
   rw[hb,bsome];cases badI x with
   | true=>rfl
   | false =>
     rw[if_neg Dc,if_neg Dc];exact item_L1 x h x.2.2.length 0 FU Om (FU_gt (by have:=h.2.1;omega)) Om
 rw[if_neg h1,if_neg h1]
def listF : Nat→List Itm→Int × Int
 | _,[]=>(0,0)
 | i,x::l=>if itemF x=0 then listF (i+1) l else(itemF x,(i:Int))
def sumW (l:List Itm):Int:=l.foldl (fun n x=>IntKind.i64.wrap (n+(x.2.2.length:Int))) 0
def itemsF (l:List Itm):Int × Int:=if 60<l.length∨60<sumW l then(2,-1) else listF 0 l
theorem check_L1 (l:List Itm)(h:l.length≤140737488355328):Y10 l FU 0 0=some (sumW l):=by
 refine foldI0 (L:=Y10 l) l (fun n x=>IntKind.i64.wrap (n+(x.2.2.length:Int))) id (fun _ _=>True) Om (fun m s _=>?_) (fun m s i a ha _=>⟨trivial,?_⟩) 0 trivial
 · rw[Y10,if_neg Om];rfl
 have hi:=(List.getElem?_eq_some_iff.1 ha).1;rw[Y10,if_pos Om,idx_nat,ha,bsome,chk_succ Om,bsome]
theorem check_L2 (l:List Itm)(h:BigL l):∀(k i m:Nat) (c d:Int),l.length-i≤k→k<m→i≤l.length→
 ((Y11 l m c d (i:Int)).bind fun o43=>(match o43 with | .inl (n23,n24)=>(Y0T).bind fun(n39,n40)=>some (n39,n40) | .inr r42=>some r42))=some (listF i (l.drop i)):=by
 intro k;induction k with
 | zero =>
   intro i m c d h1 h2 h3;obtain⟨m,rfl⟩ :∃k,m=k+1:=⟨m-1,by omega⟩
   obtain rfl:i=l.length:=by omega
   rw[Y11,if_neg Om,bsome,l0J];rfl
 | succ k ih =>
   intro i m c d h1 h2 h3;obtain⟨m,rfl⟩ :∃k,m=k+1:=⟨m-1,by omega⟩
   by_cases hi:i<l.length
   · rw[Y11,if_pos Om,idx_nat,List.getElem?_eq_getElem hi,l09 hi,listF,bsome];rw[item_eq _ (h.2 _ (l0E hi)),bsome];by_cases ha:itemF l[i]=0
     · rw[if_pos ha,if_pos ha,chk_succ (by have:=h.1;omega),bsome];exact ih (i+1) m c d Om Om Om
     rw[if_neg ha,if_neg ha,fault_eq,bsome];rfl
   obtain rfl:i=l.length:=by omega
   rw[Y11,if_neg Om,bsome,l0J];rfl
theorem check_eq (l:List Itm)(h:BigL l):Y1T l=some (itemsF l):=by
 unfold Y1T itemsF;rw[check_L1 l h.1,bsome];have h5:=check_L2 l h l.length 0 FU 0 0 Om (FU_gt (by have:=h.1;omega)) Om;by_cases h1:60<l.length
 · rw[if_pos Om,bsome,if_pos rfl,if_pos (.inl h1)];rfl
 rw[if_neg Om,bsome];by_cases h2:60<sumW l
 · rw[decide_eq_true h2,if_pos rfl,if_pos (.inr h2)];rfl
 rw[decide_eq_false h2,if_neg Dc,if_neg (by intro h;rcases h with h|h;exact h1 h;exact h2 h)];exact h5
def sumN (l:List Itm):Nat:=(l.map fun x=>x.2.2.length).sum
theorem wrap_ok {a:Int}(h1 : -9223372036854775808≤a)(h2:a≤9223372036854775807):IntKind.i64.wrap a=a:=by
 simp [IntKind.wrap,IntKind.bits,IntKind.signed];omega
theorem sumW_go (B:Nat):∀(l:List Itm) (n:Nat),(∀x∈l,x.2.2.length≤B)→l.length*B+n≤9223372036854775807→
 l.foldl (fun n x=>IntKind.i64.wrap (n+(x.2.2.length:Int))) (n:Int)=((n+sumN l:Nat):Int):=by
 intro l;induction l with
 | nil=>intro n _ _;rfl
 | cons x l ih =>
   intro n h hb;have hx:=h x l0D;rw[l02,l1p,Nat.one_mul] at hb;have hs:sumN (x::l)=x.2.2.length+sumN l:=by unfold sumN;rw [l0f,List.sum_cons]
   rw[l0P,←Int.natCast_add,wrap_ok Om Om,ih (n+x.2.2.length) (fun y hy=>h y (l0t _ hy)) Om,hs,l1I]
theorem sameA_L1 (l:List Adr)(h:l.length≤140737488355328):∀(k i m:Nat),l.length-i≤k→k<m→i≤l.length→Y0K l l m (i:Int)=some (.inl ()):=by
 intro k;induction k with
 | zero =>
   intro i m h1 h2 h3;obtain⟨m,rfl⟩ :∃k,m=k+1:=⟨m-1,by omega⟩
   obtain rfl:i=l.length:=by omega
   rw[Y0K,if_neg Om]
 | succ k ih =>
   intro i m h1 h2 h3;obtain⟨m,rfl⟩ :∃k,m=k+1:=⟨m-1,by omega⟩
   by_cases hi:i<l.length
   · rw[Y0K,if_pos Om,idx_nat,List.getElem?_eq_getElem hi,bsome,bsome,if_pos ⟨rfl,rfl,rfl⟩,chk_succ Om,bsome];exact ih (i+1) m Om Om Om
   obtain rfl:i=l.length:=by omega
   rw[Y0K,if_neg Om]
theorem sameA_refl (l:List Adr)(h:l.length≤140737488355328):Y2s l l=some true:=by
 unfold Y2s;rw[if_pos rfl,show (0:Int)=((0:Nat):Int) from rfl,sameA_L1 l h l.length 0 FU Om (FU_gt Om) Om];rfl
theorem bigA_of {a:Adr}(h:a.1.length≤140737488351232∧a.2.1.length≤140737488351232∧a.2.2.length≤140737488351232):BigA a:=⟨l0N h.1 Dc,l0N h.2.1 Dc,l0N h.2.2 Dc⟩
theorem bigL_of {l:List Itm}(h:l.length≤140737488351232∧∀x∈l,x.1.length≤140737488351232∧x.2.2.length≤140737488351232∧∀a∈x.2.2,(a.1.length≤140737488351232∧a.2.1.length≤140737488351232∧a.2.2.length≤140737488351232)):BigL l :=
 ⟨l0N h.1 Dc,fun x hx=>⟨l0N (h.2 x hx).1 Dc,l0N (h.2 x hx).2.1 Dc,fun a ha=>bigA_of ((h.2 x hx).2.2 a ha)⟩⟩
theorem ex_law : Y0B=some true:=by decide +kernel
end Go.Ph.Ad
end
section
namespace Go.Ph.Ad
open Go.Ph.Pl Go.Ph.Pf
def cmtF : Nat→Ls→Option Ls
 | _,[]=>none
 | d,[c]=>if c=41∧d=1 then some [] else none
 | d,c::x::l=>if c=40 then cmtF (d+1) (x::l) else if c=41 then(if d=1 then some (x::l) else cmtF (d-1) (x::l)) else if c=92 then cmtF d l else cmtF d (x::l)
theorem cmtF_len :∀(l:Ls) (d:Nat) (r:Ls),cmtF d l=some r→r.length<l.length
 | [],d,r,h=>by simp [cmtF] at h
 | [c],d,r,h=>by
   rw[cmtF] at h;split at h
   · cases h;simp
   cases h
 | c :: x::l,d,r,h=>by
   rw[cmtF] at h;split at h
   · have:=cmtF_len (x::l) _ _ h;simp at this ⊢;omega
   split at h
   · split at h
     · cases h;simp
     have:=cmtF_len (x::l) _ _ h;simp at this ⊢;omega
   split at h
   · have:=cmtF_len l _ _ h;simp at this ⊢;omega
   have:=cmtF_len (x::l) _ _ h;simp at this ⊢;omega
def blB (c:UInt8):Bool:=decide (c=32) || decide (c=9)
theorem blank_eq (c:UInt8):Y13 c=some (blB c):=by
 unfold Y13 blB;by_cases h:c=32 <;> simp [h]
def skF : Nat→Ls→Option Ls
 | 0,_=>none
 | _+1,[]=>some []
 | n+1,c::l=>if blB c=true then skF n l else if c=40 then(cmtF 1 l).bind (skF n) else some (c::l)
theorem skF_len :∀(n:Nat) (l r:Ls),skF n l=some r→r.length≤l.length
 | 0,l,r,h=>by simp [skF] at h
 | n+1,[],r,h=>by simp [skF] at h;simp [h]
 | n + 1,c::l,r,h=>by
   rw[skF] at h;split at h
   · have:=skF_len n l r h;simp;omega
   split at h
   · obtain⟨x,h1,h2⟩:=bnd h;have:=cmtF_len _ _ _ h1;have:=skF_len n x r h2;simp;omega
   cases h;simp
theorem skF_more :∀(n m:Nat) (l:Ls),l.length<n→l.length<m→skF n l=skF m l
 | 0,m,l,h,_=>by omega
 | n+1,0,l,_,h=>by omega
 | n+1,m+1,[],_,_=>rfl
 | n + 1,m+1,c::l,h1,h2=>by
   rw[skF,skF];simp only[l02] at h1 h2;rw[skF_more n m l Om Om];split
   · rfl
   split
   · cases hc:cmtF 1 l with
     | none=>rfl
     | some r =>
       have:=cmtF_len _ _ _ hc;rw[bsome,bsome];exact skF_more n m r Om Om
   rfl
def sk (l:Ls):Option Ls:=skF (l.length+1) l
theorem sk_nil : sk []=some []:=rfl
theorem sk_cons (c:UInt8)(l:Ls):sk (c::l)=if blB c=true then sk l else if c=40 then(cmtF 1 l).bind sk else some (c::l):=by
 unfold sk;rw[l02,skF];split
 · rfl
 split
 · cases hc:cmtF 1 l with
   | none=>rfl
   | some r =>
     have:=cmtF_len _ _ _ hc;rw[bsome,bsome];exact skF_more _ _ r Om Om
 rfl
theorem sk_len {l r:Ls}(h:sk l=some r):r.length≤l.length:=skF_len _ _ _ h
def quF : Ls→Option (Ls × Ls)
 | []=>none
 | [c]=>if c=34 then some ([],[]) else none
 | c::x::l=>if c=34 then some ([],x::l) else if c=92 then(quF l).map fun p=>(x::p.1,p.2) else(quF (x::l)).map fun p=>(c::p.1,p.2)
theorem quF_len :∀(l:Ls) (p:Ls × Ls),quF l=some p→p.2.length<l.length
 | [],p,h=>by simp [quF] at h
 | [c],p,h=>by
   rw[quF] at h;split at h
   · cases h;simp
   cases h
 | c :: x::l,p,h=>by
   rw[quF] at h;split at h
   · cases h;simp
   split at h
   · obtain⟨q,h1,rfl⟩:=Option.map_eq_some_iff.1 h;have:=quF_len l q h1;simp;omega
   obtain⟨q,h1,rfl⟩:=Option.map_eq_some_iff.1 h;have:=quF_len (x::l) q h1;simp at this ⊢;omega
def waB (c:UInt8):Bool:=atB c || decide (c=46)
def sgB (c:UInt8):Bool:=([58,59,44,64,60,62]:Ls).any fun x=>decide (x=c)
def nxF (l:Ls):Option (Elt × Ls) :=
 (sk l).bind fun l=>match l with
  | []=>some (none,[])
  | c::r=>if c=34 then(quF r).map fun p=>(eltW (p.1,true),p.2) else if sgB c=true then some (eltS c,r) else
   if waB c=true then some (eltW ((c::r).takeWhile waB,false),(c::r).dropWhile waB) else none
theorem dw_len (p:UInt8→Bool):∀l:Ls,(l.dropWhile p).length≤l.length
 | []=>by simp
 | c::l=>by
   by_cases h:p c=true
   · rw[l0C h];have:=dw_len p l;simp;omega
   rw[l0K h];simp
theorem nxF_len {l r:Ls}{e:Elt}(h:nxF l=some (e,r))(he:e≠none):r.length<l.length:=by
 unfold nxF at h;obtain⟨x,h1,h2⟩:=bnd h;have hl:=sk_len h1;cases x with
 | nil=>cases h2;exact absurd rfl he
 | cons c y =>
   dsimp only at h2;simp only[l02] at hl;split at h2
   · obtain⟨q,h3,h4⟩:=Option.map_eq_some_iff.1 h2;cases h4;have:=quF_len _ _ h3;omega
   split at h2
   · cases h2;omega
   split at h2
   · rename_i hw;cases h2;rw[l0C hw];have:=dw_len waB y;omega
   cases h2
inductive LT where
 | err
 | eof
 | tok (e:UInt8 ⊕ (Ls × Bool)) (t:LT)
def lexF : Nat→Ls→LT
 | 0,_ => .err
 | n+1,l=>match nxF l with
   | none => .err
   | some (none,_) => .eof
   | some (some e,r) => .tok e (lexF n r)
theorem lexF_more :∀(n m:Nat) (l:Ls),l.length<n→l.length<m→lexF n l=lexF m l
 | 0,m,l,h,_=>by omega
 | n+1,0,l,_,h=>by omega
 | n + 1,m+1,l,h1,h2=>by
   rw[lexF,lexF];cases h:nxF l with
   | none=>rfl
   | some p =>
     obtain⟨e,r⟩:=p;cases e with
     | none=>rfl
     | some e =>
       have:=nxF_len h Sm;dsimp only;rw[lexF_more n m r Om Om]
def lex (l:Ls):LT:=lexF (l.length+1) l
theorem lex_eq (l:Ls):lex l=match nxF l with
 | none => .err
 | some (none,_) => .eof
 | some (some e,r) => .tok e (lex r):=by
 unfold lex;rw[lexF];cases h:nxF l with
 | none=>rfl
 | some p =>
   obtain⟨e,r⟩:=p;cases e with
   | none=>rfl
   | some e =>
     have:=nxF_len h Sm;dsimp only;rw[lexF_more l.length (r.length+1) r Om Om]
def Rs (s:Ls)(f:Option ((Ls × Int) ⊕ Int)):Option Ls→Prop
 | some r =>∃j:Nat,j≤s.length∧r=s.drop j∧f=some (.inl (s,(j:Int)))
 | none =>∃n:Int,0≤n∧f=some (.inr n)
def Rn {α:Type}(s:Ls)(f:Option ((α × (Ls × Int)) ⊕ Int)):Option (α × Ls)→Prop
 | some (a,r) =>∃j:Nat,j≤s.length∧r=s.drop j∧f=some (.inl (a,(s,(j:Int))))
 | none =>∃n:Int,0≤n∧f=some (.inr n)
abbrev Sml (s:Ls):Prop:=s.length≤4294967280
theorem fail_eq (s:Ls)(n:Int):Y0e (s,n)=some (.inr n):=rfl
theorem cmt_step (s:Ls)(i d:Nat)(c:UInt8):cmtF d (c::s.drop (i+1))=if c=40 then cmtF (d+1) (s.drop (i+1)) else if c=41 then(if d=1 then some (s.drop (i+1)) else cmtF (d-1) (s.drop (i+1))) else if c=92 then cmtF d (s.drop (i+1+1)) else cmtF d (s.drop (i+1)):=by
 by_cases hj:i+1<s.length
 · rw[l09 hj,cmtF]
 rw[l08 (show s.length≤i+1 by omega),l08 (show s.length≤i+1+1 by omega),cmtF];by_cases q1:c=40
 · subst q1;simp [cmtF]
 by_cases q2:c=41
 · subst q2;by_cases q3:d=1 <;> simp [cmtF,q3]
 simp [cmtF,q1,q2]
theorem cmt_run (s:Ls)(hs:Sml s):∀(k i m d:Nat),s.length+1-i≤k→k<m→i≤s.length+1→1≤d→d≤i+1→Rs s (Y05 m s (i:Int) (d:Int)) (cmtF d (s.drop i)):=by
 intro k;induction k with
 | zero =>
   intro i m d h1 h2 h3 h4 h5;obtain⟨m,rfl⟩ :∃k,m=k+1:=⟨m-1,by omega⟩
   rw[Y05,if_pos Om,fail_eq,l08 Om,cmtF];exact⟨_,l0k _,G⟩
 | succ k ih =>
   intro i m d h1 h2 h3 h4 h5;obtain⟨m,rfl⟩ :∃k,m=k+1:=⟨m-1,by omega⟩
   by_cases hi:i<s.length
   · have n1:=ih (i+1) m d Om Om Om h4 Om;have n2:=ih (i+1) m (d+1) Om Om Om Om Om;have n3:2≤d→Rs s (Y05 m s ((i+1:Nat):Int) ((d-1:Nat):Int)) (cmtF (d-1) (s.drop (i+1))):=fun hd=>ih (i+1) m (d-1) Om Om Om Om Om
     have n4:i+2≤s.length+1→Rs s (Y05 m s ((i+1+1:Nat):Int) (d:Int)) (cmtF d (s.drop (i+1+1))):=fun hd=>ih (i+1+1) m d Om Om Om h4 Om
     have hb:s.length≤4294967280:=hs;rw[Y05,if_neg Om,bsome];simp only;rw[idx_nat,List.getElem?_eq_getElem hi,bsome,l09 hi];obtain⟨c,hc⟩ :∃c,s[i]=c:=⟨_,rfl⟩
     rw[hc];rw[cmt_step];by_cases q1:c=40
     · rw[if_pos q1,if_pos q1,chk_succ Om,bsome,bsome];simp only;rw[chk_succ Om,bsome];exact n2
     rw[if_neg q1,if_neg q1];by_cases q2:c=41
     · rw[if_pos q2,if_pos q2,chk_pred h4 Om,bsome];by_cases q3:d=1
       · rw[if_pos Om,if_pos q3,chk_succ Om,bsome,bsome];exact⟨i+1,by omega,G,G⟩
       rw[if_neg Om,if_neg q3,bsome];simp only;rw[chk_succ Om,bsome];exact n3 Om
     rw[if_neg q2,if_neg q2];by_cases q3:c=92
     · rw[if_pos q3,if_pos q3,chk_succ Om,bsome,bsome];simp only;rw[chk_succ Om,bsome];exact n4 Om
     rw[if_neg q3,if_neg q3,bsome];simp only;rw[chk_succ Om,bsome];exact n1
   rw[Y05,if_pos Om,fail_eq,l08 Om,cmtF];exact⟨_,l0k _,G⟩
theorem comment_run (s:Ls)(hs:Sml s)(i:Nat)(hi:i<s.length)(hc:s[i]=40):Rs s (Y1p (s,(i:Int))) (cmtF 1 (s.drop (i+1))):=by
 have hb:s.length≤4294967280:=hs;unfold Y1p;rw[FU_pos,Y05];dsimp only;rw[if_neg Om,bsome];simp only;rw[idx_nat,List.getElem?_eq_getElem hi,bsome,hc,if_pos rfl];have h1:chk ((0:Int)+1)=some ((1:Nat):Int):=by decide
 rw[h1,bsome,bsome];simp only;rw[chk_succ Om,bsome];have:=cmt_run s hs (s.length+1) (i+1) 18446744073709551615 1 Om Om Om Om Om;revert this;cases cmtF 1 (s.drop (i+1)) with
 | none=>rintro⟨n,h1,h2⟩;exact ⟨n,h1,by rw[h2,bsome]⟩
 | some r=>rintro⟨j,h1,h2,h3⟩;exact ⟨j,h1,h2,by rw[h3,bsome]⟩
end Go.Ph.Ad
end
section
namespace Go.Ph.Ad
open Go.Ph.Pl Go.Ph.Pf
theorem skip_L1 (s:Ls)(hs:Sml s):∀(k i m:Nat),s.length-i≤k→k<m→i≤s.length→
 Rs s ((Y0d m s (i:Int)).bind fun o21=>(match o21 with | .inl (s3,n4)=>some (.inl (s3,n4)) | .inr r20=>some r20)) (sk (s.drop i)):=by
 intro k;induction k with
 | zero =>
   intro i m h1 h2 h3;obtain⟨m,rfl⟩ :∃k,m=k+1:=⟨m-1,by omega⟩
   rw[Y0d,if_neg Om,bsome,l08 Om,sk_nil];exact⟨i,h3,(l08 Om).symm,G⟩
 | succ k ih =>
   intro i m h1 h2 h3;obtain⟨m,rfl⟩ :∃k,m=k+1:=⟨m-1,by omega⟩
   have hb:s.length≤4294967280:=hs;by_cases hi:i<s.length
   · rw[Y0d,if_pos Om,idx_nat,List.getElem?_eq_getElem hi,bsome,blank_eq,bsome,l09 hi,sk_cons];by_cases hbl:blB s[i]=true
     · rw[if_pos hbl,if_pos hbl,chk_succ Om,bsome];exact ih (i+1) m Om Om Om
     rw[if_neg hbl,if_neg hbl];by_cases hc:s[i]=40
     · rw[if_pos hc,if_pos hc];have hcm:=comment_run s hs i hi hc;have hlen:=cmtF_len (s.drop (i+1)) 1;revert hcm hlen;cases cmtF 1 (s.drop (i+1)) with
       | none=>rintro⟨n,q1,q2⟩ _;rw [q2,bsome];exact ⟨n,q1,rfl⟩
       | some r =>
         rintro⟨j,q1,rfl,q3⟩ hlen;have hl:=hlen _ rfl;rw[l01,l01] at hl;rw[q3,bsome,bsome];exact ih j m Om Om q1
     rw[if_neg hc,if_neg hc,bsome];exact⟨i,h3,(l09 hi).symm,G⟩
   rw[Y0d,if_neg Om,bsome,l08 Om,sk_nil];exact⟨i,h3,(l08 Om).symm,G⟩
theorem skip_run (s:Ls)(hs:Sml s)(i:Nat)(h3:i≤s.length):Rs s (Y2w (s,(i:Int))) (sk (s.drop i)) :=
 skip_L1 s hs s.length i FU Om (FU_gt (by have:s.length≤4294967280:=hs;omega)) h3
theorem quote_L1 (s:Ls)(hs:Sml s):∀(k i m:Nat) (acc:Ls),s.length-i≤k→k<m→i≤s.length→acc.length≤i→
 Rn s (Y0g m s (i:Int) acc) ((quF (s.drop i)).map fun p=>(acc++p.1,p.2)):=by
 intro k;induction k with
 | zero =>
   intro i m acc h1 h2 h3 h4;obtain⟨m,rfl⟩ :∃k,m=k+1:=⟨m-1,by omega⟩
   rw[Y0g,if_pos Om,fail_eq,l08 Om,quF];exact⟨_,l0k _,G⟩
 | succ k ih =>
   intro i m acc h1 h2 h3 h4;obtain⟨m,rfl⟩ :∃k,m=k+1:=⟨m-1,by omega⟩
   have hb:s.length≤4294967280:=hs;by_cases hi:i<s.length
   · have n1:=fun c=>ih (i+1) m (acc++[c]) Om Om Om (by rw[l00];simp;omega)
     have n2:=fun(hj:i+1<s.length) c=>ih (i+1+1) m (acc++[c]) Om Om Om (by rw[l00];simp;omega)
     have ha :∀c:UInt8,app 1 acc [c]=some (acc++[c]):=fun c=>app_ok (by simp;omega)
     rw[Y0g,if_neg Om,bsome];simp only;rw[idx_nat,List.getElem?_eq_getElem hi,bsome,l09 hi];obtain⟨c,hc⟩ :∃c,s[i]=c:=⟨_,rfl⟩
     rw[hc];by_cases q1:c=34
     · rw[if_pos q1,chk_succ Om,bsome];have:quF (c::s.drop (i+1))=some ([],s.drop (i+1)):=by
        cases s.drop (i+1) <;> simp [quF,q1]
       rw[this];exact⟨i+1,by omega,G,by simp⟩
     rw[if_neg q1];by_cases q2:c=92
     · rw[if_pos q2,chk_succ Om,bsome];by_cases hj:i+1<s.length
       · rw[if_neg Om,bsome];simp only;rw[idx_nat,List.getElem?_eq_getElem hj,bsome,ha,bsome,bsome];simp only;rw[chk_succ Om,bsome,l09 hj,quF,if_neg q1,if_pos q2];have h5:=n2 hj s[i+1];revert h5;cases quF (s.drop (i+1+1)) with
         | none=>exact id
         | some p=>simp
       rw[if_pos Om,fail_eq,bsome,bsome];have:quF (c::s.drop (i+1))=none:=by rw[l08 Om,quF,if_neg q1]
       rw[this];exact⟨_,l0k _,G⟩
     rw[if_neg q2,ha,bsome,bsome];simp only;rw[chk_succ Om,bsome];have:quF (c::s.drop (i+1))=(quF (s.drop (i+1))).map fun p=>(c::p.1,p.2):=by
      cases hd:s.drop (i+1) with
      | nil=>simp [quF,q1]
      | cons x l=>rw[quF,if_neg q1,if_neg q2]
     rw[this];have h5:=n1 c;revert h5;cases quF (s.drop (i+1)) with
     | none=>exact id
     | some p=>simp
   rw[Y0g,if_pos Om,fail_eq,l08 Om,quF];exact⟨_,l0k _,G⟩
theorem quote_run (s:Ls)(hs:Sml s)(i:Nat)(hi:i<s.length):Rn s (Y1R (s,(i:Int))) (quF (s.drop (i+1))):=by
 have hb:s.length≤4294967280:=hs;unfold Y1R;dsimp only;rw[chk_succ Om,bsome];have:=quote_L1 s hs s.length (i+1) FU [] Om (FU_gt Om) Om Sm;revert this;cases quF (s.drop (i+1)) with
 | none=>rintro⟨n,h1,h2⟩;exact ⟨n,h1,by rw[h2,bsome]⟩
 | some r=>rintro⟨j,h1,h2,h3⟩;exact ⟨j,h1,h2,by rw[h3,bsome];rfl⟩
theorem word_L1 (s:Ls)(hs:Sml s):∀(k i m:Nat),s.length-i≤k→k<m→i≤s.length→
 Y0n m s (i:Int)=some (s,((i+((s.drop i).takeWhile waB).length:Nat):Int)):=by
 intro k;induction k with
 | zero =>
   intro i m h1 h2 h3;obtain⟨m,rfl⟩ :∃k,m=k+1:=⟨m-1,by omega⟩
   rw[Y0n,if_neg Om,bsome,if_neg Dc,l08 Om];rfl
 | succ k ih =>
   intro i m h1 h2 h3;obtain⟨m,rfl⟩ :∃k,m=k+1:=⟨m-1,by omega⟩
   have hb:s.length≤4294967280:=hs;by_cases hi:i<s.length
   · rw[Y0n,if_pos Om,idx_nat,List.getElem?_eq_getElem hi,bsome,atom_eq,bsome,l09 hi];have hw:(if atB s[i]=true then some true else(some s[i]).bind fun c31=>some (decide (c31=46)))=some (waB s[i]):=by
      unfold waB;cases atB s[i] <;> simp
     rw[hw,bsome];by_cases q:waB s[i]=true
     · rw[if_pos q,chk_succ Om,bsome,ih (i+1) m Om Om Om,l0w q,l02];congr 3;omega
     rw[if_neg q,l0B q];rfl
   rw[Y0n,if_neg Om,bsome,if_neg Dc,l08 Om];rfl
theorem sign_eq (c:UInt8):Y0x [58,59,44,64,60,62] c=some (ixB [58,59,44,64,60,62] c)∧(0≤ixB [58,59,44,64,60,62] c↔sgB c=true):=by
 refine⟨by unfold Y0x;rfl,?_⟩;refine allB (p:=fun c=>0≤ixB [58,59,44,64,60,62] c↔sgB c=true) ?_ c;decide +kernel
theorem tw_take {α:Type}(p:α→Bool):∀l:List α,l.take (l.takeWhile p).length=l.takeWhile p
 | []=>rfl
 | c::l=>by
   by_cases h:p c=true
   · rw[l0w h,l02,l0F,tw_take p l]
   rw[l0B h];rfl
theorem tw_drop {α:Type}(p:α→Bool):∀l:List α,l.drop (l.takeWhile p).length=l.dropWhile p
 | []=>rfl
 | c::l=>by
   by_cases h:p c=true
   · rw[l0w h,l02,l0Y,tw_drop p l,l0C h]
   rw[l0B h,l0K h];rfl
theorem tw_le {α:Type}(p:α→Bool):∀l:List α,(l.takeWhile p).length≤l.length
 | []=>by simp
 | c::l=>by
   by_cases h:p c=true
   · rw[l0w h];have:=tw_le p l;simp;omega
   rw[l0B h];simp
theorem next_run (s:Ls)(hs:Sml s)(i:Nat)(h3:i≤s.length):Rn s (Y0l (s,(i:Int))) (nxF (s.drop i)):=by
 have hb:s.length≤4294967280:=hs;unfold Y0l nxF;have hsk:=skip_run s hs i h3;revert hsk;dsimp only;cases sk (s.drop i) with
 | none=>rintro⟨n,q1,q2⟩;rw [q2,bsome];exact ⟨n,q1,rfl⟩
 | some r =>
   rintro⟨j,q1,rfl,q3⟩;rw[q3,bsome,bsome];by_cases hj:j<s.length
   · dsimp only;rw[if_neg Om,idx_nat,List.getElem?_eq_getElem hj,bsome,l09 hj];dsimp only;by_cases c1:s[j]=34
     · rw[if_pos c1,if_pos c1];have hq:=quote_run s hs j hj;revert hq;cases quF (s.drop (j+1)) with
       | none=>rintro⟨n,w1,w2⟩;rw [w2,bsome];exact ⟨n,w1,rfl⟩
       | some p=>rintro⟨k,w1,w2,w3⟩;rw [w3,bsome];exact ⟨k,w1,w2,rfl⟩
     rw[if_neg c1,if_neg c1,(sign_eq s[j]).1,bsome];by_cases c2:sgB s[j]=true
     · rw[if_pos ((sign_eq s[j]).2.2 c2),if_pos c2,chk_succ Om,bsome];exact⟨j+1,by omega,G,G⟩
     rw[if_neg (fun e=>c2 ((sign_eq s[j]).2.1 e)),if_neg c2,word_L1 s hs s.length j FU Om (FU_gt Om) Om,bsome,l09 hj];dsimp only;by_cases c3:waB s[j]=true
     · have hw:(s[j]::s.drop (j+1))=s.drop j:=(l09 hj).symm;have hpos:1≤((s[j]::s.drop (j+1)).takeWhile waB).length:=by rw[l0w c3];simp
       have hle:=tw_le waB (s.drop j);rw[l01] at hle;rw[if_neg Om,if_pos c3,bsome];rw[hw] at hpos ⊢;dsimp only;rw[cut_of rfl rfl Om Om,bsome,l1c,l1l,tw_take];exact⟨j+((s.drop j).takeWhile waB).length,by omega,by rw[←l0n,tw_drop],G⟩
     rw[if_pos (by rw[l0B c3];simp),if_neg c3,fail_eq,bsome,bsome];exact⟨_,l0k _,G⟩
   dsimp only;rw[if_pos Om,l08 Om];exact⟨j,q1,(l08 Om).symm,G⟩
def RnS {α:Type}(s:Ls)(f:Option ((α × (Ls × Int)) ⊕ Int)):Option (α × LT)→Prop
 | some (a,t) =>∃j:Nat,j≤s.length∧t=lex (s.drop j)∧f=some (.inl (a,(s,(j:Int))))
 | none =>∃n:Int,0≤n∧f=some (.inr n)
def RsS (s:Ls)(f:Option ((Ls × Int) ⊕ Int)):Option LT→Prop
 | some t =>∃j:Nat,j≤s.length∧t=lex (s.drop j)∧f=some (.inl (s,(j:Int)))
 | none =>∃n:Int,0≤n∧f=some (.inr n)
def elOf : LT→Elt
 | .tok e _=>some e
 | _=>none
theorem peek_run (s:Ls)(hs:Sml s)(i:Nat)(h3:i≤s.length):
 (lex (s.drop i) = .err∧∃n:Int,0≤n∧Y0f (s,(i:Int))=some (.inr n))∨(lex (s.drop i)≠ .err∧Y0f (s,(i:Int))=some (.inl (elOf (lex (s.drop i)),(s,(i:Int))))):=by
 have hn:=next_run s hs i h3;unfold Y0f;dsimp only;rw[lex_eq];revert hn;cases nxF (s.drop i) with
 | none=>rintro⟨n,q1,q2⟩;exact .inl ⟨rfl,n,q1,by rw[q2,bsome]⟩
 | some p =>
   obtain⟨e,r⟩:=p;rintro⟨j,q1,q2,q3⟩;refine .inr ?_;rw[q3,bsome];cases e with
   | none=>exact⟨fun h=>(by cases h),rfl⟩
   | some e=>exact⟨fun h=>(by cases h),rfl⟩
theorem next_tok (s:Ls)(hs:Sml s)(i:Nat)(h3:i≤s.length){e:UInt8 ⊕ (Ls × Bool)}{t:LT}(h:lex (s.drop i) = .tok e t):
 ∃j:Nat,j≤s.length∧i<j∧t=lex (s.drop j)∧Y0l (s,(i:Int))=some (.inl (some e,(s,(j:Int)))):=by
 have hn:=next_run s hs i h3;rw[lex_eq] at h;have hl := @nxF_len (s.drop i);revert hn h hl;cases nxF (s.drop i) with
 | none=>intro h;cases h
 | some p =>
   obtain⟨e',r⟩:=p;rintro h ⟨j,q1,rfl,q3⟩ hl;cases e' with
   | none=>cases h
   | some e' =>
     dsimp only at h;injection h with h1 h2;subst h1 h2;have:=hl rfl Sm;rw[l01,l01] at this;exact⟨j,q1,by omega,G,q3⟩
theorem next_eof (s:Ls)(hs:Sml s)(i:Nat)(h3:i≤s.length)(h:lex (s.drop i) = .eof):∃j:Nat,j≤s.length∧Y0l (s,(i:Int))=some (.inl (none,(s,(j:Int)))):=by
 have hn:=next_run s hs i h3;rw[lex_eq] at h;revert hn h;cases nxF (s.drop i) with
 | none=>intro h;cases h
 | some p =>
   obtain⟨e',r⟩:=p;rintro h ⟨j,q1,rfl,q3⟩;cases e' with
   | none=>exact⟨j,q1,q3⟩
   | some e'=>cases h
theorem next_err (s:Ls)(hs:Sml s)(i:Nat)(h3:i≤s.length)(h:lex (s.drop i) = .err):∃n:Int,0≤n∧Y0l (s,(i:Int))=some (.inr n):=by
 have hn:=next_run s hs i h3;rw[lex_eq] at h;revert hn h;cases nxF (s.drop i) with
 | none=>rintro _ ⟨n,q1,q2⟩;exact ⟨n,q1,q2⟩
 | some p=>obtain⟨e',r⟩:=p;cases e' <;>(intro h;cases h)
def wordsS : LT→Option (List (Ls × Bool) × LT)
 | .err=>none
 | .eof=>some ([], .eof)
 | .tok (.inl c) t=>some ([], .tok (.inl c) t)
 | .tok (.inr w) t=>(wordsS t).map fun p=>(w::p.1,p.2)
def isS (c:UInt8):LT→Option (Bool × LT)
 | .err=>none
 | .eof=>some (false, .eof)
 | .tok (.inr w) t=>some (false, .tok (.inr w) t)
 | .tok (.inl d) t=>if d=c then some (true,t) else some (false, .tok (.inl d) t)
def needS (c:UInt8)(t:LT):Option LT:=(isS c t).bind fun p=>if p.1=true then some p.2 else none
theorem Y5D (s:Ls)(hs:Sml s):∀(k i m:Nat) (acc:List (Ls × Bool)),s.length-i≤k→k<m→i≤s.length→acc.length≤i→
 RnS s (Y0h m s (i:Int) acc) ((wordsS (lex (s.drop i))).map fun p=>(acc++p.1,p.2)):=by
 intro k;induction k with
 | zero =>
   intro i m acc h1 h2 h3 h4;obtain⟨m,rfl⟩ :∃k,m=k+1:=⟨m-1,by omega⟩
   have he:lex (s.drop i) = .eof:=by rw[l08 Om];rfl
   rcases peek_run s hs i h3 with ⟨q1,_⟩|⟨_,q2⟩
   · rw[he] at q1;cases q1
   rw[Y0h,q2,bsome,he];simp only[elOf,okW_eq,bsome,isW,getW,l0h,if_false,wordsS,l0T];exact⟨i,h3,he.symm,by rw[l0g]⟩
 | succ k ih =>
   intro i m acc h1 h2 h3 h4;obtain⟨m,rfl⟩ :∃k,m=k+1:=⟨m-1,by omega⟩
   have hb:s.length≤4294967280:=hs;rcases peek_run s hs i h3 with ⟨q1,n,q2,q3⟩|⟨q1,q2⟩
   · rw[Y0h,q3,bsome,q1];exact⟨n,q2,G⟩
   rw[Y0h,q2,bsome];cases hl:lex (s.drop i) with
   | err=>exact absurd hl q1
   | eof =>
     simp only[elOf,okW_eq,bsome,isW,getW,l0h,if_false,wordsS,l0T];exact⟨i,h3,hl.symm,by rw[l0g]⟩
   | tok e t =>
     cases e with
     | inl c =>
       simp only[elOf,okW_eq,bsome,isW,getW,l0h,if_false,wordsS,l0T];exact⟨i,h3,hl.symm,by rw[l0g]⟩
     | inr w =>
       obtain⟨j,w1,w2,rfl,w4⟩:=next_tok s hs i h3 hl;simp only[elOf,okW_eq,bsome,isW,getW,if_true,w4];rw[app_ok (by simp;omega),bsome];have h5:=ih j m (acc++[w]) Om Om w1 (by rw[l00];simp;omega);rw[wordsS];revert h5;cases wordsS (lex (s.drop j)) with
       | none=>exact id
       | some p=>simp
theorem Y4C (s:Ls)(hs:Sml s)(i:Nat)(h3:i≤s.length):RnS s (Y0V (s,(i:Int))) (wordsS (lex (s.drop i))):=by
 have hb:s.length≤4294967280:=hs;unfold Y0V;dsimp only;have:=Y5D s hs s.length i FU [] Om (FU_gt Om) h3 Sm;revert this;cases wordsS (lex (s.drop i)) with
 | none=>rintro⟨n,h1,h2⟩;exact ⟨n,h1,by rw[h2,bsome]⟩
 | some r=>rintro⟨j,h1,h2,h3⟩;exact ⟨j,h1,h2,by rw[h3,bsome];rfl⟩
theorem is_run (s:Ls)(hs:Sml s)(i:Nat)(h3:i≤s.length)(c:UInt8):RnS s (Y0F (s,(i:Int)) c) (isS c (lex (s.drop i))):=by
 unfold Y0F;dsimp only;rcases peek_run s hs i h3 with ⟨q1,n,q2,q3⟩|⟨q1,q2⟩
 · rw[q3,bsome,q1];exact⟨n,q2,G⟩
 rw[q2,bsome];dsimp only;cases hl:lex (s.drop i) with
 | err=>exact absurd hl q1
 | eof =>
   dsimp only[isS];rw[if_neg (show ¬elOf LT.eof=eltS c by simp [elOf,eltS])];exact⟨i,h3,hl.symm,G⟩
 | tok e t =>
   cases e with
   | inr w =>
     dsimp only[isS];rw[if_neg (show ¬elOf (LT.tok (.inr w) t)=eltS c by simp [elOf,eltS])];exact⟨i,h3,hl.symm,G⟩
   | inl d =>
     dsimp only[isS];by_cases hd:d=c
     · obtain⟨j,w1,w2,rfl,w4⟩:=next_tok s hs i h3 hl;rw[if_pos (show elOf (LT.tok (.inl d) _)=eltS c by rw[hd];rfl),if_pos hd,w4,bsome];exact⟨j,w1,G,G⟩
     rw[if_neg (show ¬elOf (LT.tok (.inl d) t)=eltS c by intro e;exact hd (by simpa [elOf,eltS] using e)),if_neg hd];exact⟨i,h3,hl.symm,G⟩
theorem need_run (s:Ls)(hs:Sml s)(i:Nat)(h3:i≤s.length)(c:UInt8):RsS s (Y15 (s,(i:Int)) c) (needS c (lex (s.drop i))):=by
 have h:=is_run s hs i h3 c;unfold Y15 needS;dsimp only;revert h;cases isS c (lex (s.drop i)) with
 | none=>rintro⟨n,h1,h2⟩;rw [h2,bsome];exact ⟨n,h1,rfl⟩
 | some p =>
   obtain⟨b,t⟩:=p;rintro⟨j,h1,h2,h3⟩;rw[h3,bsome,bsome];cases b with
   | true=>exact⟨j,h1,h2,rfl⟩
   | false=>exact⟨_,l0k _,rfl⟩
end Go.Ph.Ad
end
section
namespace Go.Ph.Ad
open Go.Ph.Pl Go.Ph.Pf
theorem foldl_app {α β:Type}(f:α→List β):∀(l:List α) (o:List β),l.foldl (fun o a=>o++f a) o=o++l.flatMap f
 | [],o=>by simp
 | a::l,o=>by rw[l0P,foldl_app f l];simp
def esc (c:UInt8):Option Ls:=if c=34 then some [92,34] else if c=92 then some [92,92] else none
def q1 (c:UInt8):Ls:=(esc c).getD [c]
def qt (p:Ls):Ls:=p.flatMap q1
def cnt (p:Ls):Nat:=p.countP fun c=>(esc c).isSome
theorem tab_at (c:UInt8):idxO (tabk 2) (c.toNat:Int)=some (esc c):=by
 refine allB (p:=fun c=>idxO (tabk 2) (c.toNat:Int)=some (esc c)) ?_ c;decide +kernel
theorem esc_two {c:UInt8}{s:Ls}(h:esc c=some s):s.length=2:=by
 unfold esc at h;split at h
 · cases h;rfl
 split at h
 · cases h;rfl
 cases h
theorem qt_cons (c:UInt8)(p:Ls):qt (c::p)=q1 c++qt p:=rfl
theorem qt_len :∀p:Ls,(qt p).length=p.length+cnt p
 | []=>rfl
 | c::p=>by
   rw[qt_cons,l00,qt_len p,l02];unfold cnt q1;rw[l1N];cases h:esc c with
   | none=>simp;omega
   | some s=>have:=esc_two h;simp;omega
theorem qt_id :∀p:Ls,cnt p=0→qt p=p
 | [],h=>rfl
 | c::p,h=>by
   unfold cnt at h;rw[l1N] at h;have h2:=qt_id p (by unfold cnt;omega);rw[qt_cons,h2];unfold q1;cases h3:esc c with
   | none=>rfl
   | some s=>rw[h3] at h;simp at h
theorem cnt_split :∀p:Ls,cnt p=(p.countP fun c=>decide (([34]:Ls)=[c]))+(p.countP fun c=>decide (([92]:Ls)=[c]))
 | []=>rfl
 | c::p=>by
   have:=cnt_split p;unfold cnt at this ⊢;rw[l1N,l1N,l1N,this];unfold esc;by_cases h1:c=34
   · subst h1;simp;omega
   have h1' :¬(34:UInt8)=c:=fun e=>h1 e.symm
   by_cases h2:c=92
   · subst h2;simp;omega
   have h2' :¬(92:UInt8)=c:=fun e=>h2 e.symm
   simp [h1,h2,h1',h2']
theorem rep_L1 (p:Ls)(hp:p.length≤1000):Y00 (tabk 2,trk 2) p FU (p.length:Int) false 0=some (((p.length+cnt p:Nat):Int),decide (cnt p≠0)):=by
 rw[cnt_split];have c1:(p.countP fun c=>decide (([34]:Ls)=[c]))≤p.length:=l1R;have c2:(p.countP fun c=>decide (([92]:Ls)=[c]))≤p.length:=l1R;have k1:Y1S p [34]=some ((p.countP fun c=>decide (([34]:Ls)=[c]):Nat):Int):=by unfold Y1S;rw [if_pos ⟨rfl,by omega⟩]
 have k2:Y1S p [92]=some ((p.countP fun c=>decide (([92]:Ls)=[c]):Nat):Int):=by unfold Y1S;rw [if_pos ⟨rfl,by omega⟩]
 generalize (p.countP fun c=>decide (([34]:Ls)=[c]))=a at *;generalize (p.countP fun c=>decide (([92]:Ls)=[c]))=b at *;have t34:idxO (tabk 2) ((34:UInt8).toNat:Int)=some (some [92,34]):=tab_at 34;have t92:idxO (tabk 2) ((92:UInt8).toNat:Int)=some (some [92,92]):=tab_at 92;have e0:idx (trk 2) 0=some [34]:=rfl;have e1:idx (trk 2) 1=some [92]:=rfl;have l2:((trk 2).length:Int)=2:=rfl;have i34:idx ([34]:Ls) 0=some 34:=rfl;have i92:idx ([92]:Ls) 0=some 92:=rfl;have g2:chk (((Option.getD (some ([92,34]:Ls)) []).length:Int)-1)=some 1:=rfl;have g3:chk (((Option.getD (some ([92,92]:Ls)) []).length:Int)-1)=some 1:=rfl;have hend :∀m x y,Y00 (tabk 2,trk 2) p (m+1) x y 2=some (x,y):=fun m x y=>by
  rw[Y00];dsimp only;rw[l2,if_neg Dc]
 have h1 :∀m (x:Nat) y,x≤3000→Y00 (tabk 2,trk 2) p (m+1+1) (x:Int) y 1=some (((x+b:Nat):Int),if b=0 then y else true):=fun m x y hx=>by
  rw[Y00];dsimp only;rw[l2,if_pos Dc,e1,bsome,k2,bsome];by_cases hb:b=0
  · subst hb;rw[if_pos rfl,show chk ((1:Int)+1)=some 2 from rfl,bsome,hend];rfl
  rw[if_neg Om,i92,bsome,t92,bsome,g3,bsome,chk_ok Om Om,bsome,chk_ok Om Om,bsome,show chk ((1:Int)+1)=some 2 from rfl,bsome,hend,if_neg hb,show ((x:Int)+(b:Int)*1)=((x+b:Nat):Int) by omega]
 obtain⟨K,hK⟩ :∃K,FU=K+1+1+1:=⟨18446744073709551613,rfl⟩
 rw[hK,Y00];dsimp only;rw[l2,if_pos Dc,e0,bsome,k1,bsome];by_cases ha:a=0
 · subst ha;rw[if_pos (show((0:Nat):Int)=0 from rfl),show chk ((0:Int)+1)=some 1 from rfl,bsome,h1 _ _ _ Om,l0s];by_cases hb:b=0
   · subst hb;rfl
   rw[if_neg hb,decide_eq_true hb]
 rw[if_neg Om,i34,bsome,t34,bsome,g2,bsome,chk_ok Om Om,bsome,chk_ok Om Om,bsome,show chk ((0:Int)+1)=some 1 from rfl,bsome,show ((p.length:Int)+(a:Int)*1)=((p.length+a:Nat):Int) by omega,h1 _ _ _ Om,decide_eq_true Om,ite_self,l1I]
theorem rep_L2 (p:Ls)(hp:p.length≤1000):Y01 (tabk 2,trk 2) p FU (p.length:Int) false 0=some (((p.length+cnt p:Nat):Int),decide (cnt p≠0)):=by
 have hf :∀(l:Ls) (a:Nat),l.foldl (fun(s:Nat) c=>if (esc c).isSome=true then s+1 else s) a=a+cnt l:=by
  intro l;induction l with
  | nil=>intro a;rfl
  | cons c l ih =>
    intro a;rw[l0P,ih];unfold cnt;rw[l1N];split <;> omega
 have:=foldI0 (L:=fun m (s:Nat) i=>Y01 (tabk 2,trk 2) p m ((p.length+s:Nat):Int) (decide (s≠0)) i) p (fun(s:Nat) c=>if (esc c).isSome=true then s+1 else s) (fun s=>(((p.length+s:Nat):Int),decide (s≠0))) (fun i s=>s≤i) Om ?_ ?_ 0 Om
 · rw[hf,l0s] at this;exact this
 · intro m s hs;rw[Y01,if_neg Om]
 intro m s i x hx hs;have hi:=(List.getElem?_eq_some_iff.1 hx).1;refine⟨by split <;> omega,?_⟩;rw[Y01,if_pos Om,idx_nat,hx,bsome,tab_at,bsome];by_cases h:(esc x).isSome=true
 · obtain⟨s2,hs2⟩:=Option.isSome_iff_exists.1 h;have:=esc_two hs2;rw[if_pos h,if_pos h,bsome,hs2,l1A,this,show chk (((2:Nat):Int)-1)=some 1 from rfl,bsome,chk_ok Om Om,bsome,chk_succ Om,bsome,decide_eq_true (show s+1≠0 by omega)];rfl
 rw[if_neg h,if_neg h,chk_succ Om,bsome]
theorem rep_L3 (p:Ls)(hp:p.length≤1000):∀(d i m:Nat) (A:Ls),p.length-i≤d→d<m→i≤p.length→A.length≤2*i→
 Y02 (tabk 2,trk 2) p m (A++List.replicate (qt (p.drop i)).length 0) (A.length:Int) (i:Int)=some (A++qt (p.drop i)):=by
 intro d;induction d with
 | zero =>
   intro i m A h1 h2 h3 hA;obtain⟨m,rfl⟩ :∃k,m=k+1:=⟨m-1,by omega⟩
   rw[Y02,if_neg Om,l08 Om];rfl
 | succ d ih =>
   intro i m A h1 h2 h3 hA;obtain⟨m,rfl⟩ :∃k,m=k+1:=⟨m-1,by omega⟩
   by_cases hi:i<p.length
   · rw [Y02,if_pos Om,idx_nat,List.getElem?_eq_getElem hi,bsome,tab_at,bsome,l09 hi,qt_cons];unfold q1;cases h:esc p[i] with
     | some s =>
       have hs:=esc_two h;have ht:=tab_at p[i];rw[l1P,if_pos rfl,frm_ok Sm,bsome,bsome,l1A,l1A];have hc:cpyO (A++List.replicate (s++qt (p.drop (i+1))).length 0) (A.length:Int) s=some ((A++s)++List.replicate (qt (p.drop (i+1))).length 0,2):=by
        unfold cpyO;rw[l0u,l1q];have e1:s.take ((A++List.replicate (s++qt (p.drop (i+1))).length (0:UInt8)).length-A.length)=s:=l0q (by rw[l00,l0W,l00];omega);rw[e1,hs,l1W,l08 Om,l07,List.drop_replicate,show (s++qt (p.drop (i+1))).length-(A.length+2-A.length)=(qt (p.drop (i+1))).length by rw[l00];omega];rfl
       rw[hc,bsome];dsimp only;rw[chk_ok Om Om,bsome,chk_succ Om,bsome];have:=ih (i+1) m (A++s) Om Om Om (by simp;omega);rw[show ((A++s).length:Int)=(A.length:Int)+2 by simp;omega] at this;rw[this,l0c]
     | none =>
       rw[l1D,if_neg Dc,Option.getD_none];have e0:A++List.replicate ([p[i]]++qt (p.drop (i+1))).length (0:UInt8)=A++0::List.replicate (qt (p.drop (i+1))).length 0:=by
        rw[l00,l1E,l2k,List.replicate_succ]
       rw[e0,idx_nat,List.getElem?_append_right (l0e _),Nat.sub_self,List.getElem?_cons_zero,bsome,put_ok Om (by simp;omega),bsome,chk_succ Om,bsome,chk_succ Om,bsome,l0u,l2c (h:=l0e _),Nat.sub_self,List.set_cons_zero];have:=ih (i+1) m (A++[p[i]]) Om Om Om (by simp;omega);rw[show ((A++[p[i]]).length:Int)=((A.length+1:Nat):Int) by simp,l0c] at this;rw[show (p[i]::List.replicate (qt (p.drop (i+1))).length (0:UInt8))=[p[i]]++List.replicate (qt (p.drop (i+1))).length 0 from rfl,this,l0c]
   rw[Y02,if_neg Om,l08 Om];rfl
theorem replace_eq (p:Ls)(hp:p.length≤1000):Y1a p=some (qt p):=by
 unfold Y1a Y0C;have hc:cnt p≤p.length:=l1R;dsimp only;rw[show chk (((trk 2).length:Int)*8)=some 16 from rfl,bsome,rep_L1 p hp,rep_L2 p hp,bsome];dsimp only;rw[ite_self,bsome];dsimp only;by_cases h:cnt p=0
 · rw[decide_eq_false Om,if_neg Dc,qt_id p h]
 rw[decide_eq_true h,if_pos rfl,mkS_ok Om Om Om Om,bsome,l0u,←qt_len];have:=rep_L3 p hp p.length 0 FU [] Om (FU_gt Om) Om Sm;simp only[l03,l2s,l0l,l07] at this;rw[this,bsome]
end Go.Ph.Ad
end
section
namespace Go.Ph.Ad
open Go.Ph.Pl Go.Ph.Pf
open Go.Ph.Chs (vld lower lowB)
theorem wa_facts (c:UInt8):waB c=true→blB c=false∧c≠40∧c≠34∧sgB c=false:=by
 refine allB (p:=fun c=>waB c=true→blB c=false∧c≠40∧c≠34∧sgB c=false) ?_ c;decide +kernel
theorem sg_facts (c:UInt8):sgB c=true→blB c=false∧c≠40∧c≠34∧waB c=false:=by
 refine allB (p:=fun c=>sgB c=true→blB c=false∧c≠40∧c≠34∧waB c=false) ?_ c;decide +kernel
theorem lex_nil : lex [] = .eof:=rfl
theorem lex_blank {c:UInt8}{l:Ls}(h:blB c=true):lex (c::l)=lex l:=by
 rw[lex_eq,lex_eq];unfold nxF;rw[sk_cons,if_pos h]
theorem lex_sign {c:UInt8}{l:Ls}(h:sgB c=true):lex (c::l) = .tok (.inl c) (lex l):=by
 obtain⟨h1,h2,h3,h4⟩:=sg_facts c h;rw[lex_eq];unfold nxF;rw[sk_cons,if_neg (by rw[h1];decide),if_neg h2,bsome];dsimp only;rw[if_neg h3,if_pos h];rfl
theorem tw_all (p:UInt8→Bool):∀(w r:Ls),w.all p=true→(∀c l,r=c::l→p c=false)→(w++r).takeWhile p=w∧(w++r).dropWhile p=r
 | [],r,_,h=>by
   cases r with
   | nil=>exact⟨rfl,rfl⟩
   | cons c l =>
     have:=h c l rfl;rw[l07,l0B (by rw[this];decide),l0K (by rw[this];decide)];exact⟨G,G⟩
 | c::w,r,h,hr=>by
   rw[l0H,l0j] at h;obtain⟨i1,i2⟩:=tw_all p w r h.2 hr;rw[l04,l0w h.1,l0C h.1,i1,i2];exact⟨G,G⟩
theorem lex_word {w r:Ls}(hne:w≠ [])(h:w.all waB=true)(hr :∀c l,r=c::l→waB c=false):lex (w++r) = .tok (.inr (w,false)) (lex r):=by
 obtain⟨i1,i2⟩:=tw_all waB w r h hr;cases w with
 | nil=>exact absurd rfl hne
 | cons c w =>
   rw[l0H,l0j] at h;obtain⟨h1,h2,h3,h4⟩:=wa_facts c h.1;rw[lex_eq];unfold nxF;rw[l04] at i1 i2 ⊢;rw[sk_cons,if_neg (by rw[h1];decide),if_neg h2,bsome];dsimp only;rw[if_neg h3,if_neg (by rw[h4];decide),if_pos h.1,i1,i2];rfl
theorem quF_qt :∀(p r:Ls),quF (qt p++34::r)=some (p,r)
 | [],r=>by
   show quF (34::r)=_
   cases r <;> rfl
 | c :: p,r=>by
   have ih:=quF_qt p r;rw[qt_cons,l0c];have hne :∃y z,qt p++34::r=y::z:=by
    cases h:qt p++34::r with
    | nil=>simp at h
    | cons y z=>exact⟨y,z,rfl⟩
   obtain⟨y,z,hyz⟩:=hne;unfold q1 esc;by_cases h1:c=34
   · subst h1;show quF (92::34::(qt p++34::r))=_
     rw[quF,if_neg Dc,if_pos rfl,ih];rfl
   by_cases h2:c=92
   · subst h2;show quF (92::92::(qt p++34::r))=_
     rw[quF,if_neg Dc,if_pos rfl,ih];rfl
   rw[if_neg h1,if_neg h2];show quF (c::(qt p++34::r))=_
   rw[hyz,quF,if_neg h1,if_neg h2,←hyz,ih];rfl
theorem lex_quote (p r:Ls):lex (34::(qt p++34::r)) = .tok (.inr (p,true)) (lex r):=by
 rw[lex_eq];unfold nxF;rw[sk_cons,if_neg Dc,if_neg Dc,bsome];dsimp only;rw[if_pos rfl,quF_qt];rfl
theorem dt_all (p:UInt8→Bool)(hp :∀c,p c=true→waB c=true):∀(l:Ls) (e:Bool),dtF p e l=true→l.all waB=true∧(e=true→l≠ [])
 | [],e,h=>⟨rfl,fun he=>by rw[dtF,he] at h;cases h⟩
 | c :: l,e,h=>by
   rw[dtF] at h;by_cases hc:c=46
   · rw[if_pos hc] at h;cases e with
     | true=>rw[if_pos rfl] at h;cases h
     | false =>
       rw[if_neg Dc] at h;rw[l0H,(dt_all p hp l true h).1,hc];exact⟨G,fun he=>by cases he⟩
   rw[if_neg hc] at h;by_cases hpc:p c=true
   · rw[if_pos hpc] at h;rw[l0H,hp c hpc,(dt_all p hp l false h).1];exact⟨G,fun _=>by simp⟩
   rw[if_neg hpc] at h;cases h
theorem at_wa (c:UInt8)(h:atB c=true):waB c=true:=by unfold waB;rw [h];rfl
theorem do_wa (c:UInt8):doB c=true→waB c=true:=by
 refine allB (p:=fun c=>doB c=true→waB c=true) ?_ c;decide +kernel
theorem dom_word {d:Ls}(h:domT d=true):d≠ []∧d.all waB=true:=by
 unfold domT at h;rw[l0j] at h;have:=dt_all doB do_wa d true h.2;exact⟨this.2 G,this.1⟩
def specT (w d:Ls):Ls:=if dtF atB true w=true then w++64::d else 34::(qt w++34::64::d)
theorem lex_spec {w d r:Ls}(hd:domT d=true)(hr :∀c l,r=c::l→waB c=false):lex (specT w d++r) = .tok (.inr (w,!dtF atB true w)) (.tok (.inl 64) (.tok (.inr (d,false)) (lex r))):=by
 obtain⟨d1,d2⟩:=dom_word hd;have hdd:lex (64::(d++r)) = .tok (.inl 64) (.tok (.inr (d,false)) (lex r)):=by rw[lex_sign Dc,lex_word d1 d2 hr]
 unfold specT;cases hw:dtF atB true w with
 | true =>
   obtain⟨w1,w2⟩:=dt_all atB at_wa w true hw;rw[if_pos rfl,l0c,lex_word (w2 rfl) w1 (by rintro c l h;cases h;rfl)];rw[l04,hdd];rfl
 | false =>
   rw[if_neg Dc];have:34::(qt w++34::64::d)++r=34::(qt w++34::(64::(d++r))):=by simp
   rw[this,lex_quote,hdd];rfl
theorem loc_len {w:Ls}(h:locT w=true):w.length≤60:=by
 unfold locT at h;rw[l0j,decide_eq_true_eq] at h;omega
theorem dom_len {d:Ls}(h:domT d=true):d.length≤60:=by
 unfold domT at h;rw[l0j,decide_eq_true_eq] at h;omega
theorem qt_le (p:Ls):(qt p).length≤2*p.length:=by
 rw[qt_len];have:cnt p≤p.length:=l1R;omega
theorem specT_len (w d:Ls):(specT w d).length≤2*w.length+d.length+3:=by
 unfold specT;have:=qt_le w;split <;> simp <;> omega
theorem specification_eq (a:Adr)(hw:a.2.1.length≤60)(hd:a.2.2.length≤60):Y0q a=some (specT a.2.1 a.2.2):=by
 unfold Y0q specT;have h1:=qt_le a.2.1;rw[dotted_eq _ Om,bsome];cases dtF atB true a.2.1 with
 | true =>
   rw[if_pos rfl,if_pos rfl,cat_ok (by simp;omega),bsome,cat_ok (by simp;omega),bsome];simp
 | false =>
   rw[if_neg Dc,if_neg Dc];unfold Y2k;have hr:Y14 ([[92],[92,92],[34],[92,34]]:List Ls)=some ():=by unfold Y14;rw [if_pos rfl]
   rw[hr,bsome,replace_eq _ Om,bsome,cat_ok (by simp;omega),bsome,cat_ok (by simp;omega),bsome,bsome,cat_ok (by simp;omega),bsome,cat_ok (by simp;omega),bsome];simp
theorem sameI_L1 (l:List Itm)(h:l.length≤140737488355328)(hm :∀x∈l,x.2.2.length≤140737488355328):∀(k i m:Nat),l.length-i≤k→k<m→i≤l.length→Y1w l l m (i:Int)=some (.inl ()):=by
 intro k;induction k with
 | zero =>
   intro i m h1 h2 h3;obtain⟨m,rfl⟩ :∃k,m=k+1:=⟨m-1,by omega⟩
   obtain rfl:i=l.length:=by omega
   rw[Y1w,if_neg Om]
 | succ k ih =>
   intro i m h1 h2 h3;obtain⟨m,rfl⟩ :∃k,m=k+1:=⟨m-1,by omega⟩
   by_cases hi:i<l.length
   · rw[Y1w,if_pos Om,idx_nat,List.getElem?_eq_getElem hi];simp only[bsome,if_true,sameA_refl _ (hm _ (l0E hi)),l1o,l0h,if_false];rw[chk_succ Om,bsome];exact ih (i+1) m Om Om Om
   obtain rfl:i=l.length:=by omega
   rw[Y1w,if_neg Om]
theorem sameI_refl (l:List Itm)(h:l.length≤140737488355328)(hm :∀x∈l,x.2.2.length≤140737488355328):Y33 l l=some true:=by
 unfold Y33;rw[if_pos rfl,show (0:Int)=((0:Nat):Int) from rfl,sameI_L1 l h hm l.length 0 FU Om (FU_gt Om) Om];rfl
theorem addrF_ok {a:Adr}(h:(addrF a).1=0):dispF a.1=0∧locT a.2.1=true∧domT a.2.2=true∧addrF a=(0,0):=by
 unfold addrF at h ⊢;by_cases h1:dispF a.1=0
 · rw[if_pos h1] at h ⊢;cases hw:locT a.2.1 with
   | false=>rw[hw] at h;cases h
   | true =>
     rw[hw] at h;cases hd:domT a.2.2 with
     | false=>rw[hd] at h;cases h
     | true=>exact⟨h1,rfl,rfl,rfl⟩
 rw[if_neg h1] at h;exact absurd h h1
end Go.Ph.Ad
end
section
namespace Go.Ph.B64
theorem byThree {P:Ls→Prop}(h0:P [])(h1 :∀a,P [a])(h2 :∀a b,P [a,b])(h3 :∀a b c l,P l→P (a::b::c::l)):∀l,P l
 | []=>h0
 | [a]=>h1 a
 | [a,b]=>h2 a b
 | a::b::c::l=>h3 a b c l (byThree h0 h1 h2 h3 l)
abbrev A (k:Nat):UInt8:=alpha.getD k 0
theorem outp_eq (l:Ls):outp l 4=[ch l 0,ch l 1,ch l 2,ch l 3]:=rfl
theorem ch_of (l:Ls)(i:Nat)(h:i≤min 3 l.length):ch l i=A (accN l 3 / 2 ^ (18-6*i) % 64):=by
 unfold ch;rw [if_neg Om]
theorem acc3 (l:Ls):accN l 3=(l.getD 0 0).toNat*65536+(l.getD 1 0).toNat*256+(l.getD 2 0).toNat:=by
 simp only[accN];omega
theorem grp3 (a b c:UInt8)(l:Ls):outp (a::b::c::l) 4=[A (a.toNat / 4),A (a.toNat % 4*16+b.toNat / 16),A (b.toNat % 16*4+c.toNat / 64),A (c.toNat % 64)]:=by
 have ha:=a.toNat_lt;have hb:=b.toNat_lt;have hc:=c.toNat_lt;have h:=acc3 (a::b::c::l);simp only[l2E,l2F] at h;rw[outp_eq,ch_of _ _ Sm,ch_of _ _ Sm,ch_of _ _ Sm,ch_of _ _ Sm,h];congr 2
 · simp only[Nat.mul_zero,Nat.sub_zero];omega
 congr 2
 · simp only[l0Q];omega
 congr 2
 · omega
 rw[show (a.toNat*65536+b.toNat*256+c.toNat) / 2 ^ (18-6*3) % 64=c.toNat % 64 by rw[show 2 ^ (18-6*3)=1 from rfl,Nat.div_one];omega]
theorem grp1 (a:UInt8):outp [a] 4=[A (a.toNat / 4),A (a.toNat % 4*16),61,61]:=by
 have ha:=a.toNat_lt;have h:=acc3 [a];simp only[l2E,l2F,List.getD_nil] at h;rw[outp_eq,ch_of _ _ Sm,ch_of _ _ Sm,h];congr 2
 · simp;omega
 congr 2;simp;omega
theorem grp2 (a b:UInt8):outp [a,b] 4=[A (a.toNat / 4),A (a.toNat % 4*16+b.toNat / 16),A (b.toNat % 16*4),61]:=by
 have ha:=a.toNat_lt;have hb:=b.toNat_lt;have h:=acc3 [a,b];simp only[l2E,l2F,List.getD_nil] at h;rw[outp_eq,ch_of _ _ Sm,ch_of _ _ Sm,ch_of _ _ Sm,h];congr 2
 · simp;omega
 congr 2
 · simp;omega
 congr 2;simp;omega
theorem grps_three (a b c:UInt8)(l:Ls):grps (a::b::c::l)=outp (a::b::c::l) 4::grps l:=by
 unfold grps;have h1:((a::b::c::l).length+2) / 3=(l.length+2) / 3+1:=by simp only[l02];omega
 rw[h1];unfold grpsTo;rw[List.range_succ_eq_map,l0f,l1z];congr 1
theorem grps_one (a:UInt8):grps [a]=[outp [a] 4]:=by
 unfold grps;rw[show ([a].length+2) / 3=1 by simp];simp [grpsTo,grpAt,l2i]
theorem grps_two (a b:UInt8):grps [a,b]=[outp [a,b] 4]:=by
 unfold grps;rw[show ([a,b].length+2) / 3=1 by simp];simp [grpsTo,grpAt,l2i]
theorem sumN6 (x y z u v w:Nat):sumN [x,y,z,u,v,w]=32*x+16*y+8*z+4*u+2*v+w:=by simp [sumN];omega
theorem sumN8 (u:Nat)(h:u<256):sumN (bits8 u)=u:=by simp [sumN,bits8];omega
theorem six_add (x bits:List Nat)(m q:Nat)(hx:x.length=6*m):six (x++bits) (m+q)=six bits q:=by
 unfold six;congr 1;rw[l1c,l1c];rw[show 6*(m+q)=x.length+6*q by omega,List.drop_length_add_append];congr 1;omega
theorem sext_add (x bits:List Nat)(m:Nat)(hx:x.length=6*m)(q:Nat):sext (x++bits) (m+q)=sext (x++bits) m++sext bits q:=by
 induction q with
 | zero=>simp [sext]
 | succ q ih=>rw[←l1I,sext,sext,ih,six_add x bits m q hx,l0c]
theorem padBits_three (a b c:UInt8)(l:Ls):padBits (a::b::c::l)=(bits8 a.toNat++bits8 b.toNat++bits8 c.toNat)++padBits l:=by
 unfold padBits bitsOf;simp only[l0o,l0c,l02];rw[show (6-8*(l.length+1+1+1) % 6) % 6=(6-8*l.length % 6) % 6 by omega]
theorem sext_lit (x:List Nat)(bits:List Nat)(n1 n2 n3 n4:Nat)(h1:six (x++bits) 0=n1)(h2:six (x++bits) 1=n2)(h3:six (x++bits) 2=n3)(h4:six (x++bits) 3=n4)(l1:n1<64)(l2:n2<64)(l3:n3<64)(l4:n4<64):
 sext (x++bits) 4=[A n1,A n2,A n3,A n4]:=by
 simp only[sext,h1,h2,h3,h4,alpha_one _ l1,alpha_one _ l2,alpha_one _ l3,alpha_one _ l4];rfl
theorem chars_three (a b c:UInt8)(l:Ls):chars64 (a::b::c::l)=outp (a::b::c::l) 4++chars64 l:=by
 have ha:=a.toNat_lt;have hb:=b.toNat_lt;have hc:=c.toNat_lt;have hlen:(padBits (a::b::c::l)).length / 6=4+(padBits l).length / 6:=by
  rw[padBits_three,l00];simp only[l00,bits8_len];omega
 have h4:sext (padBits (a::b::c::l)) 4=outp (a::b::c::l) 4:=by
  rw[grp3,padBits_three];refine sext_lit _ _ _ _ _ _ ?_ ?_ ?_ ?_ Om Om Om Om
  · simp only[six,bits8,l04,l07,l0F,l1d,l0l,Nat.mul_zero,l0s,sumN6];omega
  · simp only[six,bits8,l04,l07,l0F,l1d,l0Y,l0l,l0Q,sumN6];omega
  · simp only[six,bits8,l04,l07,l0F,l1d,l0Y,l0l,sumN6];omega
  simp only[six,bits8,l04,l07,l0F,l1d,l0Y,l0l,sumN6];omega
 have hs:sext (padBits (a::b::c::l)) ((padBits (a::b::c::l)).length / 6)=outp (a::b::c::l) 4++sext (padBits l) ((padBits l).length / 6):=by
  rw[hlen,←h4,padBits_three];exact sext_add _ _ 4 (by simp [bits8_len]) _
 unfold chars64;simp only[hs,l0c,l00];congr 3;rw[show (outp (a::b::c::l) 4).length=4 from rfl];omega
theorem padBits_one (a:UInt8):padBits [a]=bits8 a.toNat++[0,0,0,0]:=by simp [padBits,bitsOf,List.replicate]
theorem padBits_two (a b:UInt8):padBits [a,b]=bits8 a.toNat++bits8 b.toNat++[0,0]:=by simp [padBits,bitsOf,List.replicate]
theorem chars_of {l:Ls}{q:Nat}{s:Ls}(hq:(padBits l).length / 6=q)(h:sext (padBits l) q=s):chars64 l=s++List.replicate ((4-s.length % 4) % 4) 61:=by
 unfold chars64;rw [hq,h]
theorem chars_one (a:UInt8):chars64 [a]=outp [a] 4:=by
 have ha:=a.toNat_lt;rw[grp1];have h:sext (padBits [a]) 2=[A (a.toNat / 4),A (a.toNat % 4*16)]:=by
  rw[padBits_one];have h1:six (bits8 a.toNat++[0,0,0,0]) 0=a.toNat / 4:=by
   simp only[six,bits8,l04,l07,l0F,l1d,l0l,Nat.mul_zero,l0s,sumN6];omega
  have h2:six (bits8 a.toNat++[0,0,0,0]) 1=a.toNat % 4*16:=by
   simp only[six,bits8,l04,l07,l0F,l1d,l0Y,l0l,l0Q,sumN6];omega
  simp only[sext,h1,h2,alpha_one _ (show a.toNat / 4<64 by omega),alpha_one _ (show a.toNat % 4*16<64 by omega)];rfl
 rw[chars_of (by rw[padBits_one];simp [bits8_len]) h];rfl
theorem chars_two (a b:UInt8):chars64 [a,b]=outp [a,b] 4:=by
 have ha:=a.toNat_lt;have hb:=b.toNat_lt;rw[grp2];have h:sext (padBits [a,b]) 3=[A (a.toNat / 4),A (a.toNat % 4*16+b.toNat / 16),A (b.toNat % 16*4)]:=by
  rw[padBits_two];have h1:six (bits8 a.toNat++bits8 b.toNat++[0,0]) 0=a.toNat / 4:=by
   simp only[six,bits8,l04,l07,l0F,l1d,l0l,Nat.mul_zero,l0s,sumN6];omega
  have h2:six (bits8 a.toNat++bits8 b.toNat++[0,0]) 1=a.toNat % 4*16+b.toNat / 16:=by
   simp only[six,bits8,l04,l07,l0F,l1d,l0Y,l0l,l0Q,sumN6];omega
  have h3:six (bits8 a.toNat++bits8 b.toNat++[0,0]) 2=b.toNat % 16*4:=by
   simp only[six,bits8,l04,l07,l0F,l1d,l0Y,l0l,sumN6];omega
  simp only[sext,h1,h2,h3,alpha_one _ (show a.toNat / 4<64 by omega),alpha_one _ (show a.toNat % 4*16+b.toNat / 16<64 by omega),alpha_one _ (show b.toNat % 16*4<64 by omega)];rfl
 rw[chars_of (by rw[padBits_two];simp [bits8_len]) h];rfl
theorem chars_grps (l:Ls):chars64 l=(grps l).flatten:=by
 induction l using byThree with
 | h0=>rfl
 | h1 a=>rw[chars_one,grps_one];simp
 | h2 a b=>rw[chars_two,grps_two];simp
 | h3 a b c l ih=>rw[chars_three,grps_three,l0p,ih]
theorem flat_len (gs:List Ls)(h :∀g∈gs,g.length=4):gs.flatten.length=4*gs.length:=by
 induction gs with
 | nil=>rfl
 | cons g gs ih =>
   rw[l0p,l00,h g l0D,ih (fun x hx=>h x (l0t _ hx)),l02];omega
theorem wrapTo_app (cs t:Ls)(m:Nat)(h:76*m≤cs.length):wrapTo (cs++t) m=wrapTo cs m:=by
 induction m with
 | zero=>rfl
 | succ m ih =>
   rw[wrapTo,wrapTo,ih Om];congr 2;rw[l0V Om,l2b (by rw[l01];omega)]
theorem encRun_wrap (gs:List Ls)(h :∀g∈gs,g.length=4):∃k,k=(gs.flatten.length-1) / 76∧(encRun gs).1=wrapTo gs.flatten k++gs.flatten.drop (76*k)∧(encRun gs).2=gs.flatten.length-76*k:=by
 have key :∀(n:Nat) (gs:List Ls),gs.length=n→(∀g∈gs,g.length=4)→∃k,k=(gs.flatten.length-1) / 76∧(encRun gs).1=wrapTo gs.flatten k++gs.flatten.drop (76*k)∧(encRun gs).2=gs.flatten.length-76*k:=by
  intro n;induction n with
  | zero =>
    intro gs hn _;obtain rfl:=l0a hn;exact⟨0,G,G,G⟩
  | succ n ih =>
    intro gs hn hg;obtain⟨g0,g,rfl⟩ :∃g0 g,gs=g0++[g]:=⟨gs.dropLast,gs.getLast (by rintro rfl;cases hn),(l2f _).symm⟩
    have hl0:g0.length=n:=by simpa using hn
    have hg0 :∀x∈g0,x.length=4:=fun x hx=>hg x (l1v _ hx)
    have hg4:g.length=4:=hg g (l1F _ (List.mem_singleton.2 rfl));obtain⟨k,hk,h1,h2⟩:=ih g0 hl0 hg0;have hfl:=flat_len g0 hg0;have hflat:(g0++[g]).flatten=g0.flatten++g:=by simp
    rw[hflat,encRun_next,encStep,h1,h2,l00,hg4];generalize g0.flatten=cs at *;by_cases hf:cs.length-76*k=76
    · rw[if_pos hf];refine⟨k+1,by omega,?_,by simp only[];omega⟩;have e0:cs.length=76*(k+1):=by omega
      have e1:(cs++g).drop (76*(k+1))=g:=by rw[←e0];exact l1K
      have e2:((cs++g).drop (76*k)).take 76=cs.drop (76*k):=by
       have e3:(cs.drop (76*k)).length=76:=by rw[l01];omega
       rw[l0V Om];exact l1Q e3
      rw[wrapTo,wrapTo_app _ _ _ Om,e1,e2]
    rw[if_neg hf];refine⟨k,by omega,?_,by simp only[];omega⟩;simp only[];rw[wrapTo_app _ _ _ Om,l0V Om,l0c]
 exact key _ gs G h
theorem encode_lines (l:Ls):encode l=lines64 (chars64 l):=by
 obtain⟨k,hk,h1,h2⟩:=encRun_wrap (grps l) (grps_all l);rw[chars_grps];unfold encode lines64;rw[h1,h2,←hk];generalize (grps l).flatten=cs at *;by_cases hc:cs.drop (76*k)=[]
 · have:cs.length≤76*k:=List.drop_eq_nil_iff.1 hc;rw[if_neg Om,if_pos hc,hc]
 have:76*k<cs.length:=by
  rcases l0S (76*k) cs.length with h|h
  · exact h
  exact absurd (l08 h) hc
 rw[if_pos Om,if_neg hc,l0c]
theorem encode_len (l:Ls):(encode l).length≤4*((l.length+2) / 3)+2*(4*((l.length+2) / 3) / 76)+2:=by
 obtain⟨k,hk,h1,h2⟩:=encRun_wrap (grps l) (grps_all l);have hfl:=flat_len (grps l) (grps_all l);rw[grps_len] at hfl;have hw :∀(cs:Ls) (m:Nat),76*m≤cs.length→(wrapTo cs m).length=78*m:=by
  intro cs m;induction m with
  | zero=>intro _;rfl
  | succ m ih=>intro h;simp only[wrapTo,l00,l05,l01,l02,l03,ih Om];omega
 have h3:(encRun (grps l)).1.length=78*k+((grps l).flatten.length-76*k):=by
  rw[h1,l00,hw _ _ Om,l01]
 unfold encode;split
 · rw[l00,h3];simp only[l02,l03];omega
 rw[h3];omega
theorem chars_len (l:Ls):(chars64 l).length=4*((l.length+2) / 3):=by
 rw[chars_grps,flat_len _ (grps_all l),grps_len]
def low (n y:Nat):List Nat:=(List.range n).map fun i=>y / 2 ^ (n-1-i) % 2
theorem low_len (n y:Nat):(low n y).length=n:=by simp [low]
theorem lrun_bits (m:Ls):vbits m=bitsOf (lrun m).1++low (lrun m).2.2 (lrun m).2.1:=by
 have key :∀(m:Ls) (s:Ls × Nat × Nat) (pre:List Nat),((s.2.2≤6∧s.2.2 % 2=0)∧s.2.1<2 ^ s.2.2)→pre=bitsOf s.1++low s.2.2 s.2.1→pre++vbits m=bitsOf (m.foldl lstep s).1++low (m.foldl lstep s).2.2 (m.foldl lstep s).2.1:=by
  intro m;induction m with
  | nil=>intro s pre _ h;simpa [vbits] using h
  | cons c m ih =>
    intro s pre hi h;have hn:=lstep_inv s c hi.1 hi.2;have:pre++vb c=bitsOf (lstep s c).1++low (lstep s c).2.2 (lstep s c).2.1:=by
     unfold vb lstep;by_cases hv:val64 c<0
     · rw[if_pos hv,if_pos hv];simpa using h
     rw[if_neg hv,if_neg hv];obtain⟨e1,e2⟩:=val64_idx (c:=c) Om;rw[e1,l0u,h];obtain⟨o,x,b⟩:=s;simp only[] at hi ⊢;obtain hb|hb|hb|hb:b=0∨b=2∨b=4∨b=6:=by omega
     · subst hb;simp only[Nat.pow_zero] at hi;have hx:x=0:=by omega
       subst hx;simp [low,l2i,bits6]
     all_goals
      subst hb;simp only[show ¬(2+6<8) by omega,show ¬(4+6<8) by omega,show ¬(6+6<8) by omega,if_false];have hx:=hi.2;simp only[Nat.reducePow] at hx;unfold bitsOf;rw[l0M,l0c,l0c];congr 1;simp only[l0o,l1n,l0g,bits8,low,bits6,l2i,List.range_zero,l07,l04,l0f,l0O,UInt8.toNat_ofNat',Nat.reduceAdd,Nat.reduceSub,Nat.reducePow];simp only[List.cons.injEq,and_true];omega
    have h2:=ih (lstep s c) (pre++vb c) hn this;rw[l0P,←h2];simp [vbits]
 have:=key m ([],0,0) [] Sm rfl;simpa [lrun] using this
theorem eight_add (x bits:List Nat)(q:Nat)(hx:x.length=8):eight (x++bits) (q+1)=eight bits q:=by
 unfold eight;congr 1;rw[l1c,l1c,show 8*(q+1)=x.length+8*q by omega,List.drop_length_add_append];congr 1;omega
theorem octs_cons (u:UInt8)(bits:List Nat)(q:Nat):octs (bits8 u.toNat++bits) (q+1)=u::octs bits q:=by
 induction q with
 | zero =>
   have:eight (bits8 u.toNat++bits) 0=u.toNat:=by
    unfold eight;rw[show (List.take (8*0+8) (bits8 u.toNat++bits)).drop (8*0)=bits8 u.toNat by simp [bits8]];exact sumN8 _ u.toNat_lt
   simp [octs,this]
 | succ q ih=>rw[octs,ih,eight_add _ _ _ (bits8_len _),octs,l04]
theorem octs_bits (o:Ls)(t:List Nat):octs (bitsOf o++t) o.length=o:=by
 induction o with
 | nil=>rfl
 | cons u o ih =>
   have:bitsOf (u::o)++t=bits8 u.toNat++(bitsOf o++t):=by simp [bitsOf]
   rw[this,l02,octs_cons,ih]
theorem lenient_loose (l:Ls):lenient l=loose64 l:=by
 unfold lenient loose64;have h:=lrun_bits (upto61 l);have hi:=lrun_inv (upto61 l);have hl:(vbits (upto61 l)).length / 8=(lrun (upto61 l)).1.length:=by
  rw[h,l00,bitsOf_len,low_len];omega
 rw[hl,h,octs_bits]
def vis (l:Ls):List Nat:=vbits (upto61 l)
theorem upto61_not {a:Ls}(b:Ls)(h:61∉a):upto61 (a++b)=a++upto61 b:=by
 induction a with
 | nil=>rfl
 | cons u a ih =>
   have hu:u≠61:=fun e=>h (by rw[e];exact l0D)
   unfold upto61 at *;rw[l04,l0w (by simpa using hu),ih (fun hm=>h (l0t _ hm)),l04]
theorem vbits_app (a b:Ls):vbits (a++b)=vbits a++vbits b:=by simp [vbits]
theorem vis_not (a b:Ls)(h:61∉a):vis (a++b)=vbits a++vis b:=by unfold vis;rw [upto61_not _ h,vbits_app]
theorem A_val (k:Nat)(h:k<64):val64 (A k)=(k:Int)∧A k≠61:=by
 have key :∀k,k<64→val64 (A k)=(k:Int)∧A k≠61:=by decide
 exact key k h
theorem vb_A (k:Nat)(h:k<64):vb (A k)=bits6 k:=by
 unfold vb;rw [(A_val k h).1,if_neg Om,l0u]
theorem vis_chars (l:Ls):∃z,vis (grps l).flatten=bitsOf l++z∧z.length<8:=by
 induction l using byThree with
 | h0=>exact⟨[],rfl,by simp⟩
 | h1 a =>
   have ha:=a.toNat_lt;refine⟨[0,0,0,0],?_,by simp⟩;rw[grps_one,grp1,l0p,List.flatten_nil,l0g];have h1:=A_val (a.toNat / 4) Om;have h2:=A_val (a.toNat % 4*16) Om;rw[show [A (a.toNat / 4),A (a.toNat % 4*16),61,61]=[A (a.toNat / 4),A (a.toNat % 4*16)]++[61,61] from rfl,vis_not _ _ (by simp only[l0U,l0L,or_false,not_or];exact ⟨Ne.symm h1.2,Ne.symm h2.2⟩)];simp only[vbits,l0o,l1n,l0g,vb_A _ (show a.toNat / 4<64 by omega),vb_A _ (show a.toNat % 4*16<64 by omega),bitsOf,bits6,bits8,l04,l07,vis,upto61,List.takeWhile_cons];simp;omega
 | h2 a b =>
   have ha:=a.toNat_lt;have hb:=b.toNat_lt;refine⟨[0,0],?_,by simp⟩;rw[grps_two,grp2,l0p,List.flatten_nil,l0g];have h1:=A_val (a.toNat / 4) Om;have h2:=A_val (a.toNat % 4*16+b.toNat / 16) Om;have h3:=A_val (b.toNat % 16*4) Om;rw[show [A (a.toNat / 4),A (a.toNat % 4*16+b.toNat / 16),A (b.toNat % 16*4),61]=[A (a.toNat / 4),A (a.toNat % 4*16+b.toNat / 16),A (b.toNat % 16*4)]++[61] from rfl,vis_not _ _ (by simp only[l0U,l0L,or_false,not_or];exact ⟨Ne.symm h1.2,Ne.symm h2.2,Ne.symm h3.2⟩)];simp only[vbits,l0o,l1n,l0g,vb_A _ (show a.toNat / 4<64 by omega),vb_A _ (show a.toNat % 4*16+b.toNat / 16<64 by omega),vb_A _ (show b.toNat % 16*4<64 by omega),bitsOf,bits6,bits8,l04,l07,vis,upto61,List.takeWhile_cons];simp;omega
 | h3 a b c l ih =>
   have ha:=a.toNat_lt;have hb:=b.toNat_lt;have hc:=c.toNat_lt;obtain⟨z,hz,hl⟩:=ih;refine⟨z,?_,hl⟩;rw[grps_three,grp3,l0p];have h1:=A_val (a.toNat / 4) Om;have h2:=A_val (a.toNat % 4*16+b.toNat / 16) Om;have h3:=A_val (b.toNat % 16*4+c.toNat / 64) Om;have h4:=A_val (c.toNat % 64) Om;rw[vis_not _ _ (by simp only[l0U,l0L,or_false,not_or];exact ⟨Ne.symm h1.2,Ne.symm h2.2,Ne.symm h3.2,Ne.symm h4.2⟩),hz];have h5:bitsOf (a::b::c::l)=(bits8 a.toNat++bits8 b.toNat++bits8 c.toNat)++bitsOf l:=by simp [bitsOf]
   rw[h5,l0c _ (bitsOf l)];congr 1;simp only[vbits,l0o,l1n,l0g,vb_A _ (show a.toNat / 4<64 by omega),vb_A _ (show a.toNat % 4*16+b.toNat / 16<64 by omega),vb_A _ (show b.toNat % 16*4+c.toNat / 64<64 by omega),vb_A _ (show c.toNat % 64<64 by omega),bits6,bits8,l04,l07,List.cons.injEq,and_true];omega
theorem lenient_of_vis (m l:Ls)(h:vis m=vis (grps l).flatten):lenient m=l:=by
 obtain⟨z,hz,hl⟩:=vis_chars l;rw[lenient_loose];unfold loose64;rw[show vbits (upto61 m)=bitsOf l++z from h.trans hz,l00,bitsOf_len,show (8*l.length+z.length) / 8=l.length by omega,octs_bits]
end Go.Ph.B64
end
section
namespace Go.Ph.Wd
open Go.Ph.Pl Go.Ph.Pf
open Go.Ph.Gr (chars Ch pieces byts)
open Go.Ph.Chs (vld setN setOf encK encGo decoded utf8 bestK)
theorem foldI {α σ γ:Type}{L:Nat→σ→Int→Option γ}(l:List α)(F:σ→α→σ)(fin:σ→γ)(I:Nat→σ→Prop)
 (hend :∀m s,I l.length s→L (m+1) s (l.length:Int)=some (fin s))
 (hstep :∀m s i a,l[i]? = some a→I i s→I (i+1) (F s a)∧L (m+1) s (i:Int)=L m (F s a) ((i+1:Nat):Int)) :
 ∀(d i:Nat) (s:σ) (m:Nat),l.length-i=d→i≤l.length→d<m→I i s→L m s (i:Int)=some (fin ((l.drop i).foldl F s)):=by
 intro d;induction d with
 | zero =>
   intro i s m h1 h2 h3 hI;obtain⟨m,rfl⟩ :∃k,m=k+1:=⟨m-1,by omega⟩
   obtain rfl:i=l.length:=by omega
   rw[hend m s hI,l0J];rfl
 | succ d ih =>
   intro i s m h1 h2 h3 hI;obtain⟨m,rfl⟩ :∃k,m=k+1:=⟨m-1,by omega⟩
   have hi:i<l.length:=by omega
   obtain⟨hI',hL⟩:=hstep m s i l[i] (List.getElem?_eq_getElem hi) hI;rw[hL,ih (i+1) _ m Om Om Om hI',l09 hi];rfl
theorem foldI0 {α σ γ:Type}{L:Nat→σ→Int→Option γ}(l:List α)(F:σ→α→σ)(fin:σ→γ)(I:Nat→σ→Prop)(hl:l.length≤9223372036854775807)
 (hend :∀m s,I l.length s→L (m+1) s (l.length:Int)=some (fin s))
 (hstep :∀m s i a,l[i]? = some a→I i s→I (i+1) (F s a)∧L (m+1) s (i:Int)=L m (F s a) ((i+1:Nat):Int)) (s:σ) (h0:I 0 s):L FU s 0=some (fin (l.foldl F s)):=by
 have:=foldI l F fin I hend hstep l.length 0 s FU Om Om (FU_gt hl) h0;simpa using this
theorem foldl_app {α β:Type}(f:α→List β):∀(l:List α) (o:List β),l.foldl (fun o a=>o++f a) o=o++l.flatMap f
 | [],o=>by simp
 | a::l,o=>by rw[l0P,foldl_app f l];simp
def hexd : Ls:=[48,49,50,51,52,53,54,55,56,57,65,66,67,68,69,70]
def alnum (c:UInt8):Bool:=decide (97≤c.toNat∧c.toNat≤122) ||(decide (65≤c.toNat∧c.toNat≤90) || decide (48≤c.toNat∧c.toNat≤57))
def hx (n:Nat):UInt8:=hexd.getD n 0
theorem allB {p:UInt8→Prop}(h :∀n,n<256→p (UInt8.ofNat n))(c:UInt8):p c:=by
 have:=h c.toNat c.toNat_lt;rwa [UInt8.ofNat_toNat] at this
theorem letter_eq (c:UInt8):Y2b c=some (alnum c):=by
 refine allB (p:=fun c=>Y2b c=some (alnum c)) ?_ c;decide +kernel
theorem digit_hi (c:UInt8):Y2G (UInt8.ofNat (c.toNat / 2 ^ 4))=some (hx (c.toNat / 16)):=by
 refine allB (p:=fun c=>Y2G (UInt8.ofNat (c.toNat / 2 ^ 4))=some (hx (c.toNat / 16))) ?_ c;decide +kernel
theorem digit_lo (c:UInt8):Y2G c=some (hx (c.toNat % 16)):=by
 refine allB (p:=fun c=>Y2G c=some (hx (c.toNat % 16))) ?_ c;decide +kernel
def dq1 (c:UInt8):Ls:=if c=32 then [95] else if alnum c=true then [c] else [61,hx (c.toNat / 16),hx (c.toNat % 16)]
def dq (b:Ls):Ls:=b.flatMap dq1
theorem dq1_len (c : UInt8) : 1 ≤ (dq1 c).length ∧ (dq1 c).length ≤ 3 := by unfold dq1;split; · simp
                                                                            split <;> simp
theorem dq_len (b:Ls):(dq b).length≤3*b.length:=by
 unfold dq;induction b with
 | nil=>simp
 | cons c b ih=>have:=dq1_len c;simp only[l0o,l00,l02];omega
theorem data_eq (b:Ls)(hb:b.length≤1000000):Y3V b=some (dq b):=by
 unfold Y3V;rw[foldI0 (L:=fun m s i=>Y1t b m s i) b (fun o c=>o++dq1 c) id (fun i s=>s.length≤3*i) Om ?_ ?_ [] Sm,foldl_app,bsome]
 · rfl
 · intro m s hs;rw[Y1t,if_neg Om];rfl
 intro m s i a ha hs;have hi:=(List.getElem?_eq_some_iff.1 ha).1;have hl:=dq1_len a;refine⟨by rw[l00];omega,?_⟩;rw[Y1t,if_pos Om,idx_nat,ha,bsome];unfold dq1 Y0s Y2c;by_cases h1:a=32
 · rw[if_pos h1,if_pos h1,app_ok (by simp;omega),bsome];dsimp only;rw[bsome,chk_succ Om,bsome]
 rw[if_neg h1,if_neg h1,letter_eq,bsome];by_cases h2:alnum a=true
 · rw[if_pos h2,if_pos h2,app_ok (by simp;omega),bsome];dsimp only;rw[bsome,chk_succ Om,bsome]
 rw[if_neg h2,if_neg h2,digit_hi,bsome,digit_lo,bsome,app_ok (by simp;omega),bsome];dsimp only;rw[bsome,chk_succ Om,bsome]
inductive Good : Ls→Prop
 | nil:Good []
 | one {c:UInt8} {t:Ls} (h1:c≠13) (h2:c≠10) (h:Good t):Good (c::t)
 | crlf {t:Ls} (h:Good t):Good (13::10::t)
theorem Good.app {a b:Ls}(h:Good a)(k:Good b):Good (a++b):=by
 induction h with
 | nil=>exact k
 | one h1 h2 _ ih=>exact .one h1 h2 ih
 | crlf _ ih=>exact .crlf ih
def fre (l:Ls):Prop :=∀c∈l,c≠13∧c≠10
theorem Good.of {a:Ls}(h:fre a):Good a:=by
 induction a with
 | nil=>exact .nil
 | cons c a ih=>exact .one (h c Sm).1 (h c Sm).2 (ih fun x hx=>h x (by simp [hx]))
def keep (c:UInt8):Bool:=decide (c≠13∧c≠10)
theorem keep_fre {a:Ls}(h:fre a):a.filter keep=a:=by
 rw[List.filter_eq_self];intro c hc;exact decide_eq_true (h c hc)
theorem Good.index {s:Ls}(h:Good s):(Lib.index s [13,10] = -1∧fre s)∨∃i:Nat,Lib.index s [13,10]=(i:Int)∧fre (s.take i)∧Good (s.drop (i+2))∧i+2≤s.length∧s.filter keep=s.take i++(s.drop (i+2)).filter keep:=by
 induction h with
 | nil=>exact .inl ⟨rfl,fun c hc=>by cases hc⟩
 | @one c t h1 h2 h ih =>
   have hp:([13,10]:Ls).isPrefixOf (c::t)=false:=by simp [List.isPrefixOf,Ne.symm h1]
   have hk:keep c=true:=decide_eq_true ⟨h1,h2⟩;rcases ih with ⟨e1,e2⟩|⟨i,e1,e2,e3,e4,e5⟩
   · refine .inl ⟨by rw[Lib.index,hp,e1];rfl,fun x hx=>?_⟩;rcases List.mem_cons.1 hx with rfl|hx
     · exact⟨h1,h2⟩
     exact e2 x hx
   refine .inr ⟨i+1,?_,fun x hx=>?_,?_,by rw[l02];omega,?_⟩
   · rw[Lib.index,hp,e1];have:((i:Int) == -1)=false:=by simp
     rw[this];simp
   · rw[l0F] at hx;rcases List.mem_cons.1 hx with rfl|hx
     · exact⟨h1,h2⟩
     exact e2 x hx
   · rw[show i+1+2=(i+2)+1 by omega,l0Y];exact e3
   rw[List.filter_cons_of_pos hk,e5,l0F,show i+1+2=(i+2)+1 by omega,l0Y];rfl
 | @crlf t h ih =>
   refine .inr ⟨0,by rw[Lib.index];simp [List.isPrefixOf],fun x hx=>(by cases hx),h,by simp,?_⟩;rw[l1d,l0Y,l0Y,l0l,l2q Dc,l2q Dc];rfl
theorem replK :∀(n:Nat) (s:Ls),s.length≤n→Good s→Lib.replaceK [13,10] [] (Lib.count s [13,10]) s=s.filter keep
 | n,s,hn,h=>by
   rcases h.index with ⟨e1,e2⟩|⟨i,e1,e2,e3,e4,e5⟩
   · rw[Lib.count_miss e1,keep_fre e2];rfl
   obtain⟨n,rfl⟩ :∃k,n=k+1:=⟨n-1,by omega⟩
   rw[Lib.count_hit Sm e1,l2k,Lib.replaceK_hit _ _ _ _ _ e1,e5,l0g];show _++Lib.replaceK [13,10] [] (Lib.count (s.drop (i+2)) [13,10]) (s.drop (i+2))=_
   rw[replK n (s.drop (i+2)) (by rw[l01];omega) e3]
theorem repl_good {s:Ls}(h:Good s):Lib.replaceAll s [13,10] []=s.filter keep:=by
 unfold Lib.replaceAll Lib.replace Lib.replaceNum;rw[if_neg Dc,if_pos (.inl Dc)];exact replK _ _ (l0e _) h
theorem alpha_fre :∀c∈(61::B64.alpha),c≠13∧c≠10:=by decide
theorem alpha_at (k:Nat):B64.alpha.getD k 0∈(61::B64.alpha)∨B64.alpha.getD k 0=0:=by
 by_cases h:k<B64.alpha.length
 · rw[B64.getD_in _ _ _ h];exact .inl (l0t _ (l0E h))
 rw[B64.getD_out _ _ _ Om];exact .inr rfl
theorem outp_fre (l:Ls):fre (B64.outp l 4):=fun c hc=>by
 rw[B64.outp_eq] at hc;have hch :∀i,B64.ch l i≠13∧B64.ch l i≠10:=fun i=>by
  unfold B64.ch;split
  · decide
  rcases alpha_at (B64.accN l 3 / 2 ^ (18-6*i) % 64) with h|h
  · exact alpha_fre _ h
  rw[h];decide
 simp only[l0U,l0L,or_false] at hc;rcases hc with rfl|rfl|rfl|rfl <;> exact hch _
theorem chars64_fre (l:Ls):fre (B64.chars64 l):=fun c hc=>by
 rw[B64.chars_grps] at hc;obtain⟨g,hg,hc⟩:=List.mem_flatten.1 hc;unfold B64.grps B64.grpsTo at hg;obtain⟨k,_,rfl⟩:=List.mem_map.1 hg;exact outp_fre _ c hc
theorem fre_sub {a b:Ls}(h:fre b)(hs :∀c∈a,c∈b):fre a:=fun c hc=>h c (hs c hc)
theorem wrapTo_good {cs:Ls}(h:fre cs):∀m,Good (B64.wrapTo cs m)∧(B64.wrapTo cs m).filter keep=cs.take (76*m)
 | 0=>⟨.nil,rfl⟩
 | m+1=>by
   obtain⟨h1,h2⟩:=wrapTo_good h m;have hf:fre ((cs.drop (76*m)).take 76):=fre_sub h fun c hc=>l2A (l1H hc)
   rw[B64.wrapTo];refine⟨(h1.app (.of hf)).app (.crlf .nil),?_⟩;rw[l2o,l2o,h2,keep_fre hf,show ([13,10]:Ls).filter keep=[] by decide,l0g];rw[show 76*(m+1)=76*m+76 by omega,List.take_add]
theorem lines_good {cs:Ls}(h:fre cs):Good (B64.lines64 cs)∧(B64.lines64 cs).filter keep=cs:=by
 obtain⟨h1,h2⟩:=wrapTo_good h ((cs.length-1) / 76);have hf:fre (cs.drop (76*((cs.length-1) / 76))):=fre_sub h fun c hc=>l2A hc
 unfold B64.lines64;split
 · rename_i hd;refine⟨h1.app .nil,?_⟩;rw[l0g,h2];have:=l0A (76*((cs.length-1) / 76)) cs;rw[hd,l0g] at this;exact this
 refine⟨h1.app ((Good.of hf).app (.crlf .nil)),?_⟩;rw[l2o,l2o,h2,keep_fre hf,show ([13,10]:Ls).filter keep=[] by decide,l0g,l0A]
theorem flat_eq (b:Ls)(hb:b.length≤12000):Y3z b=some (B64.chars64 b):=by
 unfold Y3z Y3w Y1b;have hl:=B64.encode_len b;rw[if_pos hb,bsome];dsimp only;rw[if_pos ⟨by omega,by decide,by simp;omega⟩,bsome,B64.encode_lines];obtain⟨h1,h2⟩:=lines_good (chars64_fre b);rw[repl_good h1,h2]
abbrev nam (k:Nat):Ls:=setN.getD k []
theorem setOf_nam :∀k,k<4→setOf (nam k)=some k:=by decide
theorem nam_len :∀k,k<4→(nam k).length≤7:=by decide
theorem nam_utf8 :∀k,k<4→(nam k=[117,116,102,56]↔k=2):=by decide
def enc (k:Nat)(l:Ls):Ls:=(chars l).flatMap fun c=>(encK k c.1).getD []
structure okE (k:Nat)(l:Ls):Prop where
 v:vld l=true
 e :∀c∈chars l,∃b,encK k c.1=some b
theorem enc_go {k:Nat}{l:Ls}(h:okE k l):encGo (encK k) (chars l) 0 = .ok (enc k l):=by
 obtain⟨b,hb⟩:=Chs.encGo_all (chars l) 0 h.e;rw[hb];obtain⟨bs,h1,h2⟩:=Chs.encGo_ok _ _ _ hb;have:enc k l=(bs.map some).flatMap (fun o=>o.getD []):=by
  rw[←h1];unfold enc;rw [List.flatMap_map]
 rw[this,h2,List.flatMap_map];simp
theorem chars_len (l:Ls):(chars l).length≤l.length:=by
 have h:=Gr.flat_le ((chars l).map (·.2)) (fun p hp=>by
  obtain⟨c,hc,rfl⟩:=List.mem_map.1 hp;exact Gr.chars_ne l c hc)
 rw[Gr.chars_flat,l0d] at h;exact h
theorem flatMap_len {α β:Type}(f:α→List β)(n:Nat):∀(l:List α),(∀a∈l,(f a).length≤n)→(l.flatMap f).length≤n*l.length
 | [],_=>by simp
 | a::l,h=>by
   have h1:=h a Sm;have h2:=flatMap_len f n l (fun x hx=>h x (by simp [hx]));simp only[l0o,l00,l02,Nat.mul_succ];omega
theorem enc_len (k:Nat)(l:Ls):(enc k l).length≤4*l.length:=by
 have h:=flatMap_len (fun c:Ch=>(encK k c.1).getD []) 4 (chars l) (fun c _=>by
  cases he:encK k c.1 with
  | none=>simp
  | some b=>exact Chs.encK_len he)
 have h2:=chars_len l;unfold enc;omega
def wrap (k:Nat)(b:Ls):Ls:=[61,63]++nam k++(if k=2 then [63,66,63]++B64.chars64 b else [63,81,63]++dq b)++[63,61]
def W (k:Nat)(l:Ls):Ls:=wrap k (enc k l)
theorem Y5l {k:Nat}{l:Ls}(hk:k<4)(hl:l.length≤12000)(h:okE k l):Y2T (nam k) l=some (enc k l,(0,0)):=by
 unfold Y2T;have hn:=nam_len k hk;rw[if_pos ⟨by omega,hl⟩,setOf_nam k hk];dsimp only;rw[if_pos h.v,enc_go h]
theorem word_eq {k:Nat}{l:Ls}(hk:k<3)(hl:l.length≤3000)(h:okE k l):Y2L (nam k) l=some (W k l):=by
 have hn:=nam_len k Om;have he:=enc_len k l;have hd:=dq_len (enc k l);have hc:=B64.chars_len (enc k l);have hu:=nam_utf8 k Om;unfold Y2L W wrap;rw[Y5l Om Om h,bsome];dsimp only;by_cases h2:k=2
 · rw[if_pos (hu.2 h2),if_pos h2,cat_ok (by simp only[l02,l03];omega),bsome,cat_ok (by simp only[l00,l02,l03];omega),bsome,flat_eq _ Om,bsome,
    cat_ok (by simp only[l00,l02,l03];omega),bsome,cat_ok (by simp only[l00,l02,l03];omega),bsome]
   simp only[l0c]
 rw[if_neg (fun e=>h2 (hu.1 e)),if_neg h2,cat_ok (by simp only[l02,l03];omega),bsome,cat_ok (by simp only[l00,l02,l03];omega),bsome,data_eq _ Om,bsome,
  cat_ok (by simp only[l00,l02,l03];omega),bsome,cat_ok (by simp only[l00,l02,l03];omega),bsome]
 simp only[l0c]
theorem rin_eq (a b c:Int):R_In a b c=some (decide (b≤a∧a≤c)):=by
 unfold R_In;by_cases h:b≤a
 · rw[if_pos h,bsome];simp [h]
 rw[if_neg h,bsome];simp [h]
end Go.Ph.Wd
end
section
namespace Go.Ph.Wd
open Go.Ph.Pl Go.Ph.Pf
open Go.Ph.Gr (chars Ch pieces byts segs)
open Go.Ph.Chs (vld setN setOf encK encGo decoded utf8 bestK)
open Go.Ph.Utf (rune dr)
theorem chars_mid {l:Ls}{A g B:List Ch}(h:chars l=A++g++B):chars (byts g)=g:=by
 obtain⟨h1,_⟩:=Gr.chars_split (A++g) B l h;exact(Gr.chars_split A g _ h1).2
theorem okE.mid {k:Nat}{l:Ls}(h:okE k l){A g B:List Ch}(hs:chars l=A++g++B):okE k (byts g):=by
 have hc:=chars_mid hs;have hm :∀c∈g,c∈chars l:=fun c hc=>by rw[hs];simp [hc]
 refine⟨?_,fun c hcg=>h.e c (hm c (by rwa [hc] at hcg))⟩;have hv:=h.v;unfold vld at hv ⊢;rw[hc];rw[List.all_eq_true] at hv ⊢;exact fun c hcg=>hv c (hm c hcg)
theorem byts_app (a b:List Ch):byts (a++b)=byts a++byts b:=by simp [byts]
theorem byts_len {l:Ls}{A g B:List Ch}(h:chars l=A++g++B):(byts g).length≤l.length:=by
 have:=Gr.chars_flat l;rw[h] at this;simp only[l1j,l2C] at this;rw[←this];simp only[l00,byts];omega
def usC (k:Nat)(g:List Ch):List (List Ch):=if (W k (byts g)).length≤75 then [g] else g.map fun c=>[c]
def unitsC (k:Nat)(l:Ls):List (List Ch):=(segs (chars l)).flatMap (usC k)
theorem singles_flat (g:List Ch):(g.map fun c=>[c]).flatten=g:=by
 induction g with
 | nil=>rfl
 | cons c g ih=>rw[l0f,l0p,ih];rfl
theorem usC_flat (k:Nat)(g:List Ch):(usC k g).flatten=g:=by
 unfold usC;split
 · simp
 exact singles_flat g
theorem unitsC_flat (k:Nat)(l:Ls):(unitsC k l).flatten=chars l:=by
 unfold unitsC
 conv=>rhs;rw [←Gr.segs_flat (chars l)]
 induction segs (chars l) with
 | nil=>rfl
 | cons g gs ih=>rw[l0o,l2C,ih,usC_flat];rfl
theorem unitsC_ne (k:Nat)(l:Ls):∀u∈unitsC k l,u≠ []:=fun u hu=>by
 obtain⟨g,hg,hu⟩:=List.mem_flatMap.1 hu;unfold usC at hu;split at hu
 · simp only[l0U,l0L,or_false] at hu;subst hu;exact Gr.segs_ne _ _ hg
 obtain⟨c,_,rfl⟩:=List.mem_map.1 hu;simp
def runX {σ α:Type}(Y:σ→α→Option (σ × Bool)):List α→σ→Option (σ ⊕ σ)
 | [],s=>some (.inl s)
 | x::xs,s=>(Y s x).bind fun r=>if r.2=true then runX Y xs r.1 else some (.inr r.1)
theorem runX_app {σ α:Type}(Y:σ→α→Option (σ × Bool))(ys:List α):∀(xs:List α) (s:σ),runX Y (xs++ys) s=(runX Y xs s).bind fun o=>match o with | .inl s'=>runX Y ys s' | .inr r=>some (.inr r)
 | [],s=>by rw[l07,runX,bsome]
 | x :: xs,s=>by
   rw[l04,runX,runX];cases h:Y s x with
   | none=>rfl
   | some r =>
     rw[bsome,bsome];by_cases hr:r.2=true
     · rw[if_pos hr,if_pos hr,runX_app Y ys xs]
     rw[if_neg hr,if_neg hr,bsome]
theorem runX_runL {σ α:Type}(Y:σ→α→Option (σ × Bool)):∀(xs:List α) (s:σ),((runX Y xs s).bind fun o=>match o with | .inl s5=>some s5 | .inr r35=>some r35)=runL Y xs s
 | [],s=>by rw[runX,bsome];rfl
 | x :: xs,s=>by
   rw[runX,runL];cases h:Y s x with
   | none=>rfl
   | some r =>
     rw[bsome,bsome];by_cases hr:r.2=true
     · rw[if_pos hr,if_pos hr,runX_runL Y xs]
     rw[if_neg hr,if_neg hr,bsome]
theorem units_L2 {σ:Type}(Y:σ→Ls→Option (σ × Bool))(a:Ls)(ha:a.length≤1000000):∀(d p m:Nat) (s:σ),a.length-p≤d→d<m→p≤a.length→vld (a.drop p)=true→
 Y1j Y a m p s=runX Y ((chars (a.drop p)).map (·.2)) s:=by
 intro d;induction d with
 | zero =>
   intro p m s h1 h2 h3 hv;obtain⟨m,rfl⟩ :∃k,m=k+1:=⟨m-1,by omega⟩
   rw[Y1j,if_neg Om,l08 Om];rfl
 | succ d ih =>
   intro p m s h1 h2 h3 hv;obtain⟨m,rfl⟩ :∃k,m=k+1:=⟨m-1,by omega⟩
   rw[Y1j];by_cases hp:p<a.length
   · have hne:=Gr.drop_ne (t:=a) (n:=p) hp;rw[Chs.vld_cons hne] at hv;simp only[l0j,decide_eq_true_eq] at hv;have hrs:=Utf.rune_size (a.drop p);have h5:=hrs.2.2 hne;rw[l01] at h5;have hd:dr (a.drop p)=((rune (a.drop p)).1.toNat,(rune (a.drop p)).2):=by rw[Utf.rune_dr,if_neg Om]
     have hy:utf8 ((dr (a.drop p)).1:Int)=(a.drop p).take (rune (a.drop p)).2:=by
      rw[hd,←Chs.Y4v _ hne hv.1];show utf8 (((rune (a.drop p)).1.toNat:Nat):Int)=_
      rw[l0x hv.1]
     rw[if_pos hp,Gr.chars_cons hne,l0f,runX,hy];cases hY:Y s ((a.drop p).take (rune (a.drop p)).2) with
     | none=>rfl
     | some r =>
       obtain⟨s2,b⟩:=r;rw[bsome,bsome];dsimp only;by_cases hb:b=true
       · rw[if_pos hb,if_pos hb,hd];have:=ih (p+(rune (a.drop p)).2) m s2 Om Om Om (by rw[←l0n];exact hv.2);rw[←l0n] at this;exact this
       rw[if_neg hb,if_neg hb]
   rw[if_neg hp,l08 Om];rfl
theorem seg_mid {cs g:List Ch}{gs:List (List Ch)}(h:gs.flatten=cs)(hg:g∈gs):∃A B,cs=A++g++B:=by
 obtain⟨a,b,rfl⟩:=l2K hg;exact⟨a.flatten,b.flatten,by rw[←h];simp⟩
theorem singles_byts (g:List Ch):(g.map fun c=>[c]).map byts=g.map (·.2):=by
 rw[l1z];apply l1y;intro c _;simp [byts]
theorem units_L1 {σ:Type}(Y:σ→Ls→Option (σ × Bool)){k:Nat}(hk:k<3)(l:Ls)(hl:l.length≤3000)(hok:okE k l):∀(d i m:Nat) (s:σ),(segs (chars l)).length-i≤d→d<m→i≤(segs (chars l)).length→
 Y0O Y (nam k) (pieces l) m (i:Int) s=runX Y ((((segs (chars l)).drop i).flatMap (usC k)).map byts) s:=by
 have hpl:=Gr.pieces_len l;have hsl:(pieces l).length=(segs (chars l)).length:=by unfold pieces;rw [l0d]
 intro d;induction d with
 | zero =>
   intro i m s h1 h2 h3;obtain⟨m,rfl⟩ :∃k,m=k+1:=⟨m-1,by omega⟩
   rw[Y0O,if_neg Om,l08 Om];rfl
 | succ d ih =>
   intro i m s h1 h2 h3;obtain⟨m,rfl⟩ :∃k,m=k+1:=⟨m-1,by omega⟩
   rw[Y0O];by_cases hi:i<(segs (chars l)).length
   · have hp:(pieces l)[i]? = some (byts (segs (chars l))[i]):=by unfold pieces;rw [List.getElem?_map,List.getElem?_eq_getElem hi];rfl
     obtain⟨A,B,hAB⟩:=seg_mid (Gr.segs_flat (chars l)) (l0E hi);have hg:=hok.mid hAB;have hgl:=byts_len hAB;have hgc:=chars_mid hAB;rw[if_pos Om,idx_nat,hp,bsome,word_eq hk Om hg,bsome,l09 hi,l0o,l1j,runX_app];unfold usC;by_cases hw:(W k (byts (segs (chars l))[i])).length≤75
     · rw[if_pos Om,if_pos hw,l0f,l0O,runX];cases hY:Y s (byts (segs (chars l))[i]) with
       | none=>rfl
       | some r =>
         obtain⟨s2,b⟩:=r;rw[bsome,bsome];dsimp only;by_cases hb:b=true
         · rw[if_pos hb,if_pos hb,runX,bsome,chk_succ Om,bsome];exact ih (i+1) m s2 Om Om Om
         rw[if_neg hb,if_neg hb,bsome]
     have h2:=units_L2 Y (byts (segs (chars l))[i]) Om (byts (segs (chars l))[i]).length 0 FU s Om (by rw[FU_eq];omega) Om (by rw[l0l];exact hg.v);rw[l0l,hgc] at h2;rw[if_neg Om,if_neg hw,singles_byts,h2];refine congrArg (Option.bind _) (funext fun o=>?_);cases o with
     | inl s2 =>
       dsimp only;rw[chk_succ Om,bsome];exact ih (i+1) m s2 Om Om Om
     | inr r=>rfl
   rw[if_neg Om,l08 Om];rfl
theorem units_eq {σ:Type}(Y:σ→Ls→Option (σ × Bool))(s:σ){k:Nat}(hk:k<3){l:Ls}(hl:l.length≤3000)(hok:okE k l):Y2M l (nam k) σ Y s=runL Y ((unitsC k l).map byts) s:=by
 unfold Y2M grapheme_Split;have hpl:=Gr.pieces_len l;have hsl:(pieces l).length=(segs (chars l)).length:=by unfold pieces;rw [l0d]
 rw[if_pos Om,bsome];have:=units_L1 Y hk l hl hok _ 0 FU s (l0e _) (by rw[FU_eq];omega) Om;rw[l0l] at this;show((Y0O Y (nam k) (pieces l) FU ((0:Nat):Int) s).bind fun o36=>_)=_
 rw[this];exact runX_runL Y _ s
end Go.Ph.Wd
end
section
namespace Go.Ph.Wd
open Go.Ph.Pl Go.Ph.Pf
open Go.Ph.Gr (chars Ch pieces byts segs)
open Go.Ph.Chs (vld setN setOf encK encGo decoded utf8 bestK)
open Go.Ph.Utf (rune dr)
def p2 (k:Nat)(now:List Ch):List (List Ch)→List (List Ch)
 | []=>[now]
 | u::us=>if (W k (byts (now++u))).length≤75 then p2 k (now++u) us else now::p2 k u us
def parts (k:Nat):List (List Ch)→List (List Ch)
 | []=>[]
 | u::us=>p2 k u us
theorem p2_flat (k:Nat):∀(us:List (List Ch)) (now:List Ch),(p2 k now us).flatten=now++us.flatten
 | [],now=>by simp [p2]
 | u::us,now=>by
   rw[p2];split
   · rw[p2_flat k us];simp
   rw[l0p,p2_flat k us];simp
theorem p2_len (k:Nat):∀(us:List (List Ch)) (now:List Ch),(p2 k now us).length≤us.length+1
 | [],now=>by simp [p2]
 | u::us,now=>by
   rw[p2];split
   · have:=p2_len k us (now++u);simp;omega
   have:=p2_len k us u;simp;omega
def gr (k:Nat)(s:List (List Ch) × List Ch)(u:List Ch):List (List Ch) × List Ch:=if s.2≠ []∧75<(W k (byts (s.2++u))).length then(s.1++[s.2],u) else(s.1,s.2++u)
theorem gr_p2 (k:Nat):∀(us:List (List Ch)) (out:List (List Ch)) (now:List Ch),now≠ []→(∀u∈us,u≠ [])→(us.foldl (gr k) (out,now)).1++[(us.foldl (gr k) (out,now)).2]=out++p2 k now us
 | [],out,now,h0,h=>by simp [p2]
 | u :: us,out,now,h0,h=>by
   rw[l0P,p2];by_cases hw:(W k (byts (now++u))).length≤75
   · rw[if_pos hw,show gr k (out,now) u=(out,now++u) by unfold gr;dsimp only;rw [if_neg (fun e=>by have:=e.2;omega)]];exact gr_p2 k us out (now++u) (by simp [h0]) (fun x hx=>h x (by simp [hx]))
   rw[if_neg hw,show gr k (out,now) u=(out++[now],u) by unfold gr;dsimp only;rw [if_pos ⟨h0,by omega⟩]];rw[gr_p2 k us (out++[now]) u (h u Sm) (fun x hx=>h x (by simp [hx]))];simp
theorem gr_parts (k:Nat)(us:List (List Ch))(hne:us≠ [])(h :∀u∈us,u≠ []):(us.foldl (gr k) ([],[])).1++[(us.foldl (gr k) ([],[])).2]=parts k us:=by
 cases us with
 | nil=>exact absurd rfl hne
 | cons u us =>
   rw[l0P,show gr k ([],[]) u=([],u) by unfold gr;simp,gr_p2 k us [] u (h u Sm) (fun x hx=>h x (by simp [hx]))];rfl
theorem byts_nil {g:List Ch}{l:Ls}(hs :∀c∈g,c∈chars l):byts g=[]↔g=[]:=by
 constructor
 · intro h;cases g with
   | nil=>rfl
   | cons c g =>
     have:=Gr.chars_ne l c (hs c Sm);simp [byts] at h;exact absurd h.1 this
 rintro rfl;rfl
theorem wrap_len (k:Nat)(hk:k<4)(b:Ls):(wrap k b).length≤20+4*(b.length+2):=by
 have hn:=nam_len k hk;have hd:=dq_len b;have hc:=B64.chars_len b;unfold wrap;simp only[l00,l02,l03];split
 · simp only[l00,l02,l03];omega
 simp only[l00,l02,l03];omega
theorem W_len (k:Nat)(hk:k<4)(l:Ls):(W k l).length≤28+16*l.length:=by
 have:=wrap_len k hk (enc k l);have:=enc_len k l;unfold W;omega
theorem mid_mem {l:Ls}{A g B:List Ch}(h:chars l=A++g++B):∀c∈g,c∈chars l:=fun c hc=>by rw[h];simp [hc]
theorem encY {k:Nat}(hk:k<3){l:Ls}(hl:l.length≤1000)(hok:okE k l)(out:List (List Ch))(now u:List Ch){A B:List Ch}(hs:chars l=A++(now++u)++B)(hout:out.length≤2000):
 Y1K (nam k) (out.map fun g=>W k (byts g),byts now) (byts u)=some ((gr k (out,now) u).1.map (fun g=>W k (byts g)),byts (gr k (out,now) u).2):=by
 have h1:=hok.mid hs;have hl1:=byts_len hs;have h2:=hok.mid (A:=A) (g:=now) (B:=u++B) (by rw[hs];simp);have hl2:=byts_len (l:=l) (A:=A) (g:=now) (B:=u++B) (by rw[hs];simp);have hm:=mid_mem (l:=l) (A:=A) (g:=now) (B:=u++B) (by rw[hs];simp);have hn:=byts_nil hm;have hb:=byts_app now u;have hbl:(byts (now++u)).length=(byts now).length+(byts u).length:=by rw[hb,l00]
 unfold Y1K gr;dsimp only;by_cases h0:now=[]
 · subst h0;have hb0:byts ([]:List Ch)=[]:=rfl;rw[if_pos hb0,bsome,if_neg l06,if_neg (fun e=>e.1 rfl),hb0,cat_ok (by simp only[l03];omega),bsome];rfl
 rw[if_neg (fun e=>h0 (hn.1 e)),cat_ok Om,bsome,←hb,word_eq hk Om h1,bsome,bsome];by_cases hw:75<(W k (byts (now++u))).length
 · rw[if_pos (decide_eq_true Om),word_eq hk Om h2,bsome,app_ok (by rw[l0d];simp only[l02,l03];omega),bsome,cat_ok (by simp only[l03];omega),bsome,if_pos ⟨h0,hw⟩];simp
 rw[if_neg (by rw[decide_eq_true_eq];omega),if_neg (fun e=>hw e.2),bsome]
theorem gr_len (k:Nat)(s:List (List Ch) × List Ch)(u:List Ch):(gr k s u).1.length≤s.1.length+1:=by unfold gr;split <;> simp
theorem gr_flat (k:Nat)(s:List (List Ch) × List Ch)(u:List Ch):(gr k s u).1.flatten++(gr k s u).2=s.1.flatten++s.2++u:=by unfold gr;split <;> simp
theorem encFold {k:Nat}(hk:k<3){l:Ls}(hl:l.length≤1000)(hok:okE k l):∀(us:List (List Ch)) (s:List (List Ch) × List Ch) (n:Nat),chars l=(s.1.flatten++s.2)++us.flatten→s.1.length+us.length≤2000→
 (us.map byts).foldlM (Y1K (nam k)) (s.1.map fun g=>W k (byts g),byts s.2)=some ((us.foldl (gr k) s).1.map (fun g=>W k (byts g)),byts (us.foldl (gr k) s).2)
 | [],s,n,hs,hlen=>rfl
 | u::us,s,n,hs,hlen=>by
   rw[l0f,List.foldlM_cons,l0P];show Option.bind _ _=_
   rw[encY hk hl hok s.1 s.2 u (A:=s.1.flatten) (B:=us.flatten) (by rw[hs];simp) Om,bsome];exact encFold hk hl hok us (gr k s u) n (by rw[hs,gr_flat];simp) (by have:=gr_len k s u;simp only[l02] at hlen;omega)
theorem unitsC_len (k:Nat)(l:Ls):(unitsC k l).length≤l.length:=by
 have h :∀us:List (List Ch),(∀u∈us,u≠ [])→us.length≤us.flatten.length:=by
  intro us;induction us with
  | nil=>simp
  | cons u us ih =>
    intro h;have h1:=ih (fun x hx=>h x (by simp [hx]));have h2:=List.length_pos_iff.2 (h u Sm);simp only[l0p,l00,l02];omega
 have h1:=h (unitsC k l) (unitsC_ne k l);rw[unitsC_flat] at h1;have:=chars_len l;omega
def rep (k:Nat)(l:Ls):Ls:=jn [32] ((parts k (unitsC k l)).map fun g=>W k (byts g))
theorem jn_len (sep:Ls)(n:Nat):∀(ws:List Ls),(∀w∈ws,w.length≤n)→(jn sep ws).length≤ws.length*(n+sep.length)
 | [],_=>by simp [jn]
 | [x],h=>by have:=h x Sm;simp [jn];omega
 | x::y::r,h=>by
   have h1:=h x Sm;have h2:=jn_len sep n (y::r) (fun w hw=>h w (by simp [hw]));simp only[jn,l00,l02] at h2 ⊢;rw[l2y];omega
theorem parts_flat (k:Nat)(us:List (List Ch)):(parts k us).flatten=us.flatten:=by
 cases us with
 | nil=>rfl
 | cons u us=>rw[parts,p2_flat];rfl
theorem parts_len (k:Nat)(us:List (List Ch)):(parts k us).length≤us.length:=by
 cases us with
 | nil=>simp [parts]
 | cons u us=>rw[parts];have:=p2_len k us u;simp;omega
theorem part_mid (k:Nat)(l:Ls){g:List Ch}(hg:g∈parts k (unitsC k l)):∃A B,chars l=A++g++B:=seg_mid (by rw[parts_flat,unitsC_flat]) hg
theorem parts_bound {k:Nat}(hk:k<4){l:Ls}:∀w∈(parts k (unitsC k l)).map (fun g=>W k (byts g)),w.length≤28+16*l.length:=fun w hw=>by
 obtain⟨g,hg,rfl⟩:=List.mem_map.1 hw;obtain⟨A,B,h⟩:=part_mid k l hg;have:=byts_len h;have:=W_len k hk (byts g);omega
theorem rep_len {k:Nat}(hk:k<4){l:Ls}(hl:l.length≤1000):(rep k l).length≤20000000:=by
 have h1:=jn_len [32] _ _ (parts_bound hk (l:=l));have h2:=parts_len k (unitsC k l);have h3:=unitsC_len k l;rw[l0d] at h1;have h4:(parts k (unitsC k l)).length*(28+16*l.length+1)≤1000*(28+16*1000+1):=Nat.mul_le_mul Om Om;unfold rep;simp only[l02,l03,l0s] at h1;omega
theorem encTail {k:Nat}(hk:k<3){l:Ls}(hl:l.length≤1000)(h0:l≠ [])(hok:okE k l):
 ((Y3D (nam k) l).bind fun(z19,z21)=>(Y2M z19 z21 (List Ls × Ls) (stepY goOn (Y1K (nam k))) ([],[])).bind fun(l25,s27)=>(Y2L (nam k) s27).bind fun s49=>(app 16 l25 ([s49]:List Ls)).bind fun l51=>(Y0c l51 [32]).bind fun s53=>(Y0T).bind fun(n55,n56)=>some (s53,(n55,n56)))
  = some (rep k l,(0,0)):=by
 unfold Y3D;rw[bsome];dsimp only;have hne:unitsC k l≠ []:=fun e=>by
  have:=unitsC_flat k l;rw[e] at this;rw[Gr.chars_cons h0] at this;cases this
 have hul:=unitsC_len k l;rw[units_eq _ _ hk Om hok,runL_goOn];have hf:=encFold hk hl hok (unitsC k l) ([],[]) 0 (by rw[unitsC_flat];rfl) (by simp;omega);have hp:=gr_parts k (unitsC k l) hne (unitsC_ne k l);have hb:byts ([]:List Ch)=[]:=rfl;rw[hb] at hf;simp only[l0O] at hf;rw[hf,bsome];dsimp only;obtain⟨A,B,hAB⟩:=part_mid k l (g:=((unitsC k l).foldl (gr k) ([],[])).2) (by rw[←hp];simp);have hbl:=byts_len hAB;have hpl:=parts_len k (unitsC k l);have hpl2:=congrArg List.length hp;simp only[l00,l02,l03] at hpl2;have hrl:=rep_len (k:=k) Om hl;rw[word_eq hk Om (hok.mid hAB),bsome,app_ok (by rw[l0d];simp only[l02,l03];omega),bsome];have hj:(((unitsC k l).foldl (gr k) ([],[])).1.map (fun g=>W k (byts g)))++[W k (byts ((unitsC k l).foldl (gr k) ([],[])).2)]=(parts k (unitsC k l)).map fun g=>W k (byts g):=by
  rw[←hp];simp
 rw[hj];unfold Y0c Y0T;unfold rep at hrl;rw[if_pos ⟨by rw[l0d];omega,by omega⟩,bsome,bsome];rfl
theorem Y4D :∀(n:Nat) (l:Ls),l.length≤n→vld l=true→∀c∈chars l,utf8 c.1=c.2
 | 0,l,hn,hv=>by
   obtain rfl:l=[]:=l0a Om;intro c hc;cases hc
 | n+1,l,hn,hv=>by
   by_cases hl:l=[]
   · subst hl;intro c hc;cases hc
   rw[Chs.vld_cons hl] at hv;simp only[l0j,decide_eq_true_eq] at hv;have hrs:=Utf.rune_size l;intro c hc;rw[Gr.chars_cons hl] at hc;rcases List.mem_cons.1 hc with rfl|hc
   · exact Chs.Y4v l hl hv.1
   exact Y4D n (l.drop (rune l).2) (by rw[l01];omega) hv.2 c hc
def ext (k:Nat)(now:List Ch):List (List Ch)→Nat × List Ch
 | []=>(0,now)
 | u::us=>if (W k (byts (now++u))).length≤75 then((ext k (now++u) us).1+1,(ext k (now++u) us).2) else(0,now)
theorem W_ne (k:Nat)(l:Ls):W k l≠ []:=by unfold W wrap;simp
def more (ws:List Ls):Ls:=ws.flatMap fun w=>32::w
theorem jn_more :∀(w:Ls) (ws:List Ls),jn [32] (w::ws)=w++more ws
 | w,[]=>by simp [jn,more]
 | w,x::ws=>by rw[jn,jn_more x ws];simp [more]
end Go.Ph.Wd
end
section
namespace Go.Ph.Wd
open Go.Ph.Pl Go.Ph.Pf
open Go.Ph.Gr (chars Ch pieces byts segs)
open Go.Ph.Chs (vld setN setOf encK encGo decoded utf8 bestK)
open Go.Ph.Utf (rune dr)
theorem prefix_eq (s p:Ls)(hs:s.length≤9223372036854775807):Y0S s p=some (decide (p <+: s)):=by
 unfold Y0S Y17;by_cases h:p.length≤s.length
 · rw[if_pos Om,cut_to rfl h,bsome,bsome,bsome];congr 1;rw[decide_eq_decide,List.prefix_iff_eq_take];exact⟨fun e=>e.symm,fun e=>e.symm⟩
 rw[if_neg Om,bsome,bsome,decide_eq_false (fun e=>h e.length_le)]
theorem suffix_eq (s p:Ls)(hs:s.length≤9223372036854775807):Y18 s p=some (decide (p <:+ s)):=by
 unfold Y18 Y0i;by_cases h:p.length≤s.length
 · rw[if_pos Om,chk_ok Om Om,bsome,show (s.length:Int)-(p.length:Int)=((s.length-p.length:Nat):Int) by omega,cut_from rfl Om,bsome,bsome,bsome];congr 1;rw[decide_eq_decide,List.suffix_iff_eq_drop];exact⟨fun e=>e.symm,fun e=>e.symm⟩
 rw[if_neg Om,bsome,bsome,decide_eq_false (fun e=>h e.length_le)]
def fnd (s sub:Ls)(i:Nat):Int:=if Lib.index (s.drop i) sub = -1 then -1 else(i:Int)+Lib.index (s.drop i) sub
theorem fnd_here {s sub:Ls}{i:Nat}(hi:i<s.length)(h:sub <+: s.drop i):fnd s sub i=(i:Int):=by
 unfold fnd;rw[l09 hi] at h ⊢;have:Lib.index (s[i]::s.drop (i+1)) sub=0:=by rw[Lib.index,if_pos (List.isPrefixOf_iff_prefix.2 h)]
 rw[this];simp
theorem fnd_next {s sub:Ls}{i:Nat}(hi:i<s.length)(h :¬sub <+: s.drop i):fnd s sub i=fnd s sub (i+1):=by
 unfold fnd;have hd:=l09 hi;rw[hd] at h ⊢;have hn :¬sub.isPrefixOf (s[i]::s.drop (i+1))=true:=fun e=>h (List.isPrefixOf_iff_prefix.1 e)
 have h1:=Lib.index_ge (s.drop (i+1)) sub;rw[Lib.index,if_neg hn];by_cases h2:Lib.index (s.drop (i+1)) sub = -1
 · rw[h2];simp
 have h3 :¬(Lib.index (s.drop (i+1)) sub == -1)=true:=by simpa using h2
 rw[if_neg h3,if_neg h2,if_neg Om];omega
def okc (c:UInt8):Bool:=decide (32≤c.toNat∧c.toNat≤126)
def pln (s:Ls):Bool:=s.all okc&&(!decide ([32] <+: s)&&(!decide ([32] <:+ s) && !Lib.contains s [61,63]))
theorem all_any (s:Ls):s.all okc = !s.any fun c => !okc c:=by
 induction s with
 | nil=>rfl
 | cons c s ih=>rw[l0H,l17,ih];cases okc c <;> simp
theorem okc_prog (c:UInt8):(if c.toNat<32 then some true else some (decide (126<c.toNat)))=some (!okc c):=by
 unfold okc;by_cases h:c.toNat<32
 · rw[if_pos h,decide_eq_false Om];rfl
 rw[if_neg h];by_cases h2:126<c.toNat
 · rw[decide_eq_true h2,decide_eq_false Om];rfl
 rw[decide_eq_false h2,decide_eq_true Om];rfl
theorem plain_eq (s:Ls)(hs:s.length≤1000000):Y3C s=some (pln s):=by
 unfold Y3C Y1J pln;rw[all_any,scan0 (L:=fun m i=>Y1X s m i) (l:=s) (p:=fun c => !okc c) (stop := .inl ()) (r := .inr false) (by rw[FU_eq];omega) (fun m=>by rw[Y1X,if_neg Om]) (fun m i h=>by
  rw[Y1X,if_pos Om,idx_nat,List.getElem?_eq_getElem h,bsome,bsome,okc_prog,bsome];by_cases hc:(!okc s[i])=true
  · rw[if_pos hc,if_pos hc]
  rw[if_neg hc,if_neg hc,chk_succ Om,bsome]),bsome]
 by_cases ha:(s.any fun c => !okc c)=true
 · rw[if_pos ha,ha];rfl
 have ha':=(l1C _).mp ha;rw[if_neg ha,ha'];dsimp only;rw[prefix_eq s [32] Om,bsome];by_cases h1:[32] <+: s
 · rw[decide_eq_true h1,if_pos rfl,bsome];rfl
 rw[decide_eq_false h1,if_neg l06,suffix_eq s [32] Om,bsome];by_cases h2:[32] <:+ s
 · rw[decide_eq_true h2,if_pos rfl,bsome];rfl
 rw[decide_eq_false h2,if_neg l06,if_pos Om,bsome,bsome];rfl
theorem pre1 (s:Ls)(c:UInt8):[c] <+: s↔s.head? = some c:=by
 cases s with
 | nil=>simp
 | cons a s=>simp [List.cons_prefix_cons,eq_comm]
theorem contains_fnd (s sub:Ls):Lib.contains s sub = !decide (fnd s sub 0<0):=by
 unfold Lib.contains fnd;have h1:=Lib.index_ge s sub;rw[l0l];by_cases h:Lib.index s sub = -1
 · rw[if_pos h,h];rfl
 rw[if_neg h,decide_eq_true Om,decide_eq_false Om];rfl
theorem bestK_le (l:Ls):bestK l≤2:=by
 unfold bestK;split
 · omega
 split <;> omega
theorem best_ok {l:Ls}(hv:vld l=true):okE (bestK l) l:=by
 refine⟨hv,fun c hc=>?_⟩;have h0:0≤c.1:=by
  unfold vld at hv;exact of_decide_eq_true (List.all_eq_true.1 hv c hc)
 have hf:Chs.fix0 c.1=c.1:=by unfold Chs.fix0;rw [if_neg Om]
 unfold bestK encK;by_cases h1:(chars l).any (fun c=>decide (255<Chs.fix0 c.1))=true
 · rw[if_pos h1];exact ⟨_,rfl⟩
 rw[if_neg h1];have h1':c.1≤255:=by
  have:=mt (List.any_eq_true.2) h1;have h2 :¬255<Chs.fix0 c.1:=fun e=>this ⟨c,hc,decide_eq_true e⟩
  omega
 by_cases h2:(chars l).any (fun c=>decide (127<Chs.fix0 c.1))=true
 · rw[if_pos h2];refine⟨[ub c.1],?_⟩;show Chs.encS 256 c.1=_
   unfold Chs.encS;rw [if_pos Om]
 rw[if_neg h2];have h3:c.1≤127:=by
  have:=mt (List.any_eq_true.2) h2;have h4 :¬127<Chs.fix0 c.1:=fun e=>this ⟨c,hc,decide_eq_true e⟩
  omega
 refine⟨[ub c.1],?_⟩;show Chs.encS 128 c.1=_
 unfold Chs.encS;rw [if_pos Om]
theorem encode_mal {s:Ls}(h:s.length≤1000)(hv:vld s=false):Y0y s=some ([],(5,-2)):=by
 unfold Y0y Y0a Y1i;rw[if_neg Om,if_pos Om,bsome,hv,if_neg l06,bsome]
theorem encode_own {s:Ls}(h:s.length≤1000)(hv:vld s=true)(hp:pln s=true):Y0y s=some (s,(0,0)):=by
 unfold Y0y Y0T Y1i;rw[if_neg Om,if_pos Om,bsome,hv,if_pos rfl,plain_eq _ Om,bsome,hp,if_pos rfl,bsome]
theorem encode_rep {s:Ls}(h:s.length≤1000)(hv:vld s=true)(hp:pln s=false):Y0y s=some (rep (bestK s) s,(0,0)):=by
 have hb:=bestK_le s;have h0:s≠ []:=by rintro rfl;revert hp;decide
 have ht:=encTail (k:=bestK s) Om h h0 (best_ok hv);unfold Y0y Y1i Y3K;rw[if_neg Om,if_pos Om,bsome,hv,if_pos rfl,plain_eq _ Om,bsome,hp,if_neg l06,bsome];exact ht
theorem dq1_ok (c:UInt8):∀x∈dq1 c,33≤x.toNat∧x.toNat≤126∧x≠63:=by
 refine allB (p:=fun c =>∀x∈dq1 c,33≤x.toNat∧x.toNat≤126∧x≠63) ?_ c;decide +kernel
theorem alpha_ok :∀c∈(61::B64.alpha),33≤c.toNat∧c.toNat≤126∧c≠63:=by decide
theorem chars64_ok (l:Ls):∀x∈B64.chars64 l,33≤x.toNat∧x.toNat≤126∧x≠63:=fun c hc=>by
 rw[B64.chars_grps] at hc;obtain⟨g,hg,hc⟩:=List.mem_flatten.1 hc;unfold B64.grps B64.grpsTo at hg;obtain⟨q,_,rfl⟩:=List.mem_map.1 hg;have hch :∀(m:Ls) i,33≤(B64.ch m i).toNat∧(B64.ch m i).toNat≤126∧B64.ch m i≠63:=fun m i=>by
  unfold B64.ch;split
  · decide
  have hlt:B64.accN m 3 / 2 ^ (18-6*i) % 64<B64.alpha.length:=l1Z _ Dc;rw[B64.getD_in _ _ _ hlt];exact alpha_ok _ (l0t _ (l0E hlt))
 unfold B64.grpAt at hc;rw[B64.outp_eq] at hc;simp only[l0U,l0L,or_false] at hc;rcases hc with rfl|rfl|rfl|rfl <;> exact hch _ _
theorem nam_ok :∀k,k<4→∀x∈nam k,33≤x.toNat∧x.toNat≤126∧x≠63:=by decide
theorem wrap_ok {k:Nat}(hk:k<4)(b:Ls):∀x∈wrap k b,33≤x.toNat∧x.toNat≤126:=fun x hx=>by
 unfold wrap at hx;have hd :∀y∈dq b,33≤y.toNat∧y.toNat≤126∧y≠63:=fun y hy=>by
  obtain⟨c,_,hc⟩:=List.mem_flatMap.1 hy;exact dq1_ok c y hc
 have h1 :∀y∈([61,63]:Ls),33≤y.toNat∧y.toNat≤126:=by decide
 have h2 :∀y∈([63,66,63]:Ls),33≤y.toNat∧y.toNat≤126:=by decide
 have h3 :∀y∈([63,81,63]:Ls),33≤y.toNat∧y.toNat≤126:=by decide
 have h4 :∀y∈([63,61]:Ls),33≤y.toNat∧y.toNat≤126:=by decide
 rcases List.mem_append.1 hx with hx|hx
 · rcases List.mem_append.1 hx with hx|hx
   · rcases List.mem_append.1 hx with hx|hx
     · exact h1 x hx
     have:=nam_ok k hk x hx;exact ⟨this.1,this.2.1⟩
   split at hx
   · rcases List.mem_append.1 hx with hx|hx
     · exact h2 x hx
     have:=chars64_ok b x hx;exact ⟨this.1,this.2.1⟩
   rcases List.mem_append.1 hx with hx|hx
   · exact h3 x hx
   have:=hd x hx;exact ⟨this.1,this.2.1⟩
 exact h4 x hx
theorem unit_75 {k:Nat}(hk:k<4){l:Ls}:∀u∈unitsC k l,(W k (byts u)).length≤75:=fun u hu=>by
 obtain⟨g,hg,hu⟩:=List.mem_flatMap.1 hu;obtain⟨A,B,hAB⟩:=seg_mid (Gr.segs_flat (chars l)) hg;unfold usC at hu;split at hu
 · rename_i hw;simp only[l0U,l0L,or_false] at hu;rw[hu];exact hw
 obtain⟨c,hc,rfl⟩:=List.mem_map.1 hu;obtain⟨a,b,rfl⟩:=l2K hc;have h1:chars (byts [c])=[c]:=chars_mid (l:=l) (A:=A++a) (g:=[c]) (B:=b++B) (by rw[hAB];simp);have h2:(enc k (byts [c])).length≤4:=by
  unfold enc;rw[h1];simp only[l0o,l1n,l0g];cases he:encK k c.1 with
  | none=>simp
  | some b=>exact Chs.encK_len he
 have h3:=wrap_len k hk (enc k (byts [c]));unfold W;omega
theorem p2_75 (k:Nat):∀(us:List (List Ch)) (now:List Ch),(W k (byts now)).length≤75→(∀u∈us,(W k (byts u)).length≤75)→∀g∈p2 k now us,(W k (byts g)).length≤75
 | [],now,h,_=>by intro g hg;simp [p2] at hg;rw [hg];exact h
 | u::us,now,h,hu=>by
   rw[p2];split
   · rename_i hw;exact p2_75 k us (now++u) hw (fun x hx=>hu x (by simp [hx]))
   intro g hg;rcases List.mem_cons.1 hg with rfl|hg
   · exact h
   exact p2_75 k us u (hu u Sm) (fun x hx=>hu x (by simp [hx])) g hg
theorem part_75 {k:Nat}(hk:k<4){l:Ls}:∀g∈parts k (unitsC k l),(W k (byts g)).length≤75:=by
 have h:=unit_75 hk (l:=l);cases hus:unitsC k l with
 | nil=>intro g hg;cases hg
 | cons u us=>rw[hus] at h;exact p2_75 k us u (h u Sm) (fun x hx=>h x (by simp [hx]))
def run75 : Nat→Ls→Prop
 | _,[]=>True
 | n,c::t=>(if c=32 then 0 else n+1)≤75∧run75 (if c=32 then 0 else n+1) t
theorem print_L1 (s t:Ls)(ht:t.length≤1000000000)(hok :∀x∈t,okc x=true):∀(d i n m:Nat),t.length-i≤d→d<m→i≤t.length→n≤i→(t=s∨run75 n (t.drop i))→Y1q s t m (n:Int) (i:Int)=some (.inl ()):=by
 intro d;induction d with
 | zero =>
   intro i n m h1 h2 h3 h4 h5;obtain⟨m,rfl⟩ :∃k,m=k+1:=⟨m-1,by omega⟩
   rw[Y1q,if_neg Om]
 | succ d ih =>
   intro i n m h1 h2 h3 h4 h5;obtain⟨m,rfl⟩ :∃k,m=k+1:=⟨m-1,by omega⟩
   rw[Y1q];by_cases hi:i<t.length
   · have ho:=hok t[i] (l0E hi);unfold okc at ho;have ho:=of_decide_eq_true ho;rw[if_pos Om,idx_nat,List.getElem?_eq_getElem hi,bsome,rin_eq,bsome,if_pos (decide_eq_true Om),chk_succ Om,bsome,bsome];have hn:(if t[i]=32 then some (0:Int) else some ((n+1:Nat):Int))=some (((if t[i]=32 then 0 else n+1:Nat)):Int):=by split <;> rfl
     have hle:(if t[i]=32 then 0 else n+1:Nat)≤i+1:=by split <;> omega
     rw[hn,bsome];have h6:(if (75:Int)<(((if t[i]=32 then 0 else n+1:Nat)):Int) then some (!decide (t=s)) else some false)=some false:=by
      rcases h5 with rfl|h5
      · split <;> simp
      rw[l09 hi,run75] at h5;rw[if_neg Om]
     rw[h6,bsome,if_neg l06,chk_succ Om,bsome];refine ih (i+1) _ m Om Om Om hle ?_;rcases h5 with h5|h5
     · exact .inl h5
     rw[l09 hi,run75] at h5;exact .inr h5.2
   rw[if_neg Om]
end Go.Ph.Wd
end
section
namespace Go.Ph.Wd
open Go.Ph.Pl Go.Ph.Pf
open Go.Ph.Gr (chars Ch pieces byts segs)
open Go.Ph.Chs (vld setN setOf encK encGo decoded utf8 bestK lower lowB)
open Go.Ph.Utf (rune dr)
def q1 : Ls→Option (Ls × Ls)
 | []=>none
 | c::t=>if c=63 then some ([],t) else(q1 t).map fun p=>(c::p.1,p.2)
theorem q1_some :∀{x A r:Ls},q1 x=some (A,r)→x=A++63::r∧63∉A
 | [],A,r,h=>by cases h
 | c::t,A,r,h=>by
   rw[q1] at h;split at h
   · rename_i hc;cases h;exact ⟨by rw[hc];rfl,by simp⟩
   rename_i hc;obtain⟨⟨A',r'⟩,h1,h2⟩:=Option.map_eq_some_iff.1 h;cases h2;obtain⟨h3,h4⟩:=q1_some h1;exact⟨by rw[h3];rfl,by simp [Ne.symm hc,h4]⟩
theorem q1_of :∀{A r:Ls},63∉A→q1 (A++63::r)=some (A,r)
 | [],r,_=>by simp [q1]
 | c::A,r,h=>by
   simp only[l0U,not_or] at h;rw[l04,q1,if_neg (fun e=>h.1 e.symm),q1_of h.2];rfl
theorem q1_none :∀{x:Ls},q1 x=none↔63∉x
 | []=>by simp [q1]
 | c::t=>by
   rw[q1];split
   · rename_i hc;simp [hc]
   rename_i hc;rw [Option.map_eq_none_iff,q1_none];simp [Ne.symm hc]
theorem q1_take (x:Ls)(n:Nat):q1 (x.take n)=match q1 x with|some (A,r)=>if A.length<n then some (A,r.take (n-A.length-1)) else none|none=>none:=by
 cases hq:q1 x with
 | none =>
   have:=q1_none.1 hq;exact q1_none.2 (fun hm=>this (l1H hm))
 | some p =>
   obtain⟨A,r⟩:=p;obtain⟨h1,h2⟩:=q1_some hq;dsimp only;split
   · rename_i hn;rw[h1,l1L,l0q Om,show n-A.length=(n-A.length-1)+1 by omega,l0F];exact q1_of h2
   rename_i hn;refine q1_none.2 (fun hm=>h2 ?_);rw[h1,l1L,show n-A.length=0 by omega,l1d,l0g] at hm;exact l1H hm
theorem index_q1 :∀x:Ls,Lib.index x [63]=match q1 x with|some p=>(p.1.length:Int)|none => -1
 | []=>rfl
 | c :: t=>by
   rw[Lib.index,q1];by_cases hc:c=63
   · rw[if_pos (by simp [List.isPrefixOf,hc]),if_pos hc];rfl
   rw[if_neg (by simp [List.isPrefixOf,Ne.symm hc]),if_neg hc,index_q1 t];cases q1 t with
   | none=>rfl
   | some p =>
     have :¬(((p.1.length:Int) == -1)=true):=by simp
     rw[l0T];dsimp only;rw[if_neg this,l02];exact(Int.natCast_succ _).symm
theorem splitK_q1 (k:Nat)(x:Ls):Lib.splitK [63] 0 (k+1) x=match q1 x with|some p=>p.1::Lib.splitK [63] 0 k p.2|none=>[x]:=by
 rw[Lib.splitK,index_q1];cases hq:q1 x with
 | none=>rfl
 | some p =>
   obtain⟨A,r⟩:=p;obtain⟨h1,h2⟩:=q1_some hq;have :¬(((A.length:Int) == -1)=true):=by simp
   simp only[if_neg this,l0u,l1i,l02,l03,l0s];rw[h1,l1Q rfl,l1W,l08 Om,show A.length+1-A.length=1 by omega];rfl
def sp3 (x:Ls):Option (Ls × Ls × Ls × Ls) :=
 (q1 x).bind fun a=>(q1 a.2).bind fun b=>(q1 b.2).bind fun c=>some (a.1,b.1,c.1,c.2)
theorem splitK_len :∀(k:Nat) (x:Ls),(Lib.splitK [63] 0 k x).length≤k+1
 | 0,x=>by simp [Lib.splitK]
 | k+1,x=>by
   rw[splitK_q1];cases q1 x with
   | none=>simp
   | some p=>have:=splitK_len k p.2;simp;omega
theorem sp3_some {x A K D r:Ls}(h:sp3 x=some (A,K,D,r)):x=A++63::(K++63::(D++63::r))∧63∉A∧63∉K∧63∉D:=by
 unfold sp3 at h;obtain⟨⟨A',r1⟩,h1,h⟩:=bnd h;obtain⟨⟨K',r2⟩,h2,h⟩:=bnd h;obtain⟨⟨D',r3⟩,h3,h⟩:=bnd h;cases h;obtain⟨e1,n1⟩:=q1_some h1;obtain⟨e2,n2⟩:=q1_some h2;obtain⟨e3,n3⟩:=q1_some h3;dsimp only at e2 e3;exact⟨by rw[e1,e2,e3],n1,n2,n3⟩
theorem sp3_of {A K D r:Ls}(h1:63∉A)(h2:63∉K)(h3:63∉D):sp3 (A++63::(K++63::(D++63::r)))=some (A,K,D,r):=by
 unfold sp3;rw[q1_of h1,bsome,q1_of h2,bsome,q1_of h3,bsome]
theorem split4_some {x A K D r:Ls}(h:sp3 x=some (A,K,D,r)):Lib.splitN x [63] 4=[A,K,D,r]:=by
 have hx:=(sp3_some h).1;have hl:3≤x.length:=by rw[hx];simp;omega
 unfold sp3 at h;obtain⟨a,h1,h⟩:=bnd h;obtain⟨b,h2,h⟩:=bnd h;obtain⟨c,h3,h⟩:=bnd h;cases h;unfold Lib.splitN;rw[show min 4 (x.length+1)-1=3 by omega,splitK_q1,h1];dsimp only;rw[splitK_q1,h2];dsimp only;rw[splitK_q1,h3];rfl
theorem split4_none {x:Ls}(h:sp3 x=none):(Lib.splitN x [63] 4).length<4:=by
 unfold Lib.splitN;by_cases hl:3≤x.length
 · rw[show min 4 (x.length+1)-1=3 by omega,splitK_q1];unfold sp3 at h;cases h1:q1 x with
   | none=>simp
   | some a =>
     rw[h1,bsome] at h;dsimp only;rw[splitK_q1];cases h2:q1 a.2 with
     | none=>simp
     | some b =>
       rw[h2,bsome] at h;dsimp only;rw[splitK_q1];cases h3:q1 b.2 with
       | none=>simp
       | some c=>rw[h3,bsome] at h;cases h
 have:=splitK_len (min 4 (x.length+1)-1) x;omega
theorem sp3_take (x:Ls)(n:Nat):sp3 (x.take n)=match sp3 x with|some (A,K,D,r)=>if A.length+K.length+D.length+2<n then some (A,K,D,r.take (n-(A.length+K.length+D.length+3))) else none|none=>none:=by
 cases h:sp3 x with
 | none =>
   unfold sp3 at h ⊢;rw[q1_take];cases h1:q1 x with
   | none=>rfl
   | some a =>
     rw[h1,bsome] at h;dsimp only;split
     · rw[bsome,q1_take];dsimp only;cases h2:q1 a.2 with
       | none=>rfl
       | some b =>
         rw[h2,bsome] at h;dsimp only;split
         · rw[bsome,q1_take];dsimp only;cases h3:q1 b.2 with
           | none=>rfl
           | some c=>rw[h3,bsome] at h;cases h
         rfl
     rfl
 | some p =>
   obtain⟨A,K,D,r⟩:=p;unfold sp3 at h ⊢;obtain⟨⟨A',r1⟩,h1,h⟩:=bnd h;obtain⟨⟨K',r2⟩,h2,h⟩:=bnd h;obtain⟨⟨D',r3⟩,h3,h⟩:=bnd h;cases h;dsimp only at h2 h3 ⊢;rw[q1_take,h1];dsimp only;by_cases n1:A'.length<n
   · rw[if_pos n1,bsome,q1_take,h2];dsimp only;by_cases n2:K'.length<n-A'.length-1
     · rw[if_pos n2,bsome,q1_take,h3];dsimp only;by_cases n3:D'.length<n-A'.length-1-K'.length-1
       · rw[if_pos n3,bsome,if_pos (by show A'.length+K'.length+D'.length+2<n;omega)];rw[show n-A'.length-1-K'.length-1-D'.length-1=n-(A'.length+K'.length+D'.length+3) by omega]
       rw[if_neg n3,if_neg (by show ¬A'.length+K'.length+D'.length+2<n;omega)];rfl
     rw[if_neg n2,if_neg (by show ¬A'.length+K'.length+D'.length+2<n;omega)];rfl
   rw[if_neg n1,if_neg (by show ¬A'.length+K'.length+D'.length+2<n;omega)];rfl
def hexv (c:UInt8):Option Nat:=if 48≤c.toNat∧c.toNat≤57 then some (c.toNat-48) else if 65≤c.toNat∧c.toNat≤70 then some (c.toNat-55) else if 97≤c.toNat∧c.toNat≤102 then some (c.toNat-87) else none
theorem hexv_lt {c:UInt8}{x:Nat}(h:hexv c=some x):x<16:=by
 have :∀c:UInt8,∀x,hexv c=some x→x<16:=fun c=>by
  refine allB (p:=fun c =>∀x,hexv c=some x→x<16) ?_ c;intro n hn x hx;have h2 :∀n,n<256→(hexv (UInt8.ofNat n)).all (fun x=>decide (x<16))=true:=by decide +kernel
  have:=h2 n hn;rw[hx] at this;exact of_decide_eq_true this
 exact this c x h
theorem hex_eq (c:UInt8):Y3W c=some ((match hexv c with|some x=>UInt8.ofNat x|none=>0),(hexv c).isSome):=by
 refine allB (p:=fun c=>Y3W c=some ((match hexv c with|some x=>UInt8.ofNat x|none=>0),(hexv c).isSome)) ?_ c;decide +kernel
theorem two16 :∀x,x<16→∀y,y<16→(UInt8.ofNat ((UInt8.ofNat x).toNat*2 ^ 4)) ||| UInt8.ofNat y=UInt8.ofNat (16*x+y):=by decide +kernel
def hex2 (a b:UInt8):Option UInt8:=match hexv a,hexv b with|some x,some y=>some (UInt8.ofNat (16*x+y))|_,_=>none
theorem pair_short {s:Ls}(h:s.length<2):Y3g s=some (0,false):=by
 unfold Y3g;rw [if_pos Om]
theorem pair_eq (a b:UInt8)(t:Ls):∃c,Y3g (a::b::t)=some (c,(hex2 a b).isSome)∧∀z,hex2 a b=some z→c=z:=by
 unfold Y3g;rw[if_neg (by simp;omega),show (0:Int)=((0:Nat):Int) from rfl,idx_nat,show (1:Int)=((1:Nat):Int) from rfl,idx_nat];simp only[List.getElem?_cons_zero,List.getElem?_cons_succ,bsome,hex_eq];unfold hex2;cases ha:hexv a with
 | none=>exact⟨_,by rfl,fun z hz=>by cases hz⟩
 | some x =>
   cases hb:hexv b with
   | none=>exact⟨_,by rfl,fun z hz=>by cases hz⟩
   | some y=>exact⟨_,by rfl,fun z hz=>by cases hz;exact two16 x (hexv_lt ha) y (hexv_lt hb)⟩
def hexd2 : Ls→Option (UInt8 × Ls)
 | a::b::t=>(hex2 a b).map fun z=>(z,t)
 | _=>none
theorem hexd2_len {t:Ls}{p:UInt8 × Ls}(h:hexd2 t=some p):p.2=t.drop 2∧2≤t.length:=by
 rcases t with _|⟨a,_|⟨b,t⟩⟩
 · cases h
 · cases h
 obtain⟨z,_,rfl⟩:=Option.map_eq_some_iff.1 h;exact⟨G,by simp⟩
def uqF : Nat→Ls→Option Ls
 | 0,_=>none
 | n+1,[]=>some []
 | n+1,c::t=>if c=95 then(uqF n t).map (32 :: ·) else if c=61 then(hexd2 t).bind fun p=>(uqF n p.2).map (p.1 :: ·) else if 33≤c.toNat∧c.toNat≤126 then(uqF n t).map (c :: ·) else none
theorem uqF_more :∀(n m:Nat) (l:Ls),l.length<n→l.length<m→uqF n l=uqF m l
 | n+1,m+1,[],_,_=>rfl
 | n + 1,m+1,c::t,h1,h2=>by
   simp only[l02] at h1 h2;rw[uqF,uqF];have h0:=uqF_more n m t Om Om;rw[h0];cases hp:hexd2 t with
   | none=>rfl
   | some p =>
     obtain⟨h3,h4⟩:=hexd2_len hp;rw[bsome,bsome,uqF_more n m p.2 (by rw[h3,l01];omega) (by rw[h3,l01];omega)]
def uq (l:Ls):Option Ls:=uqF (l.length+1) l
theorem uq_nil : uq []=some []:=rfl
theorem uq_cons (c:UInt8)(t:Ls):uq (c::t)=if c=95 then(uq t).map (32 :: ·) else if c=61 then(hexd2 t).bind fun p=>(uq p.2).map (p.1 :: ·) else if 33≤c.toNat∧c.toNat≤126 then(uq t).map (c :: ·) else none:=by
 unfold uq;rw[l02,uqF];cases hp:hexd2 t with
 | none=>rfl
 | some p =>
   obtain⟨h3,h4⟩:=hexd2_len hp;rw[bsome,bsome,uqF_more (t.length+1) (p.2.length+1) p.2 (by rw[h3,l01];omega) Om]
theorem uq_L1 (D:Ls)(hD:D.length≤1000000):∀(d i m:Nat) (acc:Ls),D.length-i≤d→d<m→i≤D.length→acc.length≤i→
 Y0Z D m acc (i:Int)=some (match uq (D.drop i) with|some r => .inl (acc++r)|none => .inr ([],false)):=by
 intro d;induction d using Nat.strongRecOn with
 | ind d ih =>
   intro i m acc h1 h2 h3 h4;obtain⟨m,rfl⟩ :∃k,m=k+1:=⟨m-1,by omega⟩
   rw[Y0Z];by_cases hi:i<D.length
   · have hd:=l09 hi;rw[if_pos Om,idx_nat,List.getElem?_eq_getElem hi,bsome,hd,uq_cons];by_cases c1:D[i]=95
     · rw[if_pos c1,if_pos c1,app_ok (by simp;omega),bsome,chk_succ Om,bsome,ih (d-1) Om (i+1) m _ Om Om Om (by simp;omega)];cases uq (D.drop (i+1)) <;> simp
     rw[if_neg c1,if_neg c1,bsome];by_cases c2:D[i]=61
     · rw [if_pos c2,if_pos c2,chk_succ Om,bsome,cut_from rfl Om,bsome];by_cases hs:(D.drop (i+1)).length<2
       · rw[pair_short hs,bsome];dsimp only;rw[if_neg l06];have:hexd2 (D.drop (i+1))=none:=by
          cases hx:hexd2 (D.drop (i+1)) with
          | none=>rfl
          | some p=>have:=hexd2_len hx;omega
         rw[this];rfl
       rw[l01] at hs;have e1:=l09 (show i+1<D.length by omega);have e2:=l09 (show i+1+1<D.length by omega);rw[e1,e2];obtain⟨c,hc1,hc2⟩:=pair_eq D[i+1] D[i+1+1] (D.drop (i+1+1+1));rw[hc1,bsome];dsimp only[hexd2];cases hx:hex2 D[i+1] D[i+1+1] with
       | none=>rw[if_neg Sm];rfl
       | some z =>
         obtain rfl:=hc2 z hx;rw[if_pos Sm,app_ok (by simp;omega),bsome,show (i:Int)+2=((i+1+1:Nat):Int) by omega,chk_ok Om Om,bsome,chk_succ Om,bsome,ih (d-3) Om (i+1+1+1) m _ Om Om Om (by simp;omega)];rw[l0T,bsome];dsimp only;cases uq (D.drop (i+1+1+1)) <;> simp
     rw[if_neg c2,if_neg c2,bsome];by_cases c3:33≤D[i].toNat
     · rw[if_pos c3,bsome,bsome];by_cases c4:D[i].toNat≤126
       · rw[if_pos (decide_eq_true c4),if_pos ⟨c3,c4⟩,bsome,app_ok (by simp;omega),bsome,chk_succ Om,bsome,ih (d-1) Om (i+1) m _ Om Om Om (by simp;omega)];cases uq (D.drop (i+1)) <;> simp
       rw[if_neg (by rw[decide_eq_true_eq];exact c4),if_neg (fun e=>c4 e.2)]
     rw[if_neg c3,bsome,if_neg l06,if_neg (fun e=>c3 e.1)]
   rw[if_neg Om,l08 Om,uq_nil];simp
def bytesP (K D:Ls):Option Ls:=if lower K=[98] then(if B64.chars64 (B64.lenient D)=D then some (B64.lenient D) else none) else if lower K=[113] then uq D else none
theorem lower_one (K:Ls)(a b:UInt8)(h :∀c,lowB c=b↔c=a∨c=b):lower K=[b]↔K=[a]∨K=[b]:=by
 rcases K with _|⟨c,_|⟨d,K⟩⟩
 · simp [lower]
 · simp [lower,h c]
 simp [lower]
theorem lowB_b (c:UInt8):lowB c=98↔c=66∨c=98:=by
 refine allB (p:=fun c=>lowB c=98↔c=66∨c=98) ?_ c;decide +kernel
theorem lowB_q (c:UInt8):lowB c=113↔c=81∨c=113:=by
 refine allB (p:=fun c=>lowB c=113↔c=81∨c=113) ?_ c;decide +kernel
theorem kind_b (K:Ls):(if K=[66] then some (decide (K=[66])) else some (decide (K=[98])))=some (decide (lower K=[98])):=by
 have h:=lower_one K 66 98 lowB_b;by_cases h1:K=[66]
 · rw[if_pos h1,decide_eq_true h1,decide_eq_true (h.2 (.inl h1))]
 rw[if_neg h1];congr 1;rw [decide_eq_decide,h];simp [h1]
theorem kind_q (K:Ls):(if K=[81] then some (decide (K=[81])) else some (decide (K=[113])))=some (decide (lower K=[113])):=by
 have h:=lower_one K 81 113 lowB_q;by_cases h1:K=[81]
 · rw[if_pos h1,decide_eq_true h1,decide_eq_true (h.2 (.inl h1))]
 rw[if_neg h1];congr 1;rw [decide_eq_decide,h];simp [h1]
theorem lenient_len (D:Ls):(B64.lenient D).length≤D.length:=by
 unfold B64.lenient;refine l0N (B64.lrun_len _) ?_;unfold B64.upto61;exact(List.takeWhile_sublist _).length_le
theorem uqF_len :∀(n:Nat) (l r:Ls),uqF n l=some r→r.length≤l.length:=by
 intro n;induction n with
 | zero=>intro l r h;cases h
 | succ n ih =>
   intro l r h;cases l with
   | nil=>rw[uqF] at h;cases h;simp
   | cons c t =>
     rw[uqF] at h;split at h
     · obtain⟨y,hy,rfl⟩:=Option.map_eq_some_iff.1 h;have:=ih t y hy;simp;omega
     split at h
     · obtain⟨p,hp,h⟩:=bnd h;obtain⟨y,hy,rfl⟩:=Option.map_eq_some_iff.1 h;have:=ih p.2 y hy;obtain⟨h3,h4⟩:=hexd2_len hp;rw[h3,l01] at this;simp;omega
     split at h
     · obtain⟨y,hy,rfl⟩:=Option.map_eq_some_iff.1 h;have:=ih t y hy;simp;omega
     cases h
theorem Y5o (K D:Ls)(hD:D.length≤10000):∃b,Y3b K D=some (b,(bytesP K D).isSome)∧b.length≤D.length∧∀x,bytesP K D=some x→b=x:=by
 have hl:=lenient_len D;unfold Y3b bytesP;rw[kind_b,bsome];by_cases h1:lower K=[98]
 · rw[if_pos (decide_eq_true h1),if_pos h1,toB_ok Om,bsome];unfold Y3o;rw[if_pos Om,bsome];dsimp only;rw[flat_eq _ Om,bsome];refine⟨B64.lenient D,?_,hl,fun x hx=>?_⟩
   · by_cases h2:B64.chars64 (B64.lenient D)=D
     · rw[decide_eq_true h2,if_pos h2];rfl
     rw[decide_eq_false h2,if_neg h2];rfl
   split at hx
   · cases hx;rfl
   cases hx
 rw[if_neg (by rw[decide_eq_true_eq];exact h1),if_neg h1,kind_q,bsome];by_cases h2:lower K=[113]
 · rw[if_pos (decide_eq_true h2),if_pos h2];have:=uq_L1 D Om D.length 0 FU [] Om (by rw[FU_eq];omega) Om Sm;rw[show ((0:Nat):Int)=0 from rfl,l0l] at this;rw[this,bsome];cases hq:uq D with
   | none=>exact⟨[],rfl,by simp,fun x hx=>by cases hx⟩
   | some r=>exact⟨r,rfl,uqF_len _ _ _ hq,fun x hx=>by cases hx;rfl⟩
 rw[if_neg (by rw[decide_eq_true_eq];exact h2),if_neg h2];exact⟨[],G,by simp,fun x hx=>by cases hx⟩
def body (A K D:Ls):Option Ls:=(setOf A).bind fun k=>(bytesP K D).map (decoded k)
def pw (t:Ls):Option (Ls × Nat) :=
 if [61,63] <+: t then(sp3 (t.drop 2)).bind fun p=>if [61] <+: p.2.2.2∧p.1.length+p.2.1.length+p.2.2.1.length+6≤75 then(body p.1 p.2.1 p.2.2.1).map fun x=>(x,p.1.length+p.2.1.length+p.2.2.1.length+6) else none else none
theorem pre_take {c:UInt8}{r:Ls}{n:Nat}(hn:1≤n):[c] <+: r.take n↔ [c] <+: r:=by
 rw[pre1,pre1];cases r with
 | nil=>simp
 | cons a r=>obtain⟨n,rfl⟩ :∃k,n=k+1:=⟨n-1,by omega⟩;simp
theorem decode_prog (A b:Ls)(hA:A.length≤10000)(hb:b.length≤10000):∃x n m,Y2S A b=some (x,(n,m))∧(decide (n=(0:Int))=(setOf A).isSome)∧∀k,setOf A=some k→x=decoded k b:=by
 unfold Y2S;rw[if_pos ⟨by omega,by omega⟩];cases h:setOf A with
 | none=>exact⟨[],18,-2,rfl,rfl,fun k hk=>by cases hk⟩
 | some k=>exact⟨decoded k b,0,0,rfl,rfl,fun k' hk=>by cases hk;rfl⟩
theorem read_eq (t:Ls)(ht:t.length≤10000):∃x n,Y2N t=some (x,n,(pw t).isSome)∧∀p,pw t=some p→x=p.1∧n=(p.2:Int):=by
 unfold Y2N pw;rw[prefix_eq t [61,63] Om,bsome];by_cases hp:[61,63] <+: t
 · have hl2:2≤t.length:=hp.length_le;rw[if_pos (decide_eq_true hp),if_pos hp,cut_of (i:=2) (a:=2) (b:=min t.length 75) rfl Om Om Om,bsome];have hw:(t.take (min t.length 75)).drop 2=(t.drop 2).take 73:=by
    rw[l1c];by_cases h75:t.length≤75
    · rw[l0Z h75,l0q (by rw[l01];omega),l0q (by rw[l01];omega)]
    rw[Nat.min_eq_right Om]
   rw[hw];unfold Y2i;have hxl:((t.drop 2).take 73).length≤73:=List.length_take_le _ _;rw[if_pos ⟨by omega,by decide,by decide,by decide⟩,bsome,show (4:Int).toNat=4 from rfl];have hst:=sp3_take (t.drop 2) 73;cases hs:sp3 (t.drop 2) with
   | none =>
     rw[hs] at hst;have h4:=split4_none hst;rw[if_pos Om,bsome,if_pos rfl];exact⟨_,_,G,fun p hp=>by cases hp⟩
   | some p =>
     obtain⟨A,K,D,r⟩:=p;rw[hs] at hst;dsimp only at hst;have hxe:=(sp3_some hs).1;have hlen:=congrArg List.length hxe;simp only[l00,l02,l01] at hlen;rw[bsome];dsimp only;by_cases hn:A.length+K.length+D.length+2<73
     · rw [if_pos hn] at hst;have h4:=split4_some hst;rw[h4];simp only[l02,l03];rw[if_neg Om];have i0:idx [A,K,D,r.take (73-(A.length+K.length+D.length+3))] 0=some A:=rfl;have i1:idx [A,K,D,r.take (73-(A.length+K.length+D.length+3))] 1=some K:=rfl;have i2:idx [A,K,D,r.take (73-(A.length+K.length+D.length+3))] 2=some D:=rfl;have i3:idx [A,K,D,r.take (73-(A.length+K.length+D.length+3))] 3=some (r.take (73-(A.length+K.length+D.length+3))):=rfl;rw[i0,i1,i2,i3,bsome,prefix_eq _ _ (by rw[l05];omega),bsome,bsome];have hpt:([61] <+: r.take (73-(A.length+K.length+D.length+3)))↔([61] <+: r∧A.length+K.length+D.length+6≤75):=by
        by_cases h1:1≤73-(A.length+K.length+D.length+3)
        · rw[pre_take h1];exact⟨fun h=>⟨h,by omega⟩,fun h=>h.1⟩
        rw[show 73-(A.length+K.length+D.length+3)=0 by omega,l1d];exact⟨fun h=>by have:=h.length_le;simp at this,fun h=>by omega⟩
       by_cases hq:[61] <+: r∧A.length+K.length+D.length+6≤75
       · rw[decide_eq_true (hpt.2 hq),if_neg Dc,if_pos hq,bsome,bsome];obtain⟨b,hb1,hbl,hb2⟩:=Y5o K D Om;rw[hb1,bsome];dsimp only;rw[bsome];obtain⟨x,n,m,hx1,hx2,hx3⟩:=decode_prog A b Om Om;rw[hx1,bsome];dsimp only;rw[bsome,chk_ok Om Om,bsome,bsome,chk_ok Om Om,bsome,bsome,chk_ok Om Om,bsome,chk_ok Om Om,bsome];unfold Y1z body;cases hbp:bytesP K D with
         | none =>
           simp only[l1D,l0h,if_false,bsome];cases hA:setOf A with
           | none=>exact⟨_,_,rfl,fun p hp=>by cases hp⟩
           | some k=>exact⟨_,_,rfl,fun p hp=>by cases hp⟩
         | some y =>
           obtain rfl:=hb2 y hbp;simp only[l1P,if_true,bsome];cases hA:setOf A with
           | none =>
             rw[hA] at hx2;simp only[l1D] at hx2;rw[hx2];exact⟨_,_,G,fun p hp=>by cases hp⟩
           | some k =>
             rw[hA] at hx2;simp only[l1P] at hx2;rw[hx2,hx3 k hA];refine⟨_,_,G,fun p hp=>?_⟩;cases hp;exact⟨G,by dsimp only;omega⟩
       rw[decide_eq_false (fun e=>hq (hpt.1 e)),if_pos Dc,if_neg hq];exact⟨_,_,G,fun p hp=>by cases hp⟩
     rw[if_neg hn] at hst;have h4:=split4_none hst;rw[if_pos Om,bsome,if_pos rfl,if_neg (fun e=>by have:=e.2;omega)];exact⟨_,_,G,fun p hp=>by cases hp⟩
 rw[if_neg (by rw[decide_eq_true_eq];exact hp),if_neg hp];exact⟨_,_,G,fun p hp=>by cases hp⟩
end Go.Ph.Wd
end
section
namespace Go.Ph.Wd
open Go.Ph.Pl Go.Ph.Pf
open Go.Ph.Gr (chars Ch pieces byts segs)
open Go.Ph.Chs (vld setN setOf encK encGo decoded utf8 bestK lower lowB)
open Go.Ph.Utf (rune dr)
theorem bytesP_len {K D b:Ls}(hD:D.length≤10000)(h:bytesP K D=some b):b.length≤D.length:=by
 obtain⟨x,_,h2,h3⟩:=Y5o K D hD;rw[h3 b h] at h2;exact h2
theorem decW_len :∀(n:Nat) (l:Ls),l.length≤n→(Chs.decW l).length≤l.length:=by
 intro n;induction n with
 | zero=>intro l h;obtain rfl:=l0a (Nat.le_zero.1 h);simp [Chs.decW]
 | succ n ih =>
   intro l h
   match l,h with
   | [],_=>simp [Chs.decW]
   | [_],_=>simp [Chs.decW]
   | [a,b],_=>simp [Chs.decW]
   | [a,b,c],_=>simp [Chs.decW]
   | a::b::c::d::r,h =>
     simp only[l02] at h;rw[Chs.decW];split
     · have:=ih r Om;simp only[l02];omega
     have:=ih (c::d::r) (by simp only[l02];omega);simp only[l02] at this ⊢;omega
theorem decK_len (k:Nat)(l:Ls):(Chs.decK k l).length≤l.length:=by
 unfold Chs.decK;split
 · simp [Chs.decS]
 split
 · simp [Chs.decS]
 split
 · unfold Chs.decU;rw [l0d];exact chars_len l
 exact decW_len _ l (l0e _)
theorem decoded_len (k:Nat)(l:Ls):(decoded k l).length≤4*l.length:=by
 unfold decoded;have h1:=flatMap_len utf8 4 (Chs.decK k l) (fun a _=>(Chs.Y2E a).2);have h2:=decK_len k l;omega
theorem pw_size {t:Ls}(ht:t.length≤10000){p:Ls × Nat}(h:pw t=some p):6≤p.2∧p.2≤t.length∧p.1.length≤4*p.2:=by
 unfold pw at h;split at h
 case isFalse=>cases h
 obtain⟨⟨A,K,D,r⟩,h1,h⟩:=bnd h;dsimp only at h;split at h
 case isFalse=>cases h
 rename_i hq;obtain⟨x,hx,hp⟩:=Option.map_eq_some_iff.1 h;subst hp;have hl:=congrArg List.length (sp3_some h1).1;have hr:=hq.1.length_le;simp only[l01,l00,l02,l03] at hl hr;unfold body at hx;obtain⟨k,_,hx⟩:=bnd hx;obtain⟨b,hb,hx⟩:=Option.map_eq_some_iff.1 hx;have h2:=bytesP_len Om hb;have h3:=decoded_len k b;subst hx;dsimp only;exact⟨by omega,by omega,by omega⟩
def blk (c:UInt8):Bool:=decide (c=32∨c=9)
def after (u:Ls):Ls:=if (pw (u.dropWhile blk)).isSome then u.dropWhile blk else u
theorem after_len (u:Ls):(after u).length≤u.length:=by
 unfold after;split
 · exact(List.dropWhile_suffix _).length_le
 exact l0e _
def unF : Nat→Ls→Ls
 | 0,_=>[]
 | n + 1,t=>match t with
   | []=>[]
   | c::r=>match pw (c::r) with
     | none=>c::unF n r
     | some p=>p.1++unF n (after ((c::r).drop p.2))
theorem unF_more :∀(n m:Nat) (t:Ls),t.length≤10000→t.length<n→t.length<m→unF n t=unF m t:=by
 intro n;induction n with
 | zero=>intro m t _ h;omega
 | succ n ih =>
   intro m t ht h1 h2;obtain⟨m,rfl⟩ :∃k,m=k+1:=⟨m-1,by omega⟩
   cases t with
   | nil=>rfl
   | cons c r =>
     rw[unF,unF];simp only[l02] at ht h1 h2;cases hp:pw (c::r) with
     | none=>dsimp only;rw [ih m r Om Om Om]
     | some p =>
       dsimp only;have hz:=pw_size (by simp only[l02];omega) hp;have ha:=after_len ((c::r).drop p.2);simp only[l01,l02] at ha hz;rw[ih m _ Om Om Om]
def un (t:Ls):Ls:=unF (t.length+1) t
theorem un_nil : un []=[]:=rfl
theorem un_none {c:UInt8}{r:Ls}(h:pw (c::r)=none):un (c::r)=c::un r:=by
 unfold un;rw[unF,h];rfl
theorem un_some {t:Ls}{p:Ls × Nat}(ht:t.length≤10000)(h:pw t=some p):un t=p.1++un (after (t.drop p.2)):=by
 have hz:=pw_size ht h;cases t with
 | nil=>simp at hz;omega
 | cons c r =>
   have ha:=after_len ((c::r).drop p.2);simp only[l01,l02] at ha hz ht;unfold un;rw[unF,h];dsimp only;rw[unF_more _ ((after ((c::r).drop p.2)).length+1) _ Om (by simp only[l02];omega) Om]
theorem pw_front {c:UInt8}{r:Ls}(h:c≠61):pw (c::r)=none:=by
 unfold pw;rw[if_neg];intro e;obtain⟨t,ht⟩:=e;cases ht;exact h G
theorem blk_ne {c:UInt8}(h:blk c=true):c≠61:=by
 intro e;subst e;exact absurd h Dc
theorem un_blanks {v:Ls}:∀{b:Ls},(∀x∈b,blk x=true)→un (b++v)=b++un v
 | [],_=>rfl
 | c::b,h=>by
   rw[l04,un_none (pw_front (blk_ne (h c Sm))),un_blanks (fun x hx=>h x (by simp [hx])),l04]
theorem dropWhile_blanks {v:Ls}:∀{b:Ls},(∀x∈b,blk x=true)→(b++v).dropWhile blk=v.dropWhile blk
 | [],_=>rfl
 | c::b,h=>by
   rw[l04,l0C (h c Sm),dropWhile_blanks (fun x hx=>h x (by simp [hx]))]
theorem blank_eq (c:UInt8):Y13 c=some (blk c):=by
 unfold Y13 blk;by_cases h:c=32
 · rw[if_pos h,bsome,decide_eq_true (.inl h)]
 rw[if_neg h,bsome];simp [h]
def fin (s:Ls)(p:Ls × Int):Option Ls:=if (0:Int)≤p.2 then(cut s p.2 (s.length:Int)).bind fun s81=>(Y08 p.1 s81).bind fun(n82,b83,l84)=>some l84 else some p.1
theorem dec_end {s:Ls}{m i:Nat}{out:Ls}{g:Int}(hi :¬i<s.length):Y04 s (m+1) out g (i:Int)=some (out,g):=by
 rw[Y04,if_neg Om]
theorem dec_word {s:Ls}{m i:Nat}{out:Ls}{g:Int}{x:Ls}{k:Nat}(hi:i<s.length)(hs:s.length≤4000)(hk:k≤10000)(ho:out.length+x.length≤1000000)
 (hr:Y2N (s.drop i)=some (x,(k:Int),true)):Y04 s (m+1) out g (i:Int)=Y04 s m (out++x) ((i+k:Nat):Int) ((i+k:Nat):Int):=by
 rw[Y04,if_pos Om,cut_from rfl Om,bsome,hr,bsome];dsimp only;rw[if_pos rfl];unfold Y08;rw[app_ok Om,bsome,bsome];dsimp only;rw[show (i:Int)+(k:Int)=((i+k:Nat):Int) by omega,chk_ok Om Om,bsome]
theorem dec_free {s:Ls}{m i:Nat}{out x:Ls}{n:Int}(hi:i<s.length)(hs:s.length≤4000)(ho:out.length≤1000000)
 (hr:Y2N (s.drop i)=some (x,n,false)):Y04 s (m+1) out (-1) (i:Int)=Y04 s m (out++[s[i]]) (-1) ((i+1:Nat):Int):=by
 rw[Y04,if_pos Om,cut_from rfl Om,bsome,hr,bsome];dsimp only;rw[if_neg l06,if_pos Dc,idx_nat,List.getElem?_eq_getElem hi,bsome];unfold Y0s;rw[app_ok (by simp;omega),bsome,bsome];dsimp only;rw[bsome,if_neg Dc,bsome,if_neg l06,bsome];dsimp only;rw[chk_succ Om,bsome]
theorem dec_blank {s:Ls}{m i g:Nat}{out x:Ls}{n:Int}(hi:i<s.length)(hs:s.length≤4000)(hb:blk s[i]=true)
 (hr:Y2N (s.drop i)=some (x,n,false)):Y04 s (m+1) out (g:Int) (i:Int)=Y04 s m out (g:Int) ((i+1:Nat):Int):=by
 rw[Y04,if_pos Om,cut_from rfl Om,bsome,hr,bsome];dsimp only;rw[if_neg l06,if_neg Om,bsome,if_pos Om,idx_nat,List.getElem?_eq_getElem hi,bsome,blank_eq,hb,bsome,bsome,if_neg Dc,bsome];dsimp only;rw[chk_succ Om,bsome]
theorem dec_flush {s:Ls}{m i g:Nat}{out x:Ls}{n:Int}(hi:i<s.length)(hs:s.length≤4000)(hg:g≤i)(ho:out.length≤1000000)(hb:blk s[i]=false)
 (hr:Y2N (s.drop i)=some (x,n,false)):Y04 s (m+1) out (g:Int) (i:Int)=Y04 s m (out++(s.take (i+1)).drop g) (-1) ((i+1:Nat):Int):=by
 have hl:((s.take (i+1)).drop g).length≤4000:=by rw[l01,l05];omega
 rw[Y04,if_pos Om,cut_from rfl Om,bsome,hr,bsome];dsimp only;rw[if_neg l06,if_neg Om,bsome,if_pos Om,idx_nat,List.getElem?_eq_getElem hi,bsome,blank_eq,hb,bsome,bsome,if_pos Dc,chk_succ Om,bsome,cut_of (a:=g) (b:=i+1) rfl rfl Om Om,bsome];unfold Y08;rw[app_ok Om,bsome,bsome];dsimp only;rw[bsome];dsimp only;rw[bsome]
theorem dec_L1 (s:Ls)(hs:s.length≤4000):∀(d i m:Nat),s.length-i≤d→d<m→i≤s.length→
 (∀out:Ls,out.length≤4*i→(Y04 s m out (-1) (i:Int)).bind (fin s)=some (out++un (s.drop i)))∧
 (∀(out:Ls) (g:Nat),out.length≤4*g→g≤i→(∀x∈(s.take i).drop g,blk x=true)→(Y04 s m out (g:Int) (i:Int)).bind (fin s)=some (out++un (after (s.drop g)))):=by
 intro d;induction d using Nat.strongRecOn with
 | ind d ih =>
   intro i m h1 h2 h3;obtain⟨m,rfl⟩ :∃k,m=k+1:=⟨m-1,by omega⟩
   have hgap :∀g,g≤i→s.drop g=(s.take i).drop g++s.drop i:=by
    intro g hg
    conv=>lhs;rw [←l0A i s]
    rw[l0V (by rw[l05];omega)]
   by_cases hi:i<s.length
   · have hd:=l09 hi;obtain⟨x,n,hr,hx⟩:=read_eq (s.drop i) (by rw[l01];omega);cases hp:pw (s.drop i) with
     | some p =>
       obtain⟨rfl,rfl⟩:=hx p hp;rw[hp,l1P] at hr;have hz:=pw_size (by rw[l01];omega) hp;rw[l01] at hz;have hun:=un_some (by rw[l01];omega) hp;rw[l0n] at hun;have key :∀(out:Ls) (g:Int),out.length≤4*i→(Y04 s (m+1) out g (i:Int)).bind (fin s)=some (out++un (s.drop i)):=by
        intro out g ho;rw[dec_word hi hs Om Om hr,(ih (d-p.2) Om (i+p.2) m Om Om Om).2 (out++p.1) (i+p.2) (by rw[l00];omega) (l0e _) (by rw[l08 (by rw[l05];omega)];simp),hun,l0c]
       refine⟨fun out ho=>key out _ ho,fun out g ho hg hb=>?_⟩;rw[key out _ Om];have hnb:(s.drop i).dropWhile blk=s.drop i:=by
        rw[hd] at hp ⊢;refine l0K (fun e=>?_);rw[pw_front (blk_ne e)] at hp;cases hp
       have:after (s.drop g)=s.drop i:=by
        unfold after;rw[hgap g hg,dropWhile_blanks hb,hnb,hp,l1P,if_pos rfl]
       rw[this]
     | none =>
       rw[hp,l1D] at hr;have hun:un (s.drop i)=s[i]::un (s.drop (i+1)):=by rw[hd] at hp ⊢;exact un_none hp
       refine⟨fun out ho=>?_,fun out g ho hg hb=>?_⟩
       · rw[dec_free hi hs Om hr,(ih (d-1) Om (i+1) m Om Om Om).1 _ (by rw[l00,l1E];omega),hun];simp
       have ht:(s.take (i+1)).drop g=(s.take i).drop g++[s[i]]:=by
        rw[l0m hi,l0V (by rw[l05];omega)]
       by_cases hbk:blk s[i]=true
       · rw[dec_blank hi hs hbk hr];refine(ih (d-1) Om (i+1) m Om Om Om).2 out g ho Om ?_;rw[ht];intro x hx;rcases List.mem_append.1 hx with h|h
         · exact hb x h
         rw[List.mem_singleton.1 h];exact hbk
       rw[dec_flush hi hs hg Om (by simpa using hbk) hr,(ih (d-1) Om (i+1) m Om Om Om).1 _ (by rw[l00,l01,l05];omega)];have hnb:(s.drop i).dropWhile blk=s.drop i:=by rw[hd];exact l0K hbk
       have:after (s.drop g)=s.drop g:=by
        unfold after;rw[if_neg];rw[hgap g hg,dropWhile_blanks hb,hnb,hp];decide
       rw[this,hgap g hg,un_blanks hb,hun,ht];simp
   have he:s.drop i=[]:=l08 Om;refine⟨fun out ho=>?_,fun out g ho hg hb=>?_⟩
   · rw[dec_end hi,bsome,he];unfold fin;dsimp only;rw[if_neg Dc,un_nil,l0g]
   rw[dec_end hi,bsome];unfold fin;dsimp only;rw[if_pos Om,cut_from rfl Om,bsome];unfold Y08;rw[app_ok (by rw[l01];omega),bsome,bsome];have:after (s.drop g)=s.drop g:=by
    unfold after;rw[if_neg];rw[hgap g hg,dropWhile_blanks hb,he];decide
   rw[this];dsimp only;rw[hgap g hg,un_blanks hb,he,un_nil]
theorem decode_eq {s:Ls}(hs:s.length≤4000):Y1k s=some (un s,(0,0)):=by
 have h:=(dec_L1 s hs s.length 0 FU Om (by unfold FU;omega) Om).1 [] Sm;rw[l2s,l0l,l07] at h;unfold Y1k;rw[if_neg Om];obtain⟨⟨o,g⟩,h1,h2⟩:=bnd h;rw[h1,bsome];unfold fin at h2;dsimp only at h2 ⊢;rw[h2,bsome];rfl
end Go.Ph.Wd
end
section
namespace Go.Ph.Wd
open Go.Ph.Pl Go.Ph.Pf
open Go.Ph.Gr (chars Ch pieces byts segs)
open Go.Ph.Chs (vld setN setOf encK encGo decoded utf8 bestK lower lowB)
open Go.Ph.Utf (rune dr)
theorem hex_back :∀c:UInt8,hex2 (hx (c.toNat / 16)) (hx (c.toNat % 16))=some c:=fun c=>by
 refine allB (p:=fun c=>hex2 (hx (c.toNat / 16)) (hx (c.toNat % 16))=some c) ?_ c;decide +kernel
theorem alnum_plain :∀c:UInt8,alnum c=true→c≠95∧c≠61∧33≤c.toNat∧c.toNat≤126:=fun c=>by
 refine allB (p:=fun c=>alnum c=true→c≠95∧c≠61∧33≤c.toNat∧c.toNat≤126) ?_ c;decide +kernel
theorem uq_dq1 (c:UInt8)(t:Ls):uq (dq1 c++t)=(uq t).map (c :: ·):=by
 unfold dq1;by_cases h1:c=32
 · rw[if_pos h1,h1,l1G,uq_cons,if_pos rfl]
 rw[if_neg h1];by_cases h2:alnum c=true
 · obtain⟨a1,a2,a3⟩:=alnum_plain c h2;rw[if_pos h2,l1G,uq_cons,if_neg a1,if_neg a2,if_pos a3]
 rw[if_neg h2];show uq (61::(hx (c.toNat / 16)::hx (c.toNat % 16)::t))=_
 rw[uq_cons,if_neg Dc,if_pos rfl];dsimp only[hexd2];rw[hex_back,l0T,bsome]
theorem uq_dq :∀b:Ls,uq (dq b)=some b
 | []=>rfl
 | c::b=>by
   have:dq (c::b)=dq1 c++dq b:=by simp [dq]
   rw[this,uq_dq1,uq_dq b];rfl
theorem bytesP_word (k:Nat)(b:Ls):bytesP (if k=2 then [66] else [81]) (if k=2 then B64.chars64 b else dq b)=some b:=by
 unfold bytesP;by_cases hk:k=2
 · have hl:B64.lenient (B64.chars64 b)=b:=B64.lenient_of_vis _ _ (by rw[B64.chars_grps]);rw[if_pos hk,if_pos hk,if_pos Dc,hl,if_pos rfl]
 rw[if_neg hk,if_neg hk,if_neg Dc,if_pos Dc];exact uq_dq b
theorem pw_W {k:Nat}{l r:Ls}(hk:k<4)(h:okE k l)(h75:(W k l).length≤75):pw (W k l++r)=some (l,(W k l).length):=by
 obtain⟨b,hb⟩ :∃b,enc k l=b:=⟨_,rfl⟩
 have hd:decoded k b=l:=by rw[←hb];exact Chs.decoded_enc0 h.v (enc_go h)
 obtain⟨K,hK⟩ :∃K:Ls,(if k=2 then [66] else [81])=K:=⟨_,rfl⟩
 obtain⟨D,hD⟩ :∃D:Ls,(if k=2 then B64.chars64 b else dq b)=D:=⟨_,rfl⟩
 have hw:W k l=61::63::(nam k++63::(K++63::(D++63::[61]))):=by
  unfold W wrap;rw[hb,←hK,←hD];by_cases h2:k=2
  · simp [h2]
  simp [h2]
 have n1:63∉nam k:=fun e=>(nam_ok k hk 63 e).2.2 rfl
 have n2:63∉K:=by rw[←hK];split <;> decide
 have n3:63∉D:=by
  rw[←hD];split
  · exact fun e=>(chars64_ok b 63 e).2.2 G
  intro e;obtain⟨c,_,hc⟩:=List.mem_flatMap.1 e;exact(dq1_ok c 63 hc).2.2 G
 have n4:K.length=1:=by rw[←hK];split <;> rfl
 have hlen:=congrArg List.length hw;simp only[l02,l00,l03] at hlen;have hb2:bytesP K D=some b:=by rw[←hK,←hD];exact bytesP_word k b
 have hbody:body (nam k) K D=some l:=by
  unfold body;rw[setOf_nam k hk,bsome,hb2,l0T,hd]
 have hsp:sp3 ((W k l++r).drop 2)=some (nam k,K,D,61::r):=by
  rw[hw];have:(61::63::(nam k++63::(K++63::(D++63::[61])))++r).drop 2=nam k++63::(K++63::(D++63::(61::r))):=by simp
  rw[this];exact sp3_of n1 n2 n3
 unfold pw;rw[hsp,if_pos (by rw[hw];exact ⟨_,rfl⟩),bsome];dsimp only;rw[if_pos ⟨⟨r,rfl⟩,by omega⟩,hbody,l0T];congr 2;omega
theorem W_head (k:Nat)(l:Ls):∃t,W k l=61::t:=⟨_,by unfold W wrap;rfl⟩
theorem un_words {k:Nat}(hk:k<4):∀(gs:List Ls) (g:Ls),(∀x∈g::gs,okE k x∧(W k x).length≤75)→(W k g++more (gs.map (W k))).length≤10000→
 un (W k g++more (gs.map (W k)))=g++gs.flatten
 | [],g,h,hl=>by
   obtain⟨h1,h2⟩:=h g Sm;have hp:=pw_W (r:=more (([]:List Ls).map (W k))) hk h1 h2;rw[un_some hl hp,l1K];rfl
 | x :: gs,g,h,hl=>by
   obtain⟨h1,h2⟩:=h g Sm;obtain⟨h3,h4⟩:=h x Sm;have hp:=pw_W (r:=more ((x::gs).map (W k))) hk h1 h2;have hm:more ((x::gs).map (W k))=32::(W k x++more (gs.map (W k))):=by simp [more]
   have hq:=pw_W (r:=more (gs.map (W k))) hk h3 h4;have ha:after (more ((x::gs).map (W k)))=W k x++more (gs.map (W k)):=by
    obtain⟨t,ht⟩:=W_head k x;have hdw:(more ((x::gs).map (W k))).dropWhile blk=W k x++more (gs.map (W k)):=by
     rw[hm,l0C Dc,ht,l04,l0K Dc]
    unfold after;rw[hdw,hq,l1P,if_pos rfl]
   rw[un_some hl hp,l1K,ha,un_words hk gs x (fun y hy=>h y (by simp at hy ⊢;exact .inr hy)) (by rw[hm] at hl;simp only[l00,l02] at hl ⊢;omega),l0p]
theorem un_plain {s:Ls}:∀(d i:Nat),s.length-i≤d→i≤s.length→fnd s [61,63] i = -1→un (s.drop i)=s.drop i
 | 0,i,h1,h2,h3=>by rw[l08 Om];rfl
 | d + 1,i,h1,h2,h3=>by
   by_cases hi:i<s.length
   · have hn :¬ [61,63] <+: s.drop i:=fun e=>by rw[fnd_here hi e] at h3;omega
     rw[fnd_next hi hn] at h3;have hp:pw (s.drop i)=none:=by unfold pw;rw [if_neg hn]
     rw[l09 hi] at hp ⊢;rw[un_none hp,un_plain d (i+1) Om Om h3]
   rw[l08 Om];rfl
theorem un_own {s:Ls}(hp:pln s=true):un s=s:=by
 unfold pln at hp;simp only[l0j] at hp;have hc:=hp.2.2.2;rw[contains_fnd,Bool.not_not] at hc;have hf:fnd s [61,63] 0 = -1:=by
  have h1:=of_decide_eq_true hc;unfold fnd at h1 ⊢;have:=Lib.index_ge (s.drop 0) [61,63];split
  · rfl
  rename_i h2;rw [if_neg h2] at h1;omega
 have:=un_plain s.length 0 Om Om hf;simpa using this
theorem con_latin {a b:Int}(ha:0≤a∧a≤255)(hb:0≤b∧b≤255)(fl:Nat)(h:Gr.con a b fl=true):a=13∧b=10:=by
 have ca:(Gr.cls a=1∧a=13)∨Gr.cls a=2∨Gr.cls a=3∨Gr.cls a=0:=by
  unfold Gr.cls;repeat' split
  all_goals omega
 have cb:Gr.cls b=1∨(Gr.cls b=2∧b=10)∨Gr.cls b=3∨Gr.cls b=0:=by
  unfold Gr.cls;repeat' split
  all_goals omega
 unfold Gr.con at h;rw[if_neg Om] at h;unfold Gr.contC at h;repeat' split at h
 all_goals first|omega|cases h|(have:=of_decide_eq_true h;omega)
theorem seg_two :∀(cs cur:List Ch) (prev:Int) (fl:Nat),(∀c∈cs,0≤c.1∧c.1≤255)→0≤prev∧prev≤255→cur.length≤2→(cur.length=2→prev≠13)→∀g∈Gr.seg cur prev fl cs,g.length≤2
 | [],cur,prev,fl,h,hp,h2,h3=>by
   intro g hg;rw[Gr.seg,l2n] at hg;rw[hg];exact h2
 | c :: cs,cur,prev,fl,h,hp,h2,h3=>by
   have hc:=h c Sm;rw[Gr.seg];by_cases hcon:Gr.con prev c.1 fl=true
   · obtain⟨e1,e2⟩:=con_latin hp hc fl hcon;rw[if_pos hcon];have h4:cur.length≠2:=fun e=>h3 e e1
     exact seg_two cs _ _ _ (fun x hx=>h x (by simp [hx])) hc (by rw[l00,l1E];omega) (fun _=>by omega)
   rw[if_neg hcon];intro g hg;rcases List.mem_cons.1 hg with rfl|hg
   · exact h2
   exact seg_two cs [c] _ _ (fun x hx=>h x (by simp [hx])) hc Sm Sm g hg
theorem segs_two (cs:List Ch)(h :∀c∈cs,0≤c.1∧c.1≤255):∀g∈Gr.segs cs,g.length≤2:=by
 cases cs with
 | nil=>intro g hg;cases hg
 | cons c cs=>exact seg_two cs [c] _ _ (fun x hx=>h x (by simp [hx])) (h c Sm) Sm Sm
theorem unit_two {k:Nat}{l:Ls}(h :∀c∈chars l,0≤c.1∧c.1≤255):∀u∈unitsC k l,u.length≤2:=fun u hu=>by
 obtain⟨g,hg,hu⟩:=List.mem_flatMap.1 hu;have h2:=segs_two (chars l) h g hg;unfold usC at hu;split at hu
 · rw[List.mem_singleton.1 hu];exact h2
 obtain⟨c,_,rfl⟩:=List.mem_map.1 hu;simp
def wt (k:Nat)(g:List Ch):Nat:=(g.flatMap fun c=>dq ((encK k c.1).getD [])).length
theorem wt_app (k:Nat)(a b:List Ch):wt k (a++b)=wt k a+wt k b:=by unfold wt;rw [l0M,l00]
theorem wt_le {k:Nat}(hk:k<2)(g:List Ch):wt k g≤3*g.length:=by
 refine flatMap_len _ 3 g (fun c _=>?_);have hs :∀bd:Int,(dq ((Chs.encS bd c.1).getD [])).length≤3:=fun bd=>by
  unfold Chs.encS;split
  · have:=dq_len [ub c.1];simpa using this
  simp [dq]
 unfold encK;split
 · exact hs _
 rw[if_pos Om];exact hs _
theorem W_q {k:Nat}(hk:k<2){l:Ls}{A g B:List Ch}(h:chars l=A++g++B):(W k (byts g)).length=(nam k).length+7+wt k g:=by
 have he:dq (enc k (byts g))=g.flatMap fun c=>dq ((encK k c.1).getD []):=by
  unfold enc;rw[chars_mid h];unfold dq;rw[List.flatMap_assoc]
 unfold W wrap wt;rw[if_neg Om,←he];simp only[l00,l02,l03];omega
theorem p2_pos (k:Nat):∀(us:List (List Ch)) (now:List Ch),1≤(p2 k now us).length
 | [],now=>by simp [p2]
 | u::us,now=>by
   rw[p2];split
   · exact p2_pos k us (now++u)
   simp
theorem p2_q {k:Nat}(hk:k<2){l:Ls}(c:Nat)(hc:c=(nam k).length+7):∀(us:List (List Ch)) (now A:List Ch),chars l=A++(now++us.flatten)→(∀u∈us,u.length≤2)→
 ((p2 k now us).length-1)*(70-c)≤wt k now+wt k us.flatten
 | [],now,A,h,hu=>by simp [p2]
 | u :: us,now,A,h,hu=>by
   have hw:=W_q hk (l:=l) (A:=A) (g:=now++u) (B:=us.flatten) (by rw[h];simp);have h2:=wt_le hk u;have h3:=hu u Sm;rw[p2];rw[wt_app] at hw;rw[l0p,wt_app];split
   · have:=p2_q hk c hc us (now++u) A (by rw[h];simp) (fun x hx=>hu x (by simp [hx]));rw[wt_app] at this;omega
   have:=p2_q hk c hc us u (A++now) (by rw[h];simp) (fun x hx=>hu x (by simp [hx]));have hp:=p2_pos k us u;rw[l02,l1f];obtain⟨n,hn⟩ :∃n,(p2 k u us).length=n+1:=⟨_,(Nat.sub_add_cancel hp).symm⟩
   rw[hn,l1f] at this;rw[hn,l2y];omega
theorem flatMap_congr' {α β:Type}{f g:α→List β}:∀{l:List α},(∀a∈l,f a=g a)→l.flatMap f=l.flatMap g
 | [],_=>rfl
 | a::l,h=>by rw[l0o,l0o,h a Sm,flatMap_congr' fun x hx=>h x (by simp [hx])]
theorem enc_utf8 {l:Ls}(hv:vld l=true){A g B:List Ch}(h:chars l=A++g++B):enc 2 (byts g)=byts g:=by
 have hu:=Y4D _ l (l0e _) hv;unfold enc byts;have hc:chars ((g.map (·.2)).flatten)=g:=chars_mid h;rw[hc,←List.flatMap_def];apply flatMap_congr';intro c hcg;have:utf8 c.1=c.2:=hu c (by rw[h];simp [hcg]);show(Chs.encU c.1).getD []=c.2
 unfold Chs.encU;rw[l1A,this]
theorem W_b {l:Ls}(hv:vld l=true){A g B:List Ch}(h:chars l=A++g++B):(W 2 (byts g)).length=11+4*(((byts g).length+2) / 3):=by
 unfold W wrap;rw[enc_utf8 hv h,if_pos rfl];simp only[l00,B64.chars_len,l02,l03];have:(nam 2).length=4:=rfl;omega
theorem p2_b {l:Ls}(hv:vld l=true):∀(us:List (List Ch)) (now A:List Ch),chars l=A++(now++us.flatten)→
 49*((p2 2 now us).length-1)≤(byts now).length+2*(byts us.flatten).length
 | [],now,A,h=>by simp [p2]
 | u :: us,now,A,h=>by
   have hw:=W_b hv (A:=A) (g:=now++u) (B:=us.flatten) (by rw[h];simp);rw[p2];have e1:(byts (now++u)).length=(byts now).length+(byts u).length:=by rw[byts_app,l00]
   have e2:(byts (u++us.flatten)).length=(byts u).length+(byts us.flatten).length:=by rw[byts_app,l00]
   rw[l0p];split
   · have:=p2_b hv us (now++u) A (by rw[h];simp);omega
   have:=p2_b hv us u (A++now) (by rw[h];simp);have hp:=p2_pos 2 us u;rw[l02,l1f];omega
theorem more_q {k:Nat}(hk:k<2){l:Ls}(c:Nat)(hc:c=(nam k).length+7):∀(gs:List (List Ch)) (A:List Ch),chars l=A++gs.flatten→
 (more (gs.map fun g=>W k (byts g))).length=gs.length*(c+1)+wt k gs.flatten
 | [],A,h=>by simp [more,wt]
 | g::gs,A,h=>by
   have hw:=W_q hk (l:=l) (A:=A) (g:=g) (B:=gs.flatten) (by rw[h];simp);have ih:=more_q hk c hc gs (A++g) (by rw[h];simp);have hm:more ((g::gs).map fun g=>W k (byts g))=32::(W k (byts g)++more (gs.map fun g=>W k (byts g))):=by simp [more]
   rw[hm,l02,l00,hw,ih,l0p,wt_app,l02,l2y];omega
theorem latin {s:Ls}(hv:vld s=true)(hb:bestK s<2):∀c∈chars s,0≤c.1∧c.1≤255:=fun c hc=>by
 have h0:0≤c.1:=by
  unfold vld at hv;exact of_decide_eq_true (List.all_eq_true.1 hv c hc)
 refine⟨h0,?_⟩;unfold bestK at hb;by_cases h1:(chars s).any (fun c=>decide (255<Chs.fix0 c.1))=true
 · rw[if_pos h1] at hb;omega
 have h2 :¬255<Chs.fix0 c.1:=fun e=>h1 (List.any_eq_true.2 ⟨c,hc,decide_eq_true e⟩)
 unfold Chs.fix0 at h2;rw[if_neg Om] at h2;omega
theorem rep_4000 {s:Ls}(h:s.length≤1000)(hv:vld s=true):(rep (bestK s) s).length≤4000:=by
 have hb:=bestK_le s;have hfl:=unitsC_flat (bestK s) s;have hcl:=chars_len s;unfold rep;cases hus:unitsC (bestK s) s with
 | nil=>simp [parts,jn]
 | cons u us =>
   rw[parts];rw[hus,l0p] at hfl;by_cases hk:bestK s<2
   · obtain⟨c,hc⟩ :∃c,c=(nam (bestK s)).length+7:=⟨_,rfl⟩
     have hnl:(nam (bestK s)).length≤6:=by
      have :∀k,k<2→(nam k).length≤6:=by decide
      exact this _ hk
     have hq:=p2_q hk c hc us u [] (by rw[l07,hfl]) (fun x hx=>unit_two (latin hv hk) x (by rw[hus];simp [hx]));have hwt:wt (bestK s) (chars s)=wt (bestK s) u+wt (bestK s) us.flatten:=by rw[←hfl,wt_app]
     have hwl:=wt_le hk (chars s);have hm:=more_q hk (l:=s) c hc (p2 (bestK s) u us) [] (by rw[l07,p2_flat,hfl]);rw[p2_flat,hfl] at hm;have hp:=p2_pos (bestK s) us u;obtain⟨n,hn⟩ :∃n,(p2 (bestK s) u us).length=n+1:=⟨_,(Nat.sub_add_cancel hp).symm⟩
     rw[hn] at hm hq;rw[l1f] at hq;have h57:n*57≤n*(70-c):=l2D n Om;have h14:(n+1)*(c+1)≤(n+1)*14:=l2D (n+1) Om;cases hps:p2 (bestK s) u us with
     | nil=>rw[hps] at hn;simp at hn
     | cons g gs =>
       rw[hps] at hm;rw[l0f,jn_more];have:more ((g::gs).map fun g=>W (bestK s) (byts g))=32::(W (bestK s) (byts g)++more (gs.map fun g=>W (bestK s) (byts g))):=by simp [more]
       rw[this,l02] at hm;omega
   have hk2:bestK s=2:=by omega
   rw[hk2] at hus ⊢;have hq:=p2_b hv us u [] (by rw[l07,hfl]);have h75:=part_75 (k:=2) Dc (l:=s);rw[hus,parts] at h75;have hbl:(byts u).length+(byts us.flatten).length≤1000:=by
    have:=Gr.chars_flat s;rw[←l00,←byts_app,hfl];unfold byts;rw[this];exact h
   have hj:=jn_len [32] 75 ((p2 2 u us).map fun g=>W 2 (byts g)) (fun w hw=>by
    obtain⟨g,hg,rfl⟩:=List.mem_map.1 hw;exact h75 g hg)
   rw[l0d] at hj;simp only[l02,l03] at hj;omega
theorem un_rep {s:Ls}(h:s.length≤1000)(hv:vld s=true)(h0:s≠ []):un (rep (bestK s) s)=s:=by
 have hb:=bestK_le s;have hl:=rep_4000 h hv;have hfl:=parts_flat (bestK s) (unitsC (bestK s) s);rw[unitsC_flat] at hfl;have hall :∀g∈parts (bestK s) (unitsC (bestK s) s),okE (bestK s) (byts g)∧(W (bestK s) (byts g)).length≤75:=fun g hg=>by
  obtain⟨A,B,hm⟩:=part_mid _ _ hg;exact⟨(best_ok hv).mid hm,part_75 Om g hg⟩
 have hs:=Gr.chars_flat s;unfold rep at hl ⊢;cases hps:parts (bestK s) (unitsC (bestK s) s) with
 | nil =>
   rw[hps] at hfl;rw[←hfl] at hs;exact absurd hs.symm h0
 | cons g gs =>
   rw[hps] at hl hall hfl;have e:((g::gs).map fun g=>W (bestK s) (byts g))=W (bestK s) (byts g)::(gs.map byts).map (W (bestK s)):=by simp
   rw[e,jn_more] at hl ⊢;rw[un_words Om (gs.map byts) (byts g) (fun x hx=>by
    have:x∈(g::gs).map byts:=by simpa using hx
    obtain⟨y,hy,rfl⟩:=List.mem_map.1 this;exact hall y hy) Om,Gr.byts_flat,←byts_app]
   rw[←l0p,hfl];exact hs
end Go.Ph.Wd
end
section
namespace Go.Ph.Ad
open Go.Ph.Pl Go.Ph.Pf
open Go.Ph.Chs (vld utf8 encK bestK)
open Go.Ph.Gr (chars byts Ch)
open Go.Ph.Wd (pln rep W wt okc parts unitsC nam)
theorem jn_ge :∀(f:List Ch→Ls) (gs:List (List Ch)),(∀g∈gs,(byts g).length+1≤(f g).length)→gs≠ []→(byts gs.flatten).length+1≤(jn [32] (gs.map f)).length
 | f,[],_,h=>absurd rfl h
 | f,[g],h,_=>by have:=h g Sm;simpa [jn] using this
 | f,g::g2::gs,h,_=>by
   have h1:=h g Sm;have h2:=jn_ge f (g2::gs) (fun x hx=>h x (l0t _ hx)) Sm;rw[l0p,Wd.byts_app,l0f,l0f,jn];rw[l0f] at h2;simp only[l00,l02,l03] at h2 ⊢;omega
theorem lat_len :∀n:Fin 256,(utf8 (n.val:Int)).length≤(Wd.dq ((encK 1 (n.val:Int)).getD [])).length∧(n.val<128→(utf8 (n.val:Int)).length≤(Wd.dq ((encK 0 (n.val:Int)).getD [])).length):=by decide +kernel
theorem wt_ge {s:Ls}(hv:vld s=true)(hk:bestK s<2):∀g:List Ch,(∀c∈g,c∈chars s)→(byts g).length≤wt (bestK s) g
 | [],_=>l1a _
 | c::g,h=>by
   have ih:=wt_ge hv hk g fun x hx=>h x (by simp [hx])
   have hc:=h c Sm;have h1:=Wd.latin hv hk c hc;have h2:=Wd.Y4D _ s (l0e _) hv c hc;have h3:=(Wd.best_ok hv).2 c hc;have hl:=lat_len ⟨c.1.toNat,by omega⟩;rw[show ((⟨c.1.toNat,by omega⟩:Fin 256).val:Int)=c.1 from l0x h1.1] at hl;have key:c.2.length≤(Wd.dq ((encK (bestK s) c.1).getD [])).length:=by
    rw[←h2];obtain h0|h0:bestK s=0∨bestK s=1:=by omega
    · rw[h0] at h3 ⊢;refine hl.2 ?_;have:c.1<128:=by
       unfold encK Chs.encS at h3;rw[if_pos rfl] at h3;by_cases q:c.1<128
       · exact q
       simp [q] at h3
      show c.1.toNat<128
      omega
    rw[h0];exact hl.1
   unfold wt at ih ⊢;unfold byts at ih ⊢;rw[l0o,l0f,l0p,l00,l00];omega
theorem rep_long {s:Ls}(hv:vld s=true)(h0:s≠ []):s.length<(rep (bestK s) s).length:=by
 have hb:=Wd.bestK_le s;have hfl:=Wd.unitsC_flat (bestK s) s;have hpf:=Wd.parts_flat (bestK s) (unitsC (bestK s) s);rw[hfl] at hpf;have hby:byts (chars s)=s:=Gr.chars_flat s;have:=jn_ge (fun g=>W (bestK s) (byts g)) (parts (bestK s) (unitsC (bestK s) s)) (fun g hg=>by
  obtain⟨A,B,hAB⟩:=l2K hg;have hm:chars s=A.flatten++g++B.flatten:=by rw[←hpf,hAB];simp
  by_cases hk:bestK s<2
  · have h1:=Wd.W_q hk hm;have h2:=wt_ge hv hk g fun c hc=>by rw[hm];simp [hc]
    omega
  have h2:bestK s=2:=by omega
  have h1:=Wd.W_b hv hm;rw[h2];omega) (fun e=>h0 (by rw[e] at hpf;rw [←hby,←hpf];rfl))
 rw[hpf,hby] at this;unfold rep;omega
def phF : Bool→Ls→Bool
 | e,[] => !e
 | e,c::l=>if c=32 then(if e=true then false else phF true l) else(if atB c=true then phF false l else false)
def qtd (s:Ls):Ls:=[34]++qt s++[34]
def ph (s:Ls):Ls:=if pln s=true then(if phF true s=true then s else qtd s) else rep (bestK s) s
theorem spl_ph :∀(l:Ls) (e:Bool) (h:Ls) (t:List Ls),spl 32 l=h::t→phF e l=(h.all atB&&((!e || !decide (h=[]))&&t.all (good atB)))
 | [],e,h,t,hs=>by
   simp only[spl,List.cons.injEq] at hs;obtain⟨rfl,rfl⟩:=hs;cases e <;> rfl
 | c :: l,e,h,t,hs=>by
   rw[spl] at hs;rw[phF];by_cases hc:c=32
   · rw[if_pos hc] at hs;obtain⟨rfl,rfl⟩:=List.cons.inj hs;rw[if_pos hc];cases hl:spl 32 l with
     | nil=>exact absurd hl (spl_ne _ _)
     | cons a b =>
       rw[spl_ph l true a b hl,l0H];cases e <;> simp [good,Bool.and_comm,Bool.and_left_comm,Bool.and_assoc]
   rw[if_neg hc] at hs;rw[if_neg hc];cases hl:spl 32 l with
   | nil=>exact absurd hl (spl_ne _ _)
   | cons a b =>
     rw[hl] at hs;dsimp only at hs;obtain⟨rfl,rfl⟩:=List.cons.inj hs;rw[spl_ph l false a b hl,l0H];cases atB c <;> simp
theorem ph_spl (s:Ls):(spl 32 s).all (good atB)=phF true s:=by
 cases hs:spl 32 s with
 | nil=>exact absurd hs (spl_ne _ _)
 | cons h t =>
   rw[spl_ph s true h t hs,l0H];unfold good;cases h.all atB <;> simp
theorem quoted_eq (s:Ls)(hs:s.length≤1000):Y2k s=some (qtd s):=by
 have h1:=qt_le s;unfold Y2k qtd;have hr:Y14 ([[92],[92,92],[34],[92,34]]:List Ls)=some ():=by unfold Y14;rw [if_pos rfl]
 rw[hr,bsome,replace_eq _ hs,bsome,cat_ok (by simp;omega),bsome,cat_ok (by simp;omega),bsome]
theorem phrase_run (s:Ls)(hs:s.length≤1000)(u:Ls):∀(l:List Ls),(∀x∈l,Big x)→runL (stepY exStop (Y23 s)) l (u,0)=some (if l.all (good atB)=true then(u,0) else(qtd s,1))
 | [],h=>rfl
 | x :: l,h=>by
   rw[runL];unfold stepY;rw[if_neg (show ¬exStop (u,0)=true from fun e=>by cases e)];have hx:Y23 s (u,0) x=some (if good atB x=true then(u,0) else(qtd s,1)):=by
    unfold Y23 good;dsimp only;rw[quoted_eq s hs];by_cases hx:x=[]
    · subst hx;rfl
    rw[if_neg hx,all_eq x (h x l0D) Y2u atB atom_eq];simp only[bsome,hx];cases x.all atB <;> rfl
   rw[hx,l0H];have ih:=phrase_run s hs u l (fun y hy=>h y (l0t _ hy));cases hgx:good atB x with
   | false=>rfl
   | true =>
     simp only[if_true,l0T,bsome,l1S];exact ih
theorem phrase_eq (s:Ls)(hs:s.length≤1000)(hv:vld s=true):Y2l s=some (ph s):=by
 unfold Y2l ph;by_cases hp:pln s=true
 · rw[Wd.encode_own hs hv hp,bsome,if_pos hp];dsimp only;rw[if_pos rfl,splitSeq_eq _ _ _ _ Om,phrase_run s hs [] _ (fun x hx=>by have:=spl_len 32 s x hx;unfold Big;omega),ph_spl,bsome];cases phF true s <;> rfl
 have hp':pln s=false:=by simpa using hp
 have h0:s≠ []:=by rintro rfl;exact hp Dc
 have hl:=rep_long hv h0;rw[Wd.encode_rep hs hv hp',bsome,if_neg hp];dsimp only;rw[if_neg (fun e=>by rw[e] at hl;omega)]
def mbT (a:Adr):Ls:=if a.1=[] then specT a.2.1 a.2.2 else ph a.1++[32,60]++specT a.2.1 a.2.2++[62]
theorem disp_ok {l:Ls}(h:dispF l=0):l.length≤500∧vld l=true:=by
 unfold dispF at h;split at h
 · cases h
 split at h
 · rename_i h1 h2;exact ⟨by omega,h2⟩
 cases h
theorem ph_len {s:Ls}(hs:s.length≤500)(hv:vld s=true):(ph s).length≤4000:=by
 unfold ph qtd;have:=qt_le s;split
 · split
   · omega
   simp;omega
 exact Wd.rep_4000 Om hv
theorem mb_len {a:Adr}(h:(addrF a).1=0):(mbT a).length≤4200:=by
 obtain⟨h1,h2,h3,_⟩:=addrF_ok h;obtain⟨d1,d2⟩:=disp_ok h1;have:=ph_len d1 d2;have:=specT_len a.2.1 a.2.2;have:=loc_len h2;have:=dom_len h3;unfold mbT;split
 · omega
 simp;omega
theorem mailbox_eq {a:Adr}(h:(addrF a).1=0):Y2K (a.1,a.2.1,a.2.2)=some (mbT a):=by
 obtain⟨h1,h2,h3,_⟩:=addrF_ok h;obtain⟨d1,d2⟩:=disp_ok h1;have e1:=ph_len d1 d2;have e2:=specT_len a.2.1 a.2.2;have e3:=loc_len h2;have e4:=dom_len h3;have hsp:Y0q (a.1,a.2.1,a.2.2)=some (specT a.2.1 a.2.2):=specification_eq a e3 e4;unfold Y2K mbT;dsimp only;rw[hsp,phrase_eq _ Om d2];split
 · rfl
 rw[bsome,cat_ok (by simp;omega),bsome,bsome,cat_ok (by simp;omega),bsome,cat_ok (by simp;omega),bsome]
theorem spec_last (w d:Ls)(hd:domT d=true):∃x c,specT w d=x++[c]∧c≠32:=by
 obtain⟨h1,h2⟩:=dom_word hd;obtain⟨y,c,rfl⟩ :∃y c,d=y++[c]:=⟨d.dropLast,d.getLast h1,(l2f h1).symm⟩
 have hc:waB c=true:=List.all_eq_true.1 h2 c Sm;have:c≠32:=by rintro rfl;revert hc;decide
 unfold specT;split
 · exact⟨w++64::y,c,by simp,this⟩
 exact⟨34::(qt w++34::64::y),c,by simp,this⟩
theorem mb_last {a:Adr}(h:(addrF a).1=0):∃x c,mbT a=x++[c]∧c≠32:=by
 unfold mbT;split
 · exact spec_last _ _ (addrF_ok h).2.2.1
 exact⟨_,62,G,by decide⟩
def tl (b:Bool):Nat→List Ls→Ls
 | _,[]=>[]
 | k,m::ms=>(if 0<k then [44] else [])++((if b=true then [32] else [])++(m++tl b (k+1) ms))
theorem jn_tl :∀(ms:List Ls) (m:Ls) (k:Nat),jn [44,32] (m::ms)=m++tl true (k+1) ms
 | [],m,k=>by simp [jn,tl]
 | x::ms,m,k=>by
   rw[jn,jn_tl ms x (k+1),tl,if_pos Om,if_pos rfl];simp
theorem jn_last :∀(ms:List Ls),ms≠ []→(∀m∈ms,∃x c,m=x++[c]∧c≠32)→∃x c,jn [44,32] ms=x++[c]∧c≠32
 | [],h,_=>absurd rfl h
 | [m],_,h=>by obtain⟨x,c,h1,h2⟩:=h m Sm;exact ⟨x,c,h1,h2⟩
 | m::y::ms,_,h=>by
   obtain⟨x,c,h1,h2⟩:=jn_last (y::ms) Sm (fun z hz=>h z (l0t _ hz));exact⟨m++([44,32]++x),c,by rw[jn,h1];simp,h2⟩
theorem jn_b (n:Nat):∀(ms:List Ls),(∀m∈ms,m.length≤n)→(jn [44,32] ms).length≤ms.length*(n+2)
 | [],_=>by simp [jn]
 | [x],h=>by have:=h x Sm;simp [jn];omega
 | x::y::ms,h=>by
   have h1:=h x Sm;have h2:=jn_b n (y::ms) fun z hz=>h z (l0t _ hz)
   rw[jn,l02,l2y];simp only[l00,l02,l03] at h2 ⊢;omega
def itT (x:Itm):Ls:=if x.2.1=true then ph x.1++[58]++tl true 0 (x.2.2.map mbT)++[59] else jn [44,32] (x.2.2.map mbT)
structure OkI (x:Itm):Prop where
 grp:x.1.length≤500∧vld x.1=true
 mem :∀a∈x.2.2,(addrF a).1=0
 cnt:x.2.2.length≤60
 one:x.2.1=false→x.2.2.length=1
theorem memF_ok :∀{l:List Adr},memF l=0→∀a∈l,(addrF a).1=0
 | a :: l,h,b,hb=>by
   rw[memF] at h;split at h
   · rename_i h1;rcases List.mem_cons.1 hb with rfl|hb
     · exact h1
     exact memF_ok h b hb
   rename_i h1;exact absurd h h1
theorem trim_eq (s:Ls)(hs:s.length≤1000000):Y0J s [32]=some (if [32] <:+ s then s.take (s.length-1) else s):=by
 have h:=Wd.suffix_eq s [32] Om;unfold Y18 at h;rw[show ((Y0i s [32]).bind fun b1=>some b1)=Y0i s [32] by cases Y0i s [32] <;> rfl] at h;unfold Y0J Y0W;rw[h,bsome];by_cases hh:[32] <:+ s
 · have hl:=hh.length_le;simp only[l02,l03] at hl;rw[decide_eq_true hh,if_pos rfl,if_pos hh,show (([32]:Ls).length:Int)=1 from rfl,chk_pred Om Om,bsome,cut_to rfl Om,bsome,bsome]
 rw[decide_eq_false hh,if_neg Dc,if_neg hh,bsome]
theorem grp_trim (p:Ls)(ms:List Ls)(hp:p.length≤4000)(hm:ms.length≤60)(hb :∀m∈ms,m.length≤4200)(hl :∀m∈ms,∃x c,m=x++[c]∧c≠32):Y0J (p++[58,32]++jn [44,32] ms) [32]=some (p++[58]++tl true 0 ms):=by
 have hj:=jn_b 4200 ms hb;have h2:ms.length*(4200+2)≤60*4202:=l0G _ hm;rw[trim_eq _ (by simp;omega)];cases ms with
 | nil =>
   have:[32] <:+ p++[58,32]++jn [44,32] []:=⟨p++[58],by simp [jn]⟩
   rw[if_pos this];have e:p++[58,32]++jn [44,32] []=(p++[58])++[32]:=by simp [jn]
   rw[e,l00,l1E,l1f,l1q];simp [tl]
 | cons m ms =>
   obtain⟨x,c,h1,h3⟩:=jn_last (m::ms) Sm hl;rw[if_neg (by
    rintro⟨y,hy⟩;rw[h1,←l0c] at hy;have:=(List.append_inj' hy rfl).2;cases this;exact h3 G),tl,if_neg Om,if_pos G,jn_tl ms m 0]
   simp
theorem map_len (l:List Adr):(l.map mbT).length=l.length:=l0d ..
theorem print_L2 (x:Itm)(hx:OkI x):∀(k i m:Nat) (acc:List Ls),x.2.2.length-i≤k→k<m→i≤x.2.2.length→acc.length≤i→Y0P x m acc (i:Int)=some (acc++(x.2.2.drop i).map mbT):=by
 have hc:=hx.cnt;intro k;induction k with
 | zero =>
   intro i m acc h1 h2 h3 h4;obtain⟨m,rfl⟩ :∃k,m=k+1:=⟨m-1,by omega⟩
   rw[Y0P,if_neg Om,l08 Om];simp
 | succ k ih =>
   intro i m acc h1 h2 h3 h4;obtain⟨m,rfl⟩ :∃k,m=k+1:=⟨m-1,by omega⟩
   by_cases hi:i<x.2.2.length
   · rw[Y0P,if_pos Om,idx_nat,List.getElem?_eq_getElem hi,bsome,mailbox_eq (hx.mem _ (l0E hi)),bsome,app_ok (by simp;omega),bsome,chk_succ Om,bsome,ih (i+1) m _ Om Om Om (by simp;omega),l09 hi,l0f,l0c];rfl
   rw[Y0P,if_neg Om,l08 Om];simp
theorem it_len {x:Itm}(hx:OkI x):(itT x).length≤300000:=by
 have hc:=hx.cnt;have hb :∀m∈x.2.2.map mbT,m.length≤4200:=by
  intro m hm;obtain⟨a,ha,rfl⟩:=List.mem_map.1 hm;exact mb_len (hx.mem a ha)
 have hj:=jn_b 4200 _ hb;rw[map_len] at hj;have h2:x.2.2.length*(4200+2)≤60*4202:=l0G _ hc;have hp:=ph_len hx.grp.1 hx.grp.2;unfold itT;split
 · have:(tl true 0 (x.2.2.map mbT)).length≤(jn [44,32] (x.2.2.map mbT)).length+1:=by
    cases hms:x.2.2.map mbT with
    | nil=>simp [tl]
    | cons m ms=>rw[tl,if_neg Om,if_pos rfl,jn_tl ms m 0];simp
   simp;omega
 omega
theorem print_L1 (l:List Itm)(hl:l.length≤60)(ho :∀x∈l,OkI x):∀(k i m:Nat) (acc:List Ls),l.length-i≤k→k<m→i≤l.length→acc.length≤i→Y0A l m acc (i:Int)=some (acc++(l.drop i).map itT):=by
 intro k;induction k with
 | zero =>
   intro i m acc h1 h2 h3 h4;obtain⟨m,rfl⟩ :∃k,m=k+1:=⟨m-1,by omega⟩
   rw[Y0A,if_neg Om,l08 Om];simp
 | succ k ih =>
   intro i m acc h1 h2 h3 h4;obtain⟨m,rfl⟩ :∃k,m=k+1:=⟨m-1,by omega⟩
   by_cases hi:i<l.length
   · have hx:=ho _ (l0E hi);have hc:=hx.cnt;have hb :∀m∈(l[i]).2.2.map mbT,m.length≤4200:=by
      intro m hm;obtain⟨a,ha,rfl⟩:=List.mem_map.1 hm;exact mb_len (hx.mem a ha)
     have hla :∀m∈(l[i]).2.2.map mbT,∃x c,m=x++[c]∧c≠32:=by
      intro m hm;obtain⟨a,ha,rfl⟩:=List.mem_map.1 hm;exact mb_last (hx.mem a ha)
     have hj:=jn_b 4200 _ hb;rw[map_len] at hj;have h5:(l[i]).2.2.length*(4200+2)≤60*4202:=l0G _ hc;have hp:=ph_len hx.grp.1 hx.grp.2;have hL2:Y0P l[i] FU [] 0=some ((l[i]).2.2.map mbT):=by
      have:=print_L2 l[i] hx (l[i]).2.2.length 0 FU [] Om (FU_gt Om) Om Sm;rw[l0l,l07] at this;exact this
     rw[Y0A,if_pos Om,idx_nat,List.getElem?_eq_getElem hi,bsome,hL2,bsome];unfold Y0c;rw[if_pos ⟨by rw[map_len];omega,by omega⟩,bsome];have hit:=it_len hx;have hg:(if (l[i]).2.1=true then(Y2l (l[i]).1).bind fun s45=>(cat s45 [58,32]).bind fun s47=>(cat s47 (jn [44,32] ((l[i]).2.2.map mbT))).bind fun s48=>(Y0J s48 [32]).bind fun s49=>(cat s49 [59]).bind fun s51=>some s51 else some (jn [44,32] ((l[i]).2.2.map mbT)))=some (itT l[i]):=by
      unfold itT at hit ⊢;split
      · rename_i hgr;rw[if_pos hgr] at hit;rw[phrase_eq _ (by have:=hx.grp.1;omega) hx.grp.2,bsome,cat_ok (by simp;omega),bsome,cat_ok (by simp;omega),bsome,grp_trim _ _ hp (by rw[map_len];exact hc) hb hla,bsome,cat_ok (by simp at hit ⊢;omega),bsome]
      rfl
     rw[hg,bsome,app_ok (by simp;omega),bsome,chk_succ Om,bsome,ih (i+1) m _ Om Om Om (by simp;omega),l09 hi,l0f,l0c];rfl
   rw[Y0A,if_neg Om,l08 Om];simp
theorem list_ok :∀(l:List Itm) (i:Nat),(listF i l).1=0→(∀x∈l,x.2.2.length≤60)→∀x∈l,OkI x
 | y :: l,i,h,hc,x,hx=>by
   rw[listF] at h;split at h
   · rename_i h1;rcases List.mem_cons.1 hx with rfl|hx
     · unfold itemF at h1;split at h1
       · rename_i hd;split at h1
         · cases h1
         rename_i hb;refine⟨disp_ok hd,memF_ok h1,hc _ Sm,fun hg=>?_⟩;unfold badI at hb;rw[hg] at hb;by_cases h9:x.2.2.length=1
         · exact h9
         simp [h9] at hb
       rename_i hd;exact absurd h1 hd
     exact list_ok l (i+1) h (fun z hz=>hc z (by simp [hz])) x hx
   rename_i h1;exact absurd h h1
theorem sumN_mem :∀{l:List Itm} {x:Itm},x∈l→x.2.2.length≤sumN l
 | y::l,x,h=>by
   have e:sumN (y::l)=y.2.2.length+sumN l:=by unfold sumN;rw [l0f,List.sum_cons]
   rw[e];rcases List.mem_cons.1 h with rfl|h
   · omega
   have:=sumN_mem h;omega
theorem items_ok {l:List Itm}(hb:BigL l)(h:(itemsF l).1=0):l.length≤60∧(∀x∈l,OkI x)∧itemsF l=(0,0):=by
 unfold itemsF at h ⊢;split at h
 · cases h
 rename_i hn;have h1:l.length≤60:=by omega
 have hs:sumW l=((0+sumN l:Nat):Int):=sumW_go 140737488355328 l 0 (fun x hx=>(hb.2 x hx).2.1) Om;have h2:sumN l≤60:=by omega
 refine⟨h1,list_ok l 0 h (fun x hx=>l0N (sumN_mem hx) h2),?_⟩;rw[if_neg hn];have :∀(l:List Itm) (i:Nat),(listF i l).1=0→listF i l=(0,0):=by
  intro l;induction l with
  | nil=>intro i _;rfl
  | cons x l ih =>
    intro i h;rw[listF] at h ⊢;split at h
    · rename_i h1;rw [if_pos h1];exact ih _ h
    rename_i h1;exact absurd h h1
 exact this l 0 h
end Go.Ph.Ad
end
