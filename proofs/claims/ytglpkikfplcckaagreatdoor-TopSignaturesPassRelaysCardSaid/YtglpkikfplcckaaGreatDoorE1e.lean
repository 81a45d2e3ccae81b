/-
  Tct8, Qp, Fd, Th, Sa, Sp, Sb, Sc, Sd: own texts of this repository (wip/tpl, wip/plans), merged and shaken by wip/tools/pack.py.
-/
import Derived.KernelRfl
import Derived.Test.YtglpkikfplcckaaGreatDoorE1d
set_option maxRecDepth 100000
set_option linter.unusedVariables false
set_option linter.unusedSimpArgs false
section
namespace Go.Proofs.YtglpkikfplcckaaGreatDoor
open Go Go.RowKit Go.Ph Go.Ph.Pl Go.Ph.Pf
set_option maxHeartbeats 4000000 in
theorem custody_Check_ct {p0 : (List (Ls × Ls) × Ls)} {p1 : List (Ls × Int)} {vp0_0 : Value} {vp0_1 : Value} {vp1 : Value} {r : (Int × Bool × (Int × Int))} (h : custody_Check p0 p1 = some r) : Ct Tryz.prog 10 [Value.agg #[vp0_0, vp0_1], vp1] (fun M => GlF (fun w => ∃ m, w.cell? ⟨1, 0, none⟩ = some (.int .i64 m)) M ∧ GlF (fun w => Lib.TabIs Tryz.prog w "internal/strconv.uint64pow10" .u64 Lib.pow10Tab) M ∧ SlS M 2 xenc37 vp0_0 p0.1 ∧ Sl M encB vp0_1 p0.2 ∧ SlS M 2 xenc42 vp1 p1) (fun v M => v = Value.tuple #[I r.1, Value.bool r.2.1, Value.agg #[I r.2.2.1, I r.2.2.2]]) := by
 refine Ct.of Tryz.func10 (enters Tryz.func10 Kr G) G G G ?_;intro w0 M0 H hp;obtain⟨gM,hg_pow10,hp0_0,hp0_1,hp1⟩:=hp;unfold custody_Check at h;refine SQ (RG (q0M [_,_] H G G (q00 G) G ?_));intro bk2 w H;refine q0M [_] H G (hp1).one.cells (q00 G) G ?_;intro bk3 w H;refine AS G G (AS G G (q0d [_,_] H Tz29 G (q00 G) G ?_));intro bk6 w H;refine NL (TN (SQ (SQ ?_)));obtain⟨⟨n1,n2⟩,hx3,h⟩:=bnd h;try dsimp only at h
 refine RG (ST (q0f H G Km Ta25 Ts25 Kf) G ?_);refine q03 H (message_Validate_ct hx3) G ⟨hp0_0,hp0_1⟩ (q00 G) G ?_;intro v16 M w H hle hR;replace gM:=gM.mono hle;replace hg_pow10:=hg_pow10.mono hle;replace hp0_0:=hp0_0.mono hle;replace hp0_1:=hp0_1.mono hle;replace hp1:=hp1.mono hle;try dsimp only at hR
 obtain rfl:=hR;refine q0d [_,_] H Tz29 G (q00 G) G ?_;intro bk7 w H;refine q04 [_,_] H G G G Ku Ts29 G Kf Kf (q00 G) ?_;intro w H;refine NL (TN (SQ ?_));obtain⟨b4,hx5,h⟩:=bnd h;refine RG (ST (q0f H G Km Ta29 Ts29 Kf) G ?_);refine q03 H (Y01 hx5) G trivial (q00 G) G ?_;intro v18 M w H hle hR;replace gM:=gM.mono hle;replace hg_pow10:=hg_pow10.mono hle;replace hp0_0:=hp0_0.mono hle;replace hp0_1:=hp0_1.mono hle;replace hp1:=hp1.mono hle;obtain rfl:=hR;refine NL (TN ?_);refine q0b G (fun hk6=>?_) (fun hk6=>?_)
 ·
  subst hk6;rw[if_pos rfl] at h;refine SQ (q0H (m:=4) G G H ?_);intro w H;refine TK 1 G (fun _=>q0N G) G (TK 2 G (fun _=>q0N G) G (q0a (fuel:=0) [0,3] G Kr (ST (q0f H G Km Ta29 Ts29 Kf) G ?_)));refine q04 [_,_] H G G G Ku Ts29 G Kf Kf (q00 G) ?_;intro w H;refine NA (q08 Kr (TN (RT ?_)));obtain rfl:=oI h;exact q1j G G G ⟨_,G,H.loadAgg Km Ta29 Ts29 Kf⟩ H.ext G
 subst hk6;rw[if_neg l00] at h;refine SK (TN (SQ (SQ ?_)));obtain⟨⟨n7,n8⟩,hx9,h⟩:=bnd h;try dsimp only at h
 refine RG (ST (XL H Tryz.isAgg35) G ?_);refine q03 H (sign_Keys_ct hx9) G (hp1) (q00 G) G ?_;intro v21 M w H hle hR;replace gM:=gM.mono hle;replace hg_pow10:=hg_pow10.mono hle;replace hp0_0:=hp0_0.mono hle;replace hp0_1:=hp0_1.mono hle;replace hp1:=hp1.mono hle;try dsimp only at hR
 obtain rfl:=hR;refine q0d [_,_] H Tz29 G (q00 G) G ?_;intro bk8 w H;refine q04 [_,_] H G G G Ku Ts29 G Kf Kf (q00 G) ?_;intro w H;refine NL (TN (SQ ?_));obtain⟨b10,hx11,h⟩:=bnd h;refine RG (ST (q0f H G Km Ta29 Ts29 Kf) G ?_);refine q03 H (Y01 hx11) G trivial (q00 G) G ?_;intro v23 M w H hle hR;replace gM:=gM.mono hle;replace hg_pow10:=hg_pow10.mono hle;replace hp0_0:=hp0_0.mono hle;replace hp0_1:=hp0_1.mono hle;replace hp1:=hp1.mono hle;obtain rfl:=hR;refine NL (TN ?_);refine q0b G (fun hk12=>?_) (fun hk12=>?_)
 ·
  subst hk12;rw[if_pos rfl] at h;refine SQ (q0H (m:=4) G G H ?_);intro w H;refine TK 1 G (fun _=>q0N G) G (TK 2 G (fun _=>q0N G) G (q0a (fuel:=0) [0,3] G Kr (ST (q0f H G Km Ta29 Ts29 Kf) G ?_)));refine q04 [_,_] H G G G Ku Ts29 G Kf Kf (q00 G) ?_;intro w H;refine NA (q08 Kr (TN (RT ?_)));obtain rfl:=oI h;exact q1j G G G ⟨_,G,H.loadAgg Km Ta29 Ts29 Kf⟩ H.ext G
 subst hk12;rw[if_neg l00] at h;refine SK (TN (SQ ?_));obtain⟨l13,hx14,h⟩:=bnd h;refine RG (ST (q0f H G Km Ta25 Ts25 Kf) G ?_);refine q03 H (custody_seals_ct hx14) G ⟨hp0_0,hp0_1⟩ (q00 G) G ?_;intro v26 M w H hle hR;replace gM:=gM.mono hle;replace hg_pow10:=hg_pow10.mono hle;replace hp0_0:=hp0_0.mono hle;replace hp0_1:=hp0_1.mono hle;replace hp1:=hp1.mono hle;have f26_0:=hR;refine q0d [_] H Tz27 G (q00 G) G ?_;intro bk9 w H;refine q0V [_] H G G (f26_0.one) Ku Kf Ts27 (by first|decide|(simp;done)|(simp;omega)) (q00 G) ?_;intro w H;refine NL (TN (SQ ?_));obtain⟨⟨s15,b16⟩,hx17,h⟩:=bnd h;try dsimp only at h
 refine RG (ST (q0f H G Km Ta25 Ts25 Kf) G ?_);refine q03 H (custody_body_ct hx17) G ⟨gM,hp0_0,hp0_1⟩ (q00 G) G ?_;intro v29 M w H hle hR;replace gM:=gM.mono hle;replace hg_pow10:=hg_pow10.mono hle;replace hp1:=hp1.mono hle;replace f26_0:=f26_0.mono hle;try dsimp only at hR
 obtain rfl:=hR;refine MV G G (ST (q0c G G) G (ST (q0c G G) G (q0d [_] H Tz9 G (q00 G) G ?_)));intro bk10 w H;refine q04 [_] H G G G Ku Ts9 G Kf Kf (q00 G) ?_;intro w H;refine AS G G (NL (TN (SQ (RG ?_))));obtain⟨M,hle,hb18,H⟩:=H.freezeVar (b:=bk9) Kv;replace gM:=gM.mono hle;replace hg_pow10:=hg_pow10.mono hle;replace hp1:=hp1.mono hle;replace f26_0:=f26_0.mono hle;obtain⟨M,hle,hb19,H⟩:=H.freezeVar (b:=bk3) Kv;replace gM:=gM.mono hle;replace hg_pow10:=hg_pow10.mono hle;replace hp1:=hp1.mono hle;replace f26_0:=f26_0.mono hle;replace hb18:=hb18.mono hle;obtain⟨M,hle,hb20,H⟩:=H.freezeVar (b:=bk10) Kv;replace gM:=gM.mono hle;replace hg_pow10:=hg_pow10.mono hle;replace hp1:=hp1.mono hle;replace f26_0:=f26_0.mono hle;replace hb18:=hb18.mono hle;replace hb19:=hb19.mono hle;refine ST (q1l G) G (AS G G (NL (TN (SQ (SQ (RG (ST (q0g H G (hb18.cell (j:=0) G) Ta27) G (ST (q0i Tu27 f26_0 G) G (MV G G (NL (TN ?_)))))))))));obtain⟨o21,e22,h⟩:=bnd h
 refine q0e (fun e w => ∃ (b23 : Bool) (M : Mem), e = [(6, ptr bk6 0), (9, ptr bk9 0), (11, Value.bool b23)] ∧ St w0 M0 M [.blk bk6 (.cells #[I 0, I 0] 29)] w ∧ GlF (fun w => ∃ m, w.cell? ⟨1, 0, none⟩ = some (.int .i64 m)) M ∧ GlF (fun w => Lib.TabIs Tryz.prog w "internal/strconv.uint64pow10" .u64 Lib.pow10Tab) M ∧ PtM M bk9 (.cells #[v26] 27) ∧ Sl M encS v26 l13 ∧ some b23 = some o21) [] ?_ ?_ (trivial)
 ·
  refine BL ?_
  refine q0y (fun m e w => ∃ (b24 : Bool) (n25 : Int) (M : Mem), e = [(6, ptr bk6 0), (9, ptr bk9 0), (11, Value.bool b24), (12, (Value.func (.func 28) #[] #[ptr bk9 0, ptr bk3 0, ptr bk10 0])), (33, v26), (34, I (l13.length : Int)), (35, I n25)] ∧ St w0 M0 M [.blk bk6 (.cells #[I 0, I 0] 29)] w ∧ GlF (fun w => ∃ m, w.cell? ⟨1, 0, none⟩ = some (.int .i64 m)) M ∧ GlF (fun w => Lib.TabIs Tryz.prog w "internal/strconv.uint64pow10" .u64 Lib.pow10Tab) M ∧ PtM M bk9 (.cells #[v26] 27) ∧ Sl M encS v26 l13 ∧ PtM M bk3 (.cells #[vp1] 35) ∧ SlS M 2 xenc42 vp1 p1 ∧ PtM M bk10 (.cells #[S s15] 9) ∧ custody_Check_L1 p1 l13 s15 m b24 n25 = some o21) FU [(6, _), (9, _), (11, _), (12, _), (33, _), (34, _), (35, _)] ⟨rfl, rfl, rfl, rfl, rfl, rfl, rfl, trivial⟩ ⟨_, _, _, rfl, (H.pick (L' := [.blk bk6 (.cells #[I 0, I 0] 29)]) Kp), gM, hg_pow10, hb18, f26_0, hb19, hp1, hb20, e22⟩ ?_
  rintro m26 e w ⟨b24,n25,M,rfl,H,gM,hg_pow10,hb18,f26_0,hb19,hp1,hb20,e22⟩;rcases m26 with _|m26
  · rw[custody_Check_L1] at e22;cases e22
  rw[custody_Check_L1] at e22;refine SQ (RG (ST (q0v G G) G (NL (TN (SQ ?_)))));refine CB (p:=n25<(l13.length:Int)) G (fun hk27=>?_) fun hk27=>?_
  ·
   rw[if_pos hk27] at e22;refine SK (TN (SQ (BL (SQ ?_))));obtain⟨a28,hxa28,e22⟩:=bnd e22;obtain⟨bk38,o38,ha38,hc38⟩:=f26_0.atC hxa28;refine RG (MV G G (ST (q0p ha38 Tu27 Ts9 G G) G (ST (q0g H G hc38 Ta9) G (AS G G (AS G G (NL (TN ?_)))))));obtain⟨o29,e30,e22⟩:=bnd e22
   refine q0e (fun e w => ∃ (b31 : Bool) (M : Mem), e = [(6, ptr bk6 0), (9, ptr bk9 0), (11, Value.bool b31), (12, (Value.func (.func 28) #[] #[ptr bk9 0, ptr bk3 0, ptr bk10 0])), (33, v26), (34, I (l13.length : Int)), (35, I n25)] ∧ St w0 M0 M [.blk bk6 (.cells #[I 0, I 0] 29)] w ∧ GlF (fun w => ∃ m, w.cell? ⟨1, 0, none⟩ = some (.int .i64 m)) M ∧ GlF (fun w => Lib.TabIs Tryz.prog w "internal/strconv.uint64pow10" .u64 Lib.pow10Tab) M ∧ PtM M bk9 (.cells #[v26] 27) ∧ Sl M encS v26 l13 ∧ PtM M bk3 (.cells #[vp1] 35) ∧ SlS M 2 xenc42 vp1 p1 ∧ PtM M bk10 (.cells #[S s15] 9) ∧ some b31 = some o29) [] ?_ ?_ (trivial)
   ·
    refine RG (MV G G (MV G G ?_));rcases b24 with _|_
    ·
     rw[if_neg l00] at e30;refine q05 4 G G (PF G G G (AS G G (NL ?_)));exact MN ⟨_,_,G,H,gM,hg_pow10,hb18,f26_0,hb19,hp1,hb20,e30⟩
    rw[if_pos rfl] at e30;obtain⟨b32,hx33,e30⟩:=bnd e30;refine SG (q01 G) G G G (SG (q01 G) G G G (SG (q01 G) G G G (q1h (vs:=[I n25,S a28]) (cap:=[ptr bk9 0,ptr bk3 0,ptr bk10 0]) H (custody_Check_1_ct hx33) G G ⟨gM,hg_pow10,hb18,f26_0,hb19,hp1,hb20⟩ (q06 G G G) G ?_)));intro v45 M w H hle hR;replace gM:=gM.mono hle;replace hg_pow10:=hg_pow10.mono hle;replace f26_0:=f26_0.mono hle;replace hb18:=hb18.mono hle;replace hp1:=hp1.mono hle;replace hb19:=hb19.mono hle;replace hb20:=hb20.mono hle;obtain rfl:=hR;refine PT G G G (AS G G (NL ?_));exact MN ⟨_,_,G,H,gM,hg_pow10,hb18,f26_0,hb19,hp1,hb20,e30⟩
   rintro e w ⟨b31,M,rfl,H,gM,hg_pow10,hb18,f26_0,hb19,hp1,hb20,q34⟩;obtain rfl:=oI q34;refine IB (TN ?_);obtain⟨n35,hxn35,e22⟩:=bnd e22;refine RG (ST (q0l G G hxn35) G (MV G G (NL ?_)));exact AG m26 ⟨_,_,_,G,H,gM,hg_pow10,hb18,f26_0,hb19,hp1,hb20,e22⟩ (l07 _)
  rw[if_neg hk27] at e22;refine q0x (q07 (q07 (q0k ?_)));exact MN ⟨_,_,G,H,gM,hg_pow10,hb18,f26_0,e22⟩
 rintro e w ⟨b23,M,rfl,H,gM,hg_pow10,hb18,f26_0,q36⟩;obtain rfl:=oI q36;refine TN (SQ ?_);obtain⟨o37,e38,h⟩:=bnd h
 refine q0e (fun e w => ∃ (n39 : Int) (b40 : Bool) (n41 : Int) (n42 : Int) (M : Mem), e = [(4, I n39), (5, Value.bool b40), (6, ptr bk6 0)] ∧ St w0 M0 M [.blk bk6 (.cells #[I n41, I n42] 29)] w ∧ GlF (fun w => ∃ m, w.cell? ⟨1, 0, none⟩ = some (.int .i64 m)) M ∧ GlF (fun w => Lib.TabIs Tryz.prog w "internal/strconv.uint64pow10" .u64 Lib.pow10Tab) M ∧ some (n39, b40, n41, n42) = some o37) [] ?_ ?_ (trivial)
 ·
  refine q0H (m:=12) G G H ?_;intro w H;refine TK 2 G (fun _=>q01 G) G (TK 3 G (fun _=>q01 G) G ?_);rcases b23 with _|_
  ·
   rw[if_neg l00] at e38;obtain⟨⟨n43,n44⟩,hx45,e38⟩:=bnd e38;try dsimp only at e38
   refine q1d (i:=0) (j:=4) (k:=8) Kr G G G ?_ ?_ ?_
   ·
    refine ST (q0g H G (hb18.cell (j:=0) G) Ta27) G (NA ?_);refine q1d (i:=1) (j:=4) (k:=8) Kr G G G ?_ ?_ ?_
    ·
     refine ST (q0i Tu27 f26_0 G) G (NA ?_);refine q0t (i:=4) (j:=8) Kr G G ?_ ?_
     ·
      refine SG (q0g H G (hb18.cell (j:=0) G) Ta27) G G G (NA ?_);refine q0t (i:=5) (j:=8) Kr G G ?_ ?_
      ·
       refine SG (q0i Tu27 f26_0 G) G G G (NA (q0F (i:=6) G Kr Kr Kr (fun _=>q0j G G) (q06 G G G) G G (fun _ _=>G) (TK 7 G (fun _=>q0m G G) G (q0a (fuel:=0) [8,9,10,11] G Kr (q03 H (Y00 hx45) G trivial (q00 G) G ?_)))));intro v56 M w H hle hR;replace gM:=gM.mono hle;replace hg_pow10:=hg_pow10.mono hle;try dsimp only at hR
       obtain rfl:=hR;refine AS G G (AS G G (q04 [_,_] H G G G Ku Ts29 G Kf Kf (q00 G) ?_));intro w H;refine NA (q08 Kr ?_);exact MN ⟨_,_,_,_,_,G,H,gM,hg_pow10,e38⟩
      refine q03 H (Y00 hx45) G trivial (q00 G) G ?_;intro v56 M w H hle hR;replace gM:=gM.mono hle;replace hg_pow10:=hg_pow10.mono hle;replace f26_0:=f26_0.mono hle;try dsimp only at hR
      obtain rfl:=hR;refine NA (TK 9 G (fun _=>q0N G) G (q0a (fuel:=0) [5,6,7,10,11] G Kr (SG (q0i Tu27 f26_0 G) G G G (SG (q0j G G) G G G (PF G G G (AS G G (q04 [_,_] H G G G Ku Ts29 G Kf Kf (q00 G) ?_)))))));intro w H;refine NA (q08 Kr ?_);exact MN ⟨_,_,_,_,_,G,H,gM,hg_pow10,e38⟩
     refine q03 H (Y00 hx45) G trivial (q00 G) G ?_;intro v56 M w H hle hR;replace gM:=gM.mono hle;replace hg_pow10:=hg_pow10.mono hle;replace f26_0:=f26_0.mono hle;replace hb18:=hb18.mono hle;try dsimp only at hR
     obtain rfl:=hR;refine NA (TK 9 G (fun _=>q0N G) G (q0a (fuel:=0) [4,5,6,7,10,11] G Kr (SG (q0g H G (hb18.cell (j:=0) G) Ta27) G G G (SG (q0i Tu27 f26_0 G) G G G (SG (q0j G G) G G G (PF G G G (AS G G (q04 [_,_] H G G G Ku Ts29 G Kf Kf (q00 G) ?_))))))));intro w H;refine NA (q08 Kr ?_);exact MN ⟨_,_,_,_,_,G,H,gM,hg_pow10,e38⟩
    ·
     refine SG (q0g H G (hb18.cell (j:=0) G) Ta27) G G G (NA ?_);refine q1d (i:=1) (j:=5) (k:=8) Kr G G G ?_ ?_ ?_
     ·
      refine ST (q0i Tu27 f26_0 G) G (NA ?_);refine q0t (i:=5) (j:=8) Kr G G ?_ ?_
      ·
       refine SG (q0i Tu27 f26_0 G) G G G (NA (q0F (i:=6) G Kr Kr Kr (fun _=>q0j G G) (q06 G G G) G G (fun _ _=>G) (TK 7 G (fun _=>q0m G G) G (q0a (fuel:=0) [8,9,10,11] G Kr (q03 H (Y00 hx45) G trivial (q00 G) G ?_)))));intro v56 M w H hle hR;replace gM:=gM.mono hle;replace hg_pow10:=hg_pow10.mono hle;try dsimp only at hR
       obtain rfl:=hR;refine AS G G (AS G G (q04 [_,_] H G G G Ku Ts29 G Kf Kf (q00 G) ?_));intro w H;refine NA (q08 Kr ?_);exact MN ⟨_,_,_,_,_,G,H,gM,hg_pow10,e38⟩
      refine q03 H (Y00 hx45) G trivial (q00 G) G ?_;intro v56 M w H hle hR;replace gM:=gM.mono hle;replace hg_pow10:=hg_pow10.mono hle;replace f26_0:=f26_0.mono hle;try dsimp only at hR
      obtain rfl:=hR;refine NA (TK 9 G (fun _=>q0N G) G (q0a (fuel:=0) [5,6,7,10,11] G Kr (SG (q0i Tu27 f26_0 G) G G G (SG (q0j G G) G G G (PF G G G (AS G G (q04 [_,_] H G G G Ku Ts29 G Kf Kf (q00 G) ?_)))))));intro w H;refine NA (q08 Kr ?_);exact MN ⟨_,_,_,_,_,G,H,gM,hg_pow10,e38⟩
     ·
      refine SG (q0i Tu27 f26_0 G) G G G (NA (q0F (i:=6) G Kr Kr Kr (fun _=>q0j G G) (q06 G G G) G G (fun _ _=>G) (TK 7 G (fun _=>q0m G G) G ?_)));refine q0t (i:=1) (j:=8) Kr G G ?_ ?_
      ·
       refine ST (q0i Tu27 f26_0 G) G (NA (q0a (fuel:=0) [8,9,10,11] G Kr (q03 H (Y00 hx45) G trivial (q00 G) G ?_)));intro v56 M w H hle hR;replace gM:=gM.mono hle;replace hg_pow10:=hg_pow10.mono hle;try dsimp only at hR
       obtain rfl:=hR;refine AS G G (AS G G (q04 [_,_] H G G G Ku Ts29 G Kf Kf (q00 G) ?_));intro w H;refine NA (q08 Kr ?_);exact MN ⟨_,_,_,_,_,G,H,gM,hg_pow10,e38⟩
      refine q03 H (Y00 hx45) G trivial (q00 G) G ?_;intro v56 M w H hle hR;replace gM:=gM.mono hle;replace hg_pow10:=hg_pow10.mono hle;replace f26_0:=f26_0.mono hle;try dsimp only at hR
      obtain rfl:=hR;refine NA (q0a (fuel:=0) [1,9,10,11] G Kr (ST (q0i Tu27 f26_0 G) G (AS G G (AS G G (q04 [_,_] H G G G Ku Ts29 G Kf Kf (q00 G) ?_)))));intro w H;refine NA (q08 Kr ?_);exact MN ⟨_,_,_,_,_,G,H,gM,hg_pow10,e38⟩
     refine q03 H (Y00 hx45) G trivial (q00 G) G ?_;intro v56 M w H hle hR;replace gM:=gM.mono hle;replace hg_pow10:=hg_pow10.mono hle;replace f26_0:=f26_0.mono hle;try dsimp only at hR
     obtain rfl:=hR;refine NA ?_;refine q0t (i:=1) (j:=5) Kr G G ?_ ?_
     ·
      refine ST (q0i Tu27 f26_0 G) G (NA (TK 9 G (fun _=>q0N G) G (q0a (fuel:=0) [5,6,7,10,11] G Kr (SG (q0i Tu27 f26_0 G) G G G (SG (q0j G G) G G G (PF G G G (AS G G (q04 [_,_] H G G G Ku Ts29 G Kf Kf (q00 G) ?_))))))));intro w H;refine NA (q08 Kr ?_);exact MN ⟨_,_,_,_,_,G,H,gM,hg_pow10,e38⟩
     refine SG (q0i Tu27 f26_0 G) G G G (NA (q0F (i:=6) G Kr Kr Kr (fun _=>q0j G G) (q06 G G G) G G (fun _ _=>G) (TK 7 G (fun _=>q0m G G) G (q0a (fuel:=0) [1,9,10,11] G Kr (ST (q0i Tu27 f26_0 G) G (AS G G (AS G G (q04 [_,_] H G G G Ku Ts29 G Kf Kf (q00 G) ?_))))))));intro w H;refine NA (q08 Kr ?_);exact MN ⟨_,_,_,_,_,G,H,gM,hg_pow10,e38⟩
    refine q03 H (Y00 hx45) G trivial (q00 G) G ?_;intro v56 M w H hle hR;replace gM:=gM.mono hle;replace hg_pow10:=hg_pow10.mono hle;replace f26_0:=f26_0.mono hle;replace hb18:=hb18.mono hle;try dsimp only at hR
    obtain rfl:=hR;refine NA ?_;refine q0t (i:=1) (j:=4) Kr G G ?_ ?_
    ·
     refine ST (q0i Tu27 f26_0 G) G (NA (TK 9 G (fun _=>q0N G) G (q0a (fuel:=0) [4,5,6,7,10,11] G Kr (SG (q0g H G (hb18.cell (j:=0) G) Ta27) G G G (SG (q0i Tu27 f26_0 G) G G G (SG (q0j G G) G G G (PF G G G (AS G G (q04 [_,_] H G G G Ku Ts29 G Kf Kf (q00 G) ?_)))))))));intro w H;refine NA (q08 Kr ?_);exact MN ⟨_,_,_,_,_,G,H,gM,hg_pow10,e38⟩
    refine SG (q0g H G (hb18.cell (j:=0) G) Ta27) G G G (NA ?_);refine q0t (i:=1) (j:=5) Kr G G ?_ ?_
    ·
     refine ST (q0i Tu27 f26_0 G) G (NA (TK 9 G (fun _=>q0N G) G (q0a (fuel:=0) [5,6,7,10,11] G Kr (SG (q0i Tu27 f26_0 G) G G G (SG (q0j G G) G G G (PF G G G (AS G G (q04 [_,_] H G G G Ku Ts29 G Kf Kf (q00 G) ?_))))))));intro w H;refine NA (q08 Kr ?_);exact MN ⟨_,_,_,_,_,G,H,gM,hg_pow10,e38⟩
    refine SG (q0i Tu27 f26_0 G) G G G (NA (q0F (i:=6) G Kr Kr Kr (fun _=>q0j G G) (q06 G G G) G G (fun _ _=>G) (TK 7 G (fun _=>q0m G G) G (q0a (fuel:=0) [1,9,10,11] G Kr (ST (q0i Tu27 f26_0 G) G (AS G G (AS G G (q04 [_,_] H G G G Ku Ts29 G Kf Kf (q00 G) ?_))))))));intro w H;refine NA (q08 Kr ?_);exact MN ⟨_,_,_,_,_,G,H,gM,hg_pow10,e38⟩
   ·
    refine SG (q0g H G (hb18.cell (j:=0) G) Ta27) G G G (NA ?_);refine q1d (i:=0) (j:=5) (k:=8) Kr G G G ?_ ?_ ?_
    ·
     refine ST (q0g H G (hb18.cell (j:=0) G) Ta27) G (NA ?_);refine q1d (i:=1) (j:=5) (k:=8) Kr G G G ?_ ?_ ?_
     ·
      refine ST (q0i Tu27 f26_0 G) G (NA ?_);refine q0t (i:=5) (j:=8) Kr G G ?_ ?_
      ·
       refine SG (q0i Tu27 f26_0 G) G G G (NA (q0F (i:=6) G Kr Kr Kr (fun _=>q0j G G) (q06 G G G) G G (fun _ _=>G) (TK 7 G (fun _=>q0m G G) G (q0a (fuel:=0) [8,9,10,11] G Kr (q03 H (Y00 hx45) G trivial (q00 G) G ?_)))));intro v56 M w H hle hR;replace gM:=gM.mono hle;replace hg_pow10:=hg_pow10.mono hle;try dsimp only at hR
       obtain rfl:=hR;refine AS G G (AS G G (q04 [_,_] H G G G Ku Ts29 G Kf Kf (q00 G) ?_));intro w H;refine NA (q08 Kr ?_);exact MN ⟨_,_,_,_,_,G,H,gM,hg_pow10,e38⟩
      refine q03 H (Y00 hx45) G trivial (q00 G) G ?_;intro v56 M w H hle hR;replace gM:=gM.mono hle;replace hg_pow10:=hg_pow10.mono hle;replace f26_0:=f26_0.mono hle;try dsimp only at hR
      obtain rfl:=hR;refine NA (TK 9 G (fun _=>q0N G) G (q0a (fuel:=0) [5,6,7,10,11] G Kr (SG (q0i Tu27 f26_0 G) G G G (SG (q0j G G) G G G (PF G G G (AS G G (q04 [_,_] H G G G Ku Ts29 G Kf Kf (q00 G) ?_)))))));intro w H;refine NA (q08 Kr ?_);exact MN ⟨_,_,_,_,_,G,H,gM,hg_pow10,e38⟩
     ·
      refine SG (q0i Tu27 f26_0 G) G G G (NA (q0F (i:=6) G Kr Kr Kr (fun _=>q0j G G) (q06 G G G) G G (fun _ _=>G) (TK 7 G (fun _=>q0m G G) G ?_)));refine q0t (i:=1) (j:=8) Kr G G ?_ ?_
      ·
       refine ST (q0i Tu27 f26_0 G) G (NA (q0a (fuel:=0) [8,9,10,11] G Kr (q03 H (Y00 hx45) G trivial (q00 G) G ?_)));intro v56 M w H hle hR;replace gM:=gM.mono hle;replace hg_pow10:=hg_pow10.mono hle;try dsimp only at hR
       obtain rfl:=hR;refine AS G G (AS G G (q04 [_,_] H G G G Ku Ts29 G Kf Kf (q00 G) ?_));intro w H;refine NA (q08 Kr ?_);exact MN ⟨_,_,_,_,_,G,H,gM,hg_pow10,e38⟩
      refine q03 H (Y00 hx45) G trivial (q00 G) G ?_;intro v56 M w H hle hR;replace gM:=gM.mono hle;replace hg_pow10:=hg_pow10.mono hle;replace f26_0:=f26_0.mono hle;try dsimp only at hR
      obtain rfl:=hR;refine NA (q0a (fuel:=0) [1,9,10,11] G Kr (ST (q0i Tu27 f26_0 G) G (AS G G (AS G G (q04 [_,_] H G G G Ku Ts29 G Kf Kf (q00 G) ?_)))));intro w H;refine NA (q08 Kr ?_);exact MN ⟨_,_,_,_,_,G,H,gM,hg_pow10,e38⟩
     refine q03 H (Y00 hx45) G trivial (q00 G) G ?_;intro v56 M w H hle hR;replace gM:=gM.mono hle;replace hg_pow10:=hg_pow10.mono hle;replace f26_0:=f26_0.mono hle;try dsimp only at hR
     obtain rfl:=hR;refine NA ?_;refine q0t (i:=1) (j:=5) Kr G G ?_ ?_
     ·
      refine ST (q0i Tu27 f26_0 G) G (NA (TK 9 G (fun _=>q0N G) G (q0a (fuel:=0) [5,6,7,10,11] G Kr (SG (q0i Tu27 f26_0 G) G G G (SG (q0j G G) G G G (PF G G G (AS G G (q04 [_,_] H G G G Ku Ts29 G Kf Kf (q00 G) ?_))))))));intro w H;refine NA (q08 Kr ?_);exact MN ⟨_,_,_,_,_,G,H,gM,hg_pow10,e38⟩
     refine SG (q0i Tu27 f26_0 G) G G G (NA (q0F (i:=6) G Kr Kr Kr (fun _=>q0j G G) (q06 G G G) G G (fun _ _=>G) (TK 7 G (fun _=>q0m G G) G (q0a (fuel:=0) [1,9,10,11] G Kr (ST (q0i Tu27 f26_0 G) G (AS G G (AS G G (q04 [_,_] H G G G Ku Ts29 G Kf Kf (q00 G) ?_))))))));intro w H;refine NA (q08 Kr ?_);exact MN ⟨_,_,_,_,_,G,H,gM,hg_pow10,e38⟩
    ·
     refine SG (q0i Tu27 f26_0 G) G G G (NA (q0F (i:=6) G Kr Kr Kr (fun _=>q0j G G) (q06 G G G) G G (fun _ _=>G) (TK 7 G (fun _=>q0m G G) G ?_)));refine q0t (i:=0) (j:=8) Kr G G ?_ ?_
     ·
      refine ST (q0g H G (hb18.cell (j:=0) G) Ta27) G (NA ?_);refine q0t (i:=1) (j:=8) Kr G G ?_ ?_
      ·
       refine ST (q0i Tu27 f26_0 G) G (NA (q0a (fuel:=0) [8,9,10,11] G Kr (q03 H (Y00 hx45) G trivial (q00 G) G ?_)));intro v56 M w H hle hR;replace gM:=gM.mono hle;replace hg_pow10:=hg_pow10.mono hle;try dsimp only at hR
       obtain rfl:=hR;refine AS G G (AS G G (q04 [_,_] H G G G Ku Ts29 G Kf Kf (q00 G) ?_));intro w H;refine NA (q08 Kr ?_);exact MN ⟨_,_,_,_,_,G,H,gM,hg_pow10,e38⟩
      refine q03 H (Y00 hx45) G trivial (q00 G) G ?_;intro v56 M w H hle hR;replace gM:=gM.mono hle;replace hg_pow10:=hg_pow10.mono hle;replace f26_0:=f26_0.mono hle;try dsimp only at hR
      obtain rfl:=hR;refine NA (q0a (fuel:=0) [1,9,10,11] G Kr (ST (q0i Tu27 f26_0 G) G (AS G G (AS G G (q04 [_,_] H G G G Ku Ts29 G Kf Kf (q00 G) ?_)))));intro w H;refine NA (q08 Kr ?_);exact MN ⟨_,_,_,_,_,G,H,gM,hg_pow10,e38⟩
     refine q03 H (Y00 hx45) G trivial (q00 G) G ?_;intro v56 M w H hle hR;replace gM:=gM.mono hle;replace hg_pow10:=hg_pow10.mono hle;replace f26_0:=f26_0.mono hle;replace hb18:=hb18.mono hle;try dsimp only at hR
     obtain rfl:=hR;refine NA (q0a (fuel:=0) [0,1,9,10,11] G Kr (ST (q0g H G (hb18.cell (j:=0) G) Ta27) G (ST (q0i Tu27 f26_0 G) G (AS G G (AS G G (q04 [_,_] H G G G Ku Ts29 G Kf Kf (q00 G) ?_))))));intro w H;refine NA (q08 Kr ?_);exact MN ⟨_,_,_,_,_,G,H,gM,hg_pow10,e38⟩
    refine q03 H (Y00 hx45) G trivial (q00 G) G ?_;intro v56 M w H hle hR;replace gM:=gM.mono hle;replace hg_pow10:=hg_pow10.mono hle;replace f26_0:=f26_0.mono hle;replace hb18:=hb18.mono hle;try dsimp only at hR
    obtain rfl:=hR;refine NA ?_;refine q0t (i:=0) (j:=5) Kr G G ?_ ?_
    ·
     refine ST (q0g H G (hb18.cell (j:=0) G) Ta27) G (NA ?_);refine q0t (i:=1) (j:=5) Kr G G ?_ ?_
     ·
      refine ST (q0i Tu27 f26_0 G) G (NA (TK 9 G (fun _=>q0N G) G (q0a (fuel:=0) [5,6,7,10,11] G Kr (SG (q0i Tu27 f26_0 G) G G G (SG (q0j G G) G G G (PF G G G (AS G G (q04 [_,_] H G G G Ku Ts29 G Kf Kf (q00 G) ?_))))))));intro w H;refine NA (q08 Kr ?_);exact MN ⟨_,_,_,_,_,G,H,gM,hg_pow10,e38⟩
     refine SG (q0i Tu27 f26_0 G) G G G (NA (q0F (i:=6) G Kr Kr Kr (fun _=>q0j G G) (q06 G G G) G G (fun _ _=>G) (TK 7 G (fun _=>q0m G G) G (q0a (fuel:=0) [1,9,10,11] G Kr (ST (q0i Tu27 f26_0 G) G (AS G G (AS G G (q04 [_,_] H G G G Ku Ts29 G Kf Kf (q00 G) ?_))))))));intro w H;refine NA (q08 Kr ?_);exact MN ⟨_,_,_,_,_,G,H,gM,hg_pow10,e38⟩
    refine SG (q0i Tu27 f26_0 G) G G G (NA (q0F (i:=6) G Kr Kr Kr (fun _=>q0j G G) (q06 G G G) G G (fun _ _=>G) (TK 7 G (fun _=>q0m G G) G (q0a (fuel:=0) [0,1,9,10,11] G Kr (ST (q0g H G (hb18.cell (j:=0) G) Ta27) G (ST (q0i Tu27 f26_0 G) G (AS G G (AS G G (q04 [_,_] H G G G Ku Ts29 G Kf Kf (q00 G) ?_)))))))));intro w H;refine NA (q08 Kr ?_);exact MN ⟨_,_,_,_,_,G,H,gM,hg_pow10,e38⟩
   refine q03 H (Y00 hx45) G trivial (q00 G) G ?_;intro v56 M w H hle hR;replace gM:=gM.mono hle;replace hg_pow10:=hg_pow10.mono hle;replace f26_0:=f26_0.mono hle;replace hb18:=hb18.mono hle;try dsimp only at hR
   obtain rfl:=hR;refine NA ?_;refine q0t (i:=0) (j:=4) Kr G G ?_ ?_
   ·
    refine ST (q0g H G (hb18.cell (j:=0) G) Ta27) G (NA ?_);refine q0t (i:=1) (j:=4) Kr G G ?_ ?_
    ·
     refine ST (q0i Tu27 f26_0 G) G (NA (TK 9 G (fun _=>q0N G) G (q0a (fuel:=0) [4,5,6,7,10,11] G Kr (SG (q0g H G (hb18.cell (j:=0) G) Ta27) G G G (SG (q0i Tu27 f26_0 G) G G G (SG (q0j G G) G G G (PF G G G (AS G G (q04 [_,_] H G G G Ku Ts29 G Kf Kf (q00 G) ?_)))))))));intro w H;refine NA (q08 Kr ?_);exact MN ⟨_,_,_,_,_,G,H,gM,hg_pow10,e38⟩
    refine SG (q0g H G (hb18.cell (j:=0) G) Ta27) G G G (NA ?_);refine q0t (i:=1) (j:=5) Kr G G ?_ ?_
    ·
     refine ST (q0i Tu27 f26_0 G) G (NA (TK 9 G (fun _=>q0N G) G (q0a (fuel:=0) [5,6,7,10,11] G Kr (SG (q0i Tu27 f26_0 G) G G G (SG (q0j G G) G G G (PF G G G (AS G G (q04 [_,_] H G G G Ku Ts29 G Kf Kf (q00 G) ?_))))))));intro w H;refine NA (q08 Kr ?_);exact MN ⟨_,_,_,_,_,G,H,gM,hg_pow10,e38⟩
    refine SG (q0i Tu27 f26_0 G) G G G (NA (q0F (i:=6) G Kr Kr Kr (fun _=>q0j G G) (q06 G G G) G G (fun _ _=>G) (TK 7 G (fun _=>q0m G G) G (q0a (fuel:=0) [1,9,10,11] G Kr (ST (q0i Tu27 f26_0 G) G (AS G G (AS G G (q04 [_,_] H G G G Ku Ts29 G Kf Kf (q00 G) ?_))))))));intro w H;refine NA (q08 Kr ?_);exact MN ⟨_,_,_,_,_,G,H,gM,hg_pow10,e38⟩
   refine SG (q0g H G (hb18.cell (j:=0) G) Ta27) G G G (NA ?_);refine q0t (i:=0) (j:=5) Kr G G ?_ ?_
   ·
    refine ST (q0g H G (hb18.cell (j:=0) G) Ta27) G (NA ?_);refine q0t (i:=1) (j:=5) Kr G G ?_ ?_
    ·
     refine ST (q0i Tu27 f26_0 G) G (NA (TK 9 G (fun _=>q0N G) G (q0a (fuel:=0) [5,6,7,10,11] G Kr (SG (q0i Tu27 f26_0 G) G G G (SG (q0j G G) G G G (PF G G G (AS G G (q04 [_,_] H G G G Ku Ts29 G Kf Kf (q00 G) ?_))))))));intro w H;refine NA (q08 Kr ?_);exact MN ⟨_,_,_,_,_,G,H,gM,hg_pow10,e38⟩
    refine SG (q0i Tu27 f26_0 G) G G G (NA (q0F (i:=6) G Kr Kr Kr (fun _=>q0j G G) (q06 G G G) G G (fun _ _=>G) (TK 7 G (fun _=>q0m G G) G (q0a (fuel:=0) [1,9,10,11] G Kr (ST (q0i Tu27 f26_0 G) G (AS G G (AS G G (q04 [_,_] H G G G Ku Ts29 G Kf Kf (q00 G) ?_))))))));intro w H;refine NA (q08 Kr ?_);exact MN ⟨_,_,_,_,_,G,H,gM,hg_pow10,e38⟩
   refine SG (q0i Tu27 f26_0 G) G G G (NA (q0F (i:=6) G Kr Kr Kr (fun _=>q0j G G) (q06 G G G) G G (fun _ _=>G) (TK 7 G (fun _=>q0m G G) G (q0a (fuel:=0) [0,1,9,10,11] G Kr (ST (q0g H G (hb18.cell (j:=0) G) Ta27) G (ST (q0i Tu27 f26_0 G) G (AS G G (AS G G (q04 [_,_] H G G G Ku Ts29 G Kf Kf (q00 G) ?_)))))))));intro w H;refine NA (q08 Kr ?_);exact MN ⟨_,_,_,_,_,G,H,gM,hg_pow10,e38⟩
  rw[if_pos rfl] at e38;obtain⟨⟨n46,n47⟩,hx48,e38⟩:=bnd e38;try dsimp only at e38
  refine WA.takeN (i:=4) G Kr Kr Kr (wanted_g (b:=true) G G G) G G (fun _ _=>G) ?_;refine q1d (i:=0) (j:=5) (k:=8) Kr G G G ?_ ?_ ?_
  ·
   refine ST (q0g H G (hb18.cell (j:=0) G) Ta27) G (NA ?_);refine q1d (i:=1) (j:=5) (k:=8) Kr G G G ?_ ?_ ?_
   ·
    refine ST (q0i Tu27 f26_0 G) G (NA ?_);refine q0t (i:=5) (j:=8) Kr G G ?_ ?_
    ·
     refine GT G G G (NA (WA.takeN (i:=6) G Kr Kr Kr (wanted_g (b:=true) G G G) G G (fun _ _=>G) (TK 7 G (fun _=>q0q G G) G (q0a (fuel:=0) [8,9,10,11] G Kr (q03 H (Y00 hx48) G trivial (q00 G) G ?_)))));intro v56 M w H hle hR;replace gM:=gM.mono hle;replace hg_pow10:=hg_pow10.mono hle;try dsimp only at hR
     obtain rfl:=hR;refine AS G G (AS G G (q04 [_,_] H G G G Ku Ts29 G Kf Kf (q00 G) ?_));intro w H;refine NA (q08 Kr ?_);exact MN ⟨_,_,_,_,_,G,H,gM,hg_pow10,e38⟩
    refine q03 H (Y00 hx48) G trivial (q00 G) G ?_;intro v56 M w H hle hR;replace gM:=gM.mono hle;replace hg_pow10:=hg_pow10.mono hle;try dsimp only at hR
    obtain rfl:=hR;refine NA (TK 9 G (fun _=>q0N G) G (q0a (fuel:=0) [5,6,7,10,11] G Kr (GT G G G (GT G G G (PT G G G (AS G G (q04 [_,_] H G G G Ku Ts29 G Kf Kf (q00 G) ?_)))))));intro w H;refine NA (q08 Kr ?_);exact MN ⟨_,_,_,_,_,G,H,gM,hg_pow10,e38⟩
   ·
    refine GT G G G (NA (WA.takeN (i:=6) G Kr Kr Kr (wanted_g (b:=true) G G G) G G (fun _ _=>G) (TK 7 G (fun _=>q0q G G) G ?_)));refine q0t (i:=1) (j:=8) Kr G G ?_ ?_
    ·
     refine ST (q0i Tu27 f26_0 G) G (NA (q0a (fuel:=0) [8,9,10,11] G Kr (q03 H (Y00 hx48) G trivial (q00 G) G ?_)));intro v56 M w H hle hR;replace gM:=gM.mono hle;replace hg_pow10:=hg_pow10.mono hle;try dsimp only at hR
     obtain rfl:=hR;refine AS G G (AS G G (q04 [_,_] H G G G Ku Ts29 G Kf Kf (q00 G) ?_));intro w H;refine NA (q08 Kr ?_);exact MN ⟨_,_,_,_,_,G,H,gM,hg_pow10,e38⟩
    refine q03 H (Y00 hx48) G trivial (q00 G) G ?_;intro v56 M w H hle hR;replace gM:=gM.mono hle;replace hg_pow10:=hg_pow10.mono hle;replace f26_0:=f26_0.mono hle;try dsimp only at hR
    obtain rfl:=hR;refine NA (q0a (fuel:=0) [1,9,10,11] G Kr (ST (q0i Tu27 f26_0 G) G (AS G G (AS G G (q04 [_,_] H G G G Ku Ts29 G Kf Kf (q00 G) ?_)))));intro w H;refine NA (q08 Kr ?_);exact MN ⟨_,_,_,_,_,G,H,gM,hg_pow10,e38⟩
   refine q03 H (Y00 hx48) G trivial (q00 G) G ?_;intro v56 M w H hle hR;replace gM:=gM.mono hle;replace hg_pow10:=hg_pow10.mono hle;replace f26_0:=f26_0.mono hle;try dsimp only at hR
   obtain rfl:=hR;refine NA ?_;refine q0t (i:=1) (j:=5) Kr G G ?_ ?_
   ·
    refine ST (q0i Tu27 f26_0 G) G (NA (TK 9 G (fun _=>q0N G) G (q0a (fuel:=0) [5,6,7,10,11] G Kr (GT G G G (GT G G G (PT G G G (AS G G (q04 [_,_] H G G G Ku Ts29 G Kf Kf (q00 G) ?_))))))));intro w H;refine NA (q08 Kr ?_);exact MN ⟨_,_,_,_,_,G,H,gM,hg_pow10,e38⟩
   refine GT G G G (NA (WA.takeN (i:=6) G Kr Kr Kr (wanted_g (b:=true) G G G) G G (fun _ _=>G) (TK 7 G (fun _=>q0q G G) G (q0a (fuel:=0) [1,9,10,11] G Kr (ST (q0i Tu27 f26_0 G) G (AS G G (AS G G (q04 [_,_] H G G G Ku Ts29 G Kf Kf (q00 G) ?_))))))));intro w H;refine NA (q08 Kr ?_);exact MN ⟨_,_,_,_,_,G,H,gM,hg_pow10,e38⟩
  ·
   refine GT G G G (NA (WA.takeN (i:=6) G Kr Kr Kr (wanted_g (b:=true) G G G) G G (fun _ _=>G) (TK 7 G (fun _=>q0q G G) G ?_)));refine q0t (i:=0) (j:=8) Kr G G ?_ ?_
   ·
    refine ST (q0g H G (hb18.cell (j:=0) G) Ta27) G (NA ?_);refine q0t (i:=1) (j:=8) Kr G G ?_ ?_
    ·
     refine ST (q0i Tu27 f26_0 G) G (NA (q0a (fuel:=0) [8,9,10,11] G Kr (q03 H (Y00 hx48) G trivial (q00 G) G ?_)));intro v56 M w H hle hR;replace gM:=gM.mono hle;replace hg_pow10:=hg_pow10.mono hle;try dsimp only at hR
     obtain rfl:=hR;refine AS G G (AS G G (q04 [_,_] H G G G Ku Ts29 G Kf Kf (q00 G) ?_));intro w H;refine NA (q08 Kr ?_);exact MN ⟨_,_,_,_,_,G,H,gM,hg_pow10,e38⟩
    refine q03 H (Y00 hx48) G trivial (q00 G) G ?_;intro v56 M w H hle hR;replace gM:=gM.mono hle;replace hg_pow10:=hg_pow10.mono hle;replace f26_0:=f26_0.mono hle;try dsimp only at hR
    obtain rfl:=hR;refine NA (q0a (fuel:=0) [1,9,10,11] G Kr (ST (q0i Tu27 f26_0 G) G (AS G G (AS G G (q04 [_,_] H G G G Ku Ts29 G Kf Kf (q00 G) ?_)))));intro w H;refine NA (q08 Kr ?_);exact MN ⟨_,_,_,_,_,G,H,gM,hg_pow10,e38⟩
   refine q03 H (Y00 hx48) G trivial (q00 G) G ?_;intro v56 M w H hle hR;replace gM:=gM.mono hle;replace hg_pow10:=hg_pow10.mono hle;replace f26_0:=f26_0.mono hle;replace hb18:=hb18.mono hle;try dsimp only at hR
   obtain rfl:=hR;refine NA (q0a (fuel:=0) [0,1,9,10,11] G Kr (ST (q0g H G (hb18.cell (j:=0) G) Ta27) G (ST (q0i Tu27 f26_0 G) G (AS G G (AS G G (q04 [_,_] H G G G Ku Ts29 G Kf Kf (q00 G) ?_))))));intro w H;refine NA (q08 Kr ?_);exact MN ⟨_,_,_,_,_,G,H,gM,hg_pow10,e38⟩
  refine q03 H (Y00 hx48) G trivial (q00 G) G ?_;intro v56 M w H hle hR;replace gM:=gM.mono hle;replace hg_pow10:=hg_pow10.mono hle;replace f26_0:=f26_0.mono hle;replace hb18:=hb18.mono hle;try dsimp only at hR
  obtain rfl:=hR;refine NA ?_;refine q0t (i:=0) (j:=5) Kr G G ?_ ?_
  ·
   refine ST (q0g H G (hb18.cell (j:=0) G) Ta27) G (NA ?_);refine q0t (i:=1) (j:=5) Kr G G ?_ ?_
   ·
    refine ST (q0i Tu27 f26_0 G) G (NA (TK 9 G (fun _=>q0N G) G (q0a (fuel:=0) [5,6,7,10,11] G Kr (GT G G G (GT G G G (PT G G G (AS G G (q04 [_,_] H G G G Ku Ts29 G Kf Kf (q00 G) ?_))))))));intro w H;refine NA (q08 Kr ?_);exact MN ⟨_,_,_,_,_,G,H,gM,hg_pow10,e38⟩
   refine GT G G G (NA (WA.takeN (i:=6) G Kr Kr Kr (wanted_g (b:=true) G G G) G G (fun _ _=>G) (TK 7 G (fun _=>q0q G G) G (q0a (fuel:=0) [1,9,10,11] G Kr (ST (q0i Tu27 f26_0 G) G (AS G G (AS G G (q04 [_,_] H G G G Ku Ts29 G Kf Kf (q00 G) ?_))))))));intro w H;refine NA (q08 Kr ?_);exact MN ⟨_,_,_,_,_,G,H,gM,hg_pow10,e38⟩
  refine GT G G G (NA (WA.takeN (i:=6) G Kr Kr Kr (wanted_g (b:=true) G G G) G G (fun _ _=>G) (TK 7 G (fun _=>q0q G G) G (q0a (fuel:=0) [0,1,9,10,11] G Kr (ST (q0g H G (hb18.cell (j:=0) G) Ta27) G (ST (q0i Tu27 f26_0 G) G (AS G G (AS G G (q04 [_,_] H G G G Ku Ts29 G Kf Kf (q00 G) ?_)))))))));intro w H;refine NA (q08 Kr ?_);exact MN ⟨_,_,_,_,_,G,H,gM,hg_pow10,e38⟩
 rintro e w ⟨n39,b40,n41,n42,M,rfl,H,gM,hg_pow10,q49⟩;obtain rfl:=oI q49;try dsimp only at h
 refine TN (RT ?_);obtain rfl:=oI h;exact q1j G G G ⟨_,G,H.loadAgg Km Ta29 Ts29 Kf⟩ H.ext G
theorem sign_verdict_ct {p0:(List (Ls × Ls) × Ls)}{p1:Ls}{p2:List (Ls × Int)}{vp0_0:Value}{vp0_1:Value}{vp2:Value}{r:(Ls × Int)}(h:sign_verdict p0 p1 p2=some r):Ct Tryz.prog 33 [Value.agg #[vp0_0,vp0_1],S p1,vp2] (fun M=>GlF (fun w =>∃m,w.cell? ⟨1,0,none⟩=some (.int .i64 m)) M∧SlS M 2 xenc37 vp0_0 p0.1∧Sl M encB vp0_1 p0.2∧SlS M 2 xenc42 vp2 p2) (fun v M=>v=Value.agg #[S r.1,I r.2]):=by
 refine Ct.of Tryz.func33 (enters Tryz.func33 Kr G) G G G ?_;intro w0 M0 H hp;obtain⟨gM,hp0_0,hp0_1,hp2⟩:=hp;unfold sign_verdict at h;refine SQ (RG (q0M [_,_] H G G (q00 G) G ?_));intro bk3 w H;refine q0d [_,_] H Tz49 G (q00 G) G ?_;intro bk6 w H;refine NL (TN (SQ ?_));obtain⟨⟨l1,b2⟩,hx3,h⟩:=bnd h;try dsimp only at h
 refine RG (MV G G (q03 H (sign_Values_ct hx3) G (gM) (q00 G) G ?_));intro v14 M w H hle hR;replace gM:=gM.mono hle;replace hp0_0:=hp0_0.mono hle;replace hp0_1:=hp0_1.mono hle;replace hp2:=hp2.mono hle;try dsimp only at hR
 obtain⟨x14_0,rfl,f14_0⟩:=hR;refine MV G G (ST (q0c G G) G (ST (q0c G G) G (AS G G (AS G G (NL (TN (SQ (SQ ?_))))))));obtain⟨o4,e5,h⟩:=bnd h;refine q0e (fun e w =>∃(b6:Bool) (M:Mem),e=[(1,S p1),(2,vp2),(3,ptr bk3 0),(6,ptr bk6 0),(7,x14_0),(47,Value.bool b6)]∧St w0 M0 M [.blk bk3 (.cells #[vp0_0,vp0_1] 25), .blk bk6 (.cells #[S [],I 0] 49)] w∧GlF (fun w =>∃m,w.cell? ⟨1,0,none⟩=some (.int .i64 m)) M∧SlS M 2 xenc42 vp2 p2∧SlS M 2 xenc37 vp0_0 p0.1∧Sl M encB vp0_1 p0.2∧Sl M encS x14_0 l1∧some b6=some o4) [] ?_ ?_ (trivial)
 ·
  refine RG (MV G G (ST (q0o G) G (MV G G ?_)));rcases b2 with _|_
  ·
   rw[if_neg l00] at e5;refine q05 5 G G (PT G G G (MV G G (q05 6 G G (PT G G G (MV G G (q05 5 G G (PT G G G (MV G G (q05 5 G G (PT G G G (NL ?_)))))))))));exact MN ⟨_,_,G,(H.pick (L':=[.blk bk3 (.cells #[vp0_0,vp0_1] 25), .blk bk6 (.cells #[S [],I 0] 49)]) Kp),gM,hp2,hp0_0,hp0_1,f14_0,e5⟩
  rw[if_pos rfl] at e5;obtain⟨a7,hxa7,e5⟩:=bnd e5;obtain⟨bk21,o21,ha21,hc21⟩:=f14_0.atC hxa7;obtain⟨b8,hx9,e5⟩:=bnd e5;refine SG (q01 G) G G G (SG (q0p ha21 Tu27 Ts9 G G) G G G (SG (q0g H G hc21 Ta9) G G G (q03 H (Y06 hx9) G trivial (q06 G G G) G ?_)));intro v23 M w H hle hR;replace gM:=gM.mono hle;replace hp0_0:=hp0_0.mono hle;replace hp0_1:=hp0_1.mono hle;replace hp2:=hp2.mono hle;replace f14_0:=f14_0.mono hle;obtain rfl:=hR;refine SG (q0o G) G G G (PF G G G (MV G G ?_));rcases b8 with _|_
  ·
   rw[if_neg l00] at e5;refine q05 6 G G (PT G G G (MV G G (q05 5 G G (PT G G G (MV G G (q05 5 G G (PT G G G (NL ?_))))))));exact MN ⟨_,_,G,(H.pick (L':=[.blk bk3 (.cells #[vp0_0,vp0_1] 25), .blk bk6 (.cells #[S [],I 0] 49)]) Kp),gM,hp2,hp0_0,hp0_1,f14_0,e5⟩
  rw[if_pos rfl] at e5;obtain⟨a10,hxa10,e5⟩:=bnd e5;obtain⟨bk28,o28,ha28,hc28⟩:=f14_0.atC hxa10;obtain⟨l11,hx12,e5⟩:=bnd e5;obtain⟨b15,hx16,e5⟩:=bnd e5;refine SG (q01 G) G G G (SG (q0p ha28 Tu27 Ts9 G G) G G G (SG (q0g H G hc28 Ta9) G G G (q1m H (Y0B hx12) G (gM) (q06 G G G) G ?_)));intro v30 M w its H hle hR;replace gM:=gM.mono hle;replace hp0_0:=hp0_0.mono hle;replace hp0_1:=hp0_1.mono hle;replace hp2:=hp2.mono hle;replace f14_0:=f14_0.mono hle;obtain⟨v30,rfl,rfl⟩:=hR;simp only[l03,l04] at H;obtain⟨M,hle,hs14,H⟩:=H.freezeRow (v:=v30) (enc:=encS) (t:=9) Kv;replace gM:=gM.mono hle;replace hp0_0:=hp0_0.mono hle;replace hp0_1:=hp0_1.mono hle;replace hp2:=hp2.mono hle;replace f14_0:=f14_0.mono hle;refine q03 H (sign_named_ct hx16) G (hs14) (q06 G G G) G ?_;intro v31 M w H hle hR;replace gM:=gM.mono hle;replace hp0_0:=hp0_0.mono hle;replace hp0_1:=hp0_1.mono hle;replace hp2:=hp2.mono hle;replace f14_0:=f14_0.mono hle;obtain rfl:=hR;refine SG (q0o G) G G G (PF G G G (MV G G ?_));rcases b15 with _|_
  ·
   rw[if_neg l00] at e5;refine q05 5 G G (PT G G G (MV G G (q05 5 G G (PT G G G (NL ?_)))));exact MN ⟨_,_,G,(H.pick (L':=[.blk bk3 (.cells #[vp0_0,vp0_1] 25), .blk bk6 (.cells #[S [],I 0] 49)]) Kp),gM,hp2,hp0_0,hp0_1,f14_0,e5⟩
  rw[if_pos rfl] at e5;obtain⟨a17,hxa17,e5⟩:=bnd e5;obtain⟨bk36,o36,ha36,hc36⟩:=f14_0.atC hxa17;obtain⟨b18,hx19,e5⟩:=bnd e5;refine SG (q01 G) G G G (SG (q0p ha36 Tu27 Ts9 G G) G G G (SG (q0g H G hc36 Ta9) G G G (q03 H (sign_IsHex_ct hx19) G trivial (q06 G G G) G ?_)));intro v38 M w H hle hR;replace gM:=gM.mono hle;replace hp0_0:=hp0_0.mono hle;replace hp0_1:=hp0_1.mono hle;replace hp2:=hp2.mono hle;replace f14_0:=f14_0.mono hle;obtain rfl:=hR;refine SG (q0o G) G G G (PF G G G (MV G G ?_));rcases b18 with _|_
  ·
   rw[if_neg l00] at e5;refine q05 5 G G (PT G G G (NL ?_));exact MN ⟨_,_,G,(H.pick (L':=[.blk bk3 (.cells #[vp0_0,vp0_1] 25), .blk bk6 (.cells #[S [],I 0] 49)]) Kp),gM,hp2,hp0_0,hp0_1,f14_0,e5⟩
  rw[if_pos rfl] at e5;obtain⟨a20,hxa20,e5⟩:=bnd e5;obtain⟨bk43,o43,ha43,hc43⟩:=f14_0.atC hxa20;obtain⟨b21,hx22,e5⟩:=bnd e5;refine SG (q01 G) G G G (SG (q0p ha43 Tu27 Ts9 G G) G G G (SG (q0g H G hc43 Ta9) G G G (q03 H (sign_IsHex_ct hx22) G trivial (q06 G G G) G ?_)));intro v45 M w H hle hR;replace gM:=gM.mono hle;replace hp0_0:=hp0_0.mono hle;replace hp0_1:=hp0_1.mono hle;replace hp2:=hp2.mono hle;replace f14_0:=f14_0.mono hle;obtain rfl:=hR;refine SG (q0o G) G G G (PF G G G (NL ?_));exact MN ⟨_,_,G,(H.pick (L':=[.blk bk3 (.cells #[vp0_0,vp0_1] 25), .blk bk6 (.cells #[S [],I 0] 49)]) Kp),gM,hp2,hp0_0,hp0_1,f14_0,e5⟩
 rintro e w ⟨b6,M,rfl,H,gM,hp2,hp0_0,hp0_1,f14_0,q23⟩;obtain rfl:=oI q23;refine TN ?_;refine q0b G (fun hk24=>?_) (fun hk24=>?_)
 ·
  subst hk24;rw[if_pos rfl] at h;refine SQ (RG (ST (q0z [S [],I 4] Tu49 Tz49 (xplaces49 Tu49) G G) G (q04 [_,_] H G G G Ku Ts49 G Kf Kf (q00 G) ?_)));intro w H;refine NL (TN (RT ?_));obtain rfl:=oI h;exact q0h G ⟨_,G,H.loadAgg Km Ta49 Ts49 Kf⟩ H.ext G
 subst hk24;rw[if_neg l00] at h;refine SK (TN (SQ ?_));obtain⟨a25,hxa25,h⟩:=bnd h;obtain⟨bk52,o52,ha52,hc52⟩:=f14_0.atC hxa25;obtain⟨⟨n26,b27⟩,hx28,h⟩:=bnd h;try dsimp only at h
 refine RG (MV G G (MV G G (ST (q0p ha52 Tu27 Ts9 G G) G (ST (q0g H G hc52 Ta9) G (q03 H (sign_Key_ct hx28) G (hp2) (q00 G) G ?_)))));intro v54 M w H hle hR;replace gM:=gM.mono hle;replace f14_0:=f14_0.mono hle;replace hp0_0:=hp0_0.mono hle;replace hp0_1:=hp0_1.mono hle;try dsimp only at hR
 obtain rfl:=hR;refine MV G G (ST (q0c G G) G (ST (q0c G G) G (AS G G (AS G G (NL (TN (SQ (SQ (RG (MV G G (ST (q0o G) G (NL (TN ?_)))))))))))));refine q0b G (fun hk29=>?_) (fun hk29=>?_)
 ·
  replace hk29:b27=false:=by simpa using hk29
  subst hk29;rw[if_neg l00] at h;refine SQ ?_;obtain⟨a30,hxa30,h⟩:=bnd h;obtain⟨bk60,o60,ha60,hc60⟩:=f14_0.atC hxa30;refine RG (MV G G (ST (q0p ha60 Tu27 Ts9 G G) G (ST (q0g H G hc60 Ta9) G (ST (q0z [S a30,I 3] Tu49 Tz49 (xplaces49 Tu49) G G) G (q04 [_,_] H G G G Ku Ts49 G Kf Kf (q00 G) ?_)))));intro w H;refine NL (TN (RT ?_));obtain rfl:=oI h;exact q0h G ⟨_,G,H.loadAgg Km Ta49 Ts49 Kf⟩ H.ext G
 replace hk29:b27=true:=by simpa using hk29
 subst hk29;rw[if_pos rfl] at h;refine SK (TN (SQ (SQ ?_)));obtain⟨a31,hxa31,h⟩:=bnd h;obtain⟨bk66,o66,ha66,hc66⟩:=f14_0.atC hxa31;obtain⟨a32,hxa32,h⟩:=bnd h;obtain⟨bk70,o70,ha70,hc70⟩:=f14_0.atC hxa32;obtain⟨l33,hx34,h⟩:=bnd h;obtain⟨⟨s37,b38⟩,hx39,h⟩:=bnd h;try dsimp only at h
 refine q1f (fun e w =>∃  (M:Mem),e=[(1,S p1),(6,ptr bk6 0),(7,x14_0),(10,S s37)]∧St w0 M0 M [.blk bk6 (.cells #[S [],I 0] 49)] w∧GlF (fun w =>∃m,w.cell? ⟨1,0,none⟩=some (.int .i64 m)) M∧Sl M encS x14_0 l1) ?_ ?_
 ·
  refine q0H (m:=15) G G H ?_;intro w H;refine TK 1 G (fun _=>q01 G) G (TK 2 G (fun _=>q0p ha66 Tu27 Ts9 G G) G (TK 4 G (fun _=>q01 G) G (TK 5 G (fun _=>q01 G) G (TK 6 G (fun _=>q0p ha70 Tu27 Ts9 G G) G (q0Q (i:=7) [0,3] G Kr Kr Kr (q0g H G hc70 Ta9) (q00 G) G G (fun _ _=>G) ?_)))));refine q1d (i:=0) (j:=3) (k:=8) Kr G G G ?_ ?_ ?_
  ·
   refine ST (q0f H G Km Ta25 Ts25 Kf) G ?_;refine NA ?_;refine q0t (i:=3) (j:=8) Kr G G ?_ ?_
   ·
    refine ST (q0g H G hc66 Ta9) G (NA (q0a (fuel:=4) [8,9,10] G Kr (q1m H (Y0B hx34) G (gM) (q00 G) G ?_)));intro v72 M w its H hle hR;replace gM:=gM.mono hle;replace f14_0:=f14_0.mono hle;replace hp0_0:=hp0_0.mono hle;replace hp0_1:=hp0_1.mono hle;obtain⟨v72,rfl,rfl⟩:=hR;simp only[l03,l04] at H;obtain⟨M,hle,hs36,H⟩:=H.freezeRow (v:=v72) (enc:=encS) (t:=9) Kv;replace gM:=gM.mono hle;replace f14_0:=f14_0.mono hle;replace hp0_0:=hp0_0.mono hle;replace hp0_1:=hp0_1.mono hle;refine q03 H (sign_value_ct hx39) G ⟨gM,hp0_0,hp0_1,hs36⟩ (q00 G) G ?_;intro v73 M w H hle hR;replace gM:=gM.mono hle;replace f14_0:=f14_0.mono hle;try dsimp only at hR
    obtain rfl:=hR;refine MV G G (NA (TK 11 G (fun _=>q0c G G) G (TK 12 G (fun _=>q0c G G) G (q0a (fuel:=0) [13,14] G Kr (AS G G (AS G G (NA (q08 Kr ?_))))))));exact MP ⟨_,G,(H.pick (L':=[.blk bk6 (.cells #[S [],I 0] 49)]) Kp),gM,f14_0⟩
   refine q1m H (Y0B hx34) G (gM) (q00 G) G ?_;intro v72 M w its H hle hR;replace gM:=gM.mono hle;replace f14_0:=f14_0.mono hle;replace hp0_0:=hp0_0.mono hle;replace hp0_1:=hp0_1.mono hle;replace hc66:=hc66.mono hle;obtain⟨v72,rfl,rfl⟩:=hR;simp only[l03,l04] at H;refine NA (q0a (fuel:=4) [3,9,10] G Kr (ST (q0g H G hc66 Ta9) G ?_));obtain⟨M,hle,hs36,H⟩:=H.freezeRow (v:=v72) (enc:=encS) (t:=9) Kv;replace gM:=gM.mono hle;replace f14_0:=f14_0.mono hle;replace hp0_0:=hp0_0.mono hle;replace hp0_1:=hp0_1.mono hle;refine q03 H (sign_value_ct hx39) G ⟨gM,hp0_0,hp0_1,hs36⟩ (q00 G) G ?_;intro v73 M w H hle hR;replace gM:=gM.mono hle;replace f14_0:=f14_0.mono hle;try dsimp only at hR
   obtain rfl:=hR;refine MV G G (NA (TK 11 G (fun _=>q0c G G) G (TK 12 G (fun _=>q0c G G) G (q0a (fuel:=0) [13,14] G Kr (AS G G (AS G G (NA (q08 Kr ?_))))))));exact MP ⟨_,G,(H.pick (L':=[.blk bk6 (.cells #[S [],I 0] 49)]) Kp),gM,f14_0⟩
  ·
   refine ST (q0g H G hc66 Ta9) G (NA ?_);refine q0t (i:=0) (j:=8) Kr G G ?_ ?_
   ·
    refine ST (q0f H G Km Ta25 Ts25 Kf) G ?_;refine NA (q0a (fuel:=4) [8,9,10] G Kr (q1m H (Y0B hx34) G (gM) (q00 G) G ?_));intro v72 M w its H hle hR;replace gM:=gM.mono hle;replace f14_0:=f14_0.mono hle;replace hp0_0:=hp0_0.mono hle;replace hp0_1:=hp0_1.mono hle;obtain⟨v72,rfl,rfl⟩:=hR;simp only[l03,l04] at H;obtain⟨M,hle,hs36,H⟩:=H.freezeRow (v:=v72) (enc:=encS) (t:=9) Kv;replace gM:=gM.mono hle;replace f14_0:=f14_0.mono hle;replace hp0_0:=hp0_0.mono hle;replace hp0_1:=hp0_1.mono hle;refine q03 H (sign_value_ct hx39) G ⟨gM,hp0_0,hp0_1,hs36⟩ (q00 G) G ?_;intro v73 M w H hle hR;replace gM:=gM.mono hle;replace f14_0:=f14_0.mono hle;try dsimp only at hR
    obtain rfl:=hR;refine MV G G (NA (TK 11 G (fun _=>q0c G G) G (TK 12 G (fun _=>q0c G G) G (q0a (fuel:=0) [13,14] G Kr (AS G G (AS G G (NA (q08 Kr ?_))))))));exact MP ⟨_,G,(H.pick (L':=[.blk bk6 (.cells #[S [],I 0] 49)]) Kp),gM,f14_0⟩
   refine q1m H (Y0B hx34) G (gM) (q00 G) G ?_;intro v72 M w its H hle hR;replace gM:=gM.mono hle;replace f14_0:=f14_0.mono hle;replace hp0_0:=hp0_0.mono hle;replace hp0_1:=hp0_1.mono hle;obtain⟨v72,rfl,rfl⟩:=hR;simp only[l03,l04] at H;refine NA (q0a (fuel:=4) [0,9,10] G Kr (ST (q0f H G Km Ta25 Ts25 Kf) G ?_));obtain⟨M,hle,hs36,H⟩:=H.freezeRow (v:=v72) (enc:=encS) (t:=9) Kv;replace gM:=gM.mono hle;replace f14_0:=f14_0.mono hle;replace hp0_0:=hp0_0.mono hle;replace hp0_1:=hp0_1.mono hle;refine q03 H (sign_value_ct hx39) G ⟨gM,hp0_0,hp0_1,hs36⟩ (q00 G) G ?_;intro v73 M w H hle hR;replace gM:=gM.mono hle;replace f14_0:=f14_0.mono hle;try dsimp only at hR
   obtain rfl:=hR;refine MV G G (NA (TK 11 G (fun _=>q0c G G) G (TK 12 G (fun _=>q0c G G) G (q0a (fuel:=0) [13,14] G Kr (AS G G (AS G G (NA (q08 Kr ?_))))))));exact MP ⟨_,G,(H.pick (L':=[.blk bk6 (.cells #[S [],I 0] 49)]) Kp),gM,f14_0⟩
  refine q1m H (Y0B hx34) G (gM) (q00 G) G ?_;intro v72 M w its H hle hR;replace gM:=gM.mono hle;replace f14_0:=f14_0.mono hle;replace hp0_0:=hp0_0.mono hle;replace hp0_1:=hp0_1.mono hle;replace hc66:=hc66.mono hle;obtain⟨v72,rfl,rfl⟩:=hR;simp only[l03,l04] at H;refine NA (q0Q (i:=0) [3] G Kr Kr Kr (q0f H G Km Ta25 Ts25 Kf) (q00 G) G G (fun _ _=>G) ?_);refine q0a (fuel:=4) [3,9,10] G Kr (ST (q0g H G hc66 Ta9) G ?_);obtain⟨M,hle,hs36,H⟩:=H.freezeRow (v:=v72) (enc:=encS) (t:=9) Kv;replace gM:=gM.mono hle;replace f14_0:=f14_0.mono hle;replace hp0_0:=hp0_0.mono hle;replace hp0_1:=hp0_1.mono hle;refine q03 H (sign_value_ct hx39) G ⟨gM,hp0_0,hp0_1,hs36⟩ (q00 G) G ?_;intro v73 M w H hle hR;replace gM:=gM.mono hle;replace f14_0:=f14_0.mono hle;try dsimp only at hR
  obtain rfl:=hR;refine MV G G (NA (TK 11 G (fun _=>q0c G G) G (TK 12 G (fun _=>q0c G G) G (q0a (fuel:=0) [13,14] G Kr (AS G G (AS G G (NA (q08 Kr ?_))))))));exact MP ⟨_,G,(H.pick (L':=[.blk bk6 (.cells #[S [],I 0] 49)]) Kp),gM,f14_0⟩
 rintro e w ⟨M,rfl,H,gM,f14_0⟩;refine TN (SQ (RG (MV G G (MV G G (ST (q0n G G) G (NL (TN ?_)))))));refine q0b G (fun hk40=>?_) (fun hk40=>?_)
 ·
  replace hk40 :¬(s37=p1):=of_not_decide hk40;rw[if_neg hk40] at h;refine SQ ?_;obtain⟨a41,hxa41,h⟩:=bnd h;obtain⟨bk80,o80,ha80,hc80⟩:=f14_0.atC hxa41;refine RG (MV G G (ST (q0p ha80 Tu27 Ts9 G G) G (ST (q0g H G hc80 Ta9) G (ST (q0z [S a41,I 2] Tu49 Tz49 (xplaces49 Tu49) G G) G (q04 [_,_] H G G G Ku Ts49 G Kf Kf (q00 G) ?_)))));intro w H;refine NL (TN (RT ?_));obtain rfl:=oI h;exact q0h G ⟨_,G,H.loadAgg Km Ta49 Ts49 Kf⟩ H.ext G
 replace hk40:s37=p1:=of_not_decide' hk40;rw[if_pos hk40] at h;refine SK (TN (SQ ?_));obtain⟨a42,hxa42,h⟩:=bnd h;obtain⟨bk84,o84,ha84,hc84⟩:=f14_0.atC hxa42;refine RG (MV G G (ST (q0p ha84 Tu27 Ts9 G G) G (ST (q0g H G hc84 Ta9) G (ST (q0z [S a42,I 1] Tu49 Tz49 (xplaces49 Tu49) G G) G (q04 [_,_] H G G G Ku Ts49 G Kf Kf (q00 G) ?_)))));intro w H;refine NL (TN (RT ?_));obtain rfl:=oI h;exact q0h G ⟨_,G,H.loadAgg Km Ta49 Ts49 Kf⟩ H.ext G
theorem sign_Verify_ct {p0:(List (Ls × Ls) × Ls)}{p1:List (Ls × Int)}{vp0_0:Value}{vp0_1:Value}{vp1:Value}{r:(List (Ls × Int) × (Int × Int))}(h:sign_Verify p0 p1=some r):Ct Tryz.prog 11 [Value.agg #[vp0_0,vp0_1],vp1] (fun M=>GlF (fun w =>∃m,w.cell? ⟨1,0,none⟩=some (.int .i64 m)) M∧SlS M 2 xenc37 vp0_0 p0.1∧Sl M encB vp0_1 p0.2∧SlS M 2 xenc42 vp1 p1) (fun v M =>∃x0,v=Value.tuple #[x0,Value.agg #[I r.2.1,I r.2.2]]∧SlS M 2 xenc49 x0 r.1):=by
 refine Ct.of Tryz.func11 (enters Tryz.func11 Kr G) G G G ?_;intro w0 M0 H hp;obtain⟨gM,hp0_0,hp0_1,hp1⟩:=hp;unfold sign_Verify at h;refine SQ (RG (q0M [_,_] H G G (q00 G) G ?_));intro bk2 w H;refine AS G G (q0d [_,_] H Tz29 G (q00 G) G ?_);intro bk5 w H;refine NL (TN (SQ (SQ ?_)));obtain⟨⟨n1,n2⟩,hx3,h⟩:=bnd h;try dsimp only at h
 refine RG (ST (q0f H G Km Ta25 Ts25 Kf) G ?_);refine q03 H (message_Validate_ct hx3) G ⟨hp0_0,hp0_1⟩ (q00 G) G ?_;intro v12 M w H hle hR;replace gM:=gM.mono hle;replace hp0_0:=hp0_0.mono hle;replace hp0_1:=hp0_1.mono hle;replace hp1:=hp1.mono hle;try dsimp only at hR
 obtain rfl:=hR;refine q0d [_,_] H Tz29 G (q00 G) G ?_;intro bk6 w H;refine q04 [_,_] H G G G Ku Ts29 G Kf Kf (q00 G) ?_;intro w H;refine NL (TN (SQ ?_));obtain⟨b4,hx5,h⟩:=bnd h;refine RG (ST (q0f H G Km Ta29 Ts29 Kf) G ?_);refine q03 H (Y01 hx5) G trivial (q00 G) G ?_;intro v14 M w H hle hR;replace gM:=gM.mono hle;replace hp0_0:=hp0_0.mono hle;replace hp0_1:=hp0_1.mono hle;replace hp1:=hp1.mono hle;obtain rfl:=hR;refine NL (TN ?_);refine q0b G (fun hk6=>?_) (fun hk6=>?_)
 ·
  subst hk6;rw[if_pos rfl] at h;refine SQ (q0H (m:=3) G G H ?_);intro w H;refine TK 1 G (fun _=>q0N G) G (q0a (fuel:=0) [0,2] G Kr (ST (q0f H G Km Ta29 Ts29 Kf) G ?_));refine q04 [_,_] H G G G Ku Ts29 G Kf Kf (q00 G) ?_;intro w H;refine NA (q08 Kr (TN (RT ?_)));obtain rfl:=oI h;exact q0D G G ⟨_,G,H.loadAgg Km Ta29 Ts29 Kf⟩ H.ext (⟨_,G,(q1e _ _ (fun _=>G))⟩)
 subst hk6;rw[if_neg l00] at h;refine SK (TN (SQ (SQ ?_)));obtain⟨⟨n7,n8⟩,hx9,h⟩:=bnd h;try dsimp only at h
 refine RG (MV G G (q03 H (sign_Keys_ct hx9) G (hp1) (q00 G) G ?_));intro v17 M w H hle hR;replace gM:=gM.mono hle;replace hp0_0:=hp0_0.mono hle;replace hp0_1:=hp0_1.mono hle;replace hp1:=hp1.mono hle;try dsimp only at hR
 obtain rfl:=hR;refine q0d [_,_] H Tz29 G (q00 G) G ?_;intro bk7 w H;refine q04 [_,_] H G G G Ku Ts29 G Kf Kf (q00 G) ?_;intro w H;refine NL (TN (SQ ?_));obtain⟨b10,hx11,h⟩:=bnd h;refine RG (ST (q0f H G Km Ta29 Ts29 Kf) G ?_);refine q03 H (Y01 hx11) G trivial (q00 G) G ?_;intro v19 M w H hle hR;replace gM:=gM.mono hle;replace hp0_0:=hp0_0.mono hle;replace hp0_1:=hp0_1.mono hle;replace hp1:=hp1.mono hle;obtain rfl:=hR;refine NL (TN ?_);refine q0b G (fun hk12=>?_) (fun hk12=>?_)
 ·
  subst hk12;rw[if_pos rfl] at h;refine SQ (q0H (m:=3) G G H ?_);intro w H;refine TK 1 G (fun _=>q0N G) G (q0a (fuel:=0) [0,2] G Kr (ST (q0f H G Km Ta29 Ts29 Kf) G ?_));refine q04 [_,_] H G G G Ku Ts29 G Kf Kf (q00 G) ?_;intro w H;refine NA (q08 Kr (TN (RT ?_)));obtain rfl:=oI h;exact q0D G G ⟨_,G,H.loadAgg Km Ta29 Ts29 Kf⟩ H.ext (⟨_,G,(q1e _ _ (fun _=>G))⟩)
 subst hk12;rw[if_neg l00] at h;refine SK (TN (SQ (RG (AS G G (NL (TN (SQ (SQ (RG (ST (q02 Tu25 G Ts22 Dc G) G (ST (XL H Ta22) G ?_)))))))))));refine ST (q0K Tu22 hp0_0 G) G (MV G G (NL (TN ?_)));obtain⟨o13,e14,h⟩:=bnd h;refine q0e (fun e w =>∃(l16:List (Ls × Int)) (v18:Value) (M:Mem),e=[(5,ptr bk5 0),(8,v18)]∧St w0 M0 M [.blk bk5 (.cells #[I 0,I 0] 29),RowS 49 2 xenc49 v18 l16] w∧GlF (fun w =>∃m,w.cell? ⟨1,0,none⟩=some (.int .i64 m)) M∧some l16=some o13) [] ?_ ?_ (trivial)
 ·
  refine BL ?_;replace H:=H.newRowS 49 2 xenc49;refine q0y (fun m e w =>∃(l20:List (Ls × Int)) (v21:Value) (n22:Int) (M:Mem),e=[(1,vp1),(2,ptr bk2 0),(5,ptr bk5 0),(8,v21),(22,vp0_0),(23,I (p0.1.length:Int)),(24,I n22)]∧St w0 M0 M [.blk bk2 (.cells #[vp0_0,vp0_1] 25), .blk bk5 (.cells #[I 0,I 0] 29),RowS 49 2 xenc49 v21 l20] w∧GlF (fun w =>∃m,w.cell? ⟨1,0,none⟩=some (.int .i64 m)) M∧SlS M 2 xenc42 vp1 p1∧SlS M 2 xenc37 vp0_0 p0.1∧Sl M encB vp0_1 p0.2∧sign_Verify_L1 p0 p1 m l20 n22=some o13) FU [(1,_),(2,_),(5,_),(8,_),(22,_),(23,_),(24,_)] ⟨rfl,rfl,rfl,rfl,rfl,rfl,rfl,trivial⟩ ⟨_,_,_,_,rfl,(H.pick (L':=[.blk bk2 (.cells #[vp0_0,vp0_1] 25), .blk bk5 (.cells #[I 0,I 0] 29),RowS 49 2 xenc49 (Value.slice none 0 0) []]) Kp),gM,hp1,hp0_0,hp0_1,e14⟩ ?_;rintro m23 e w ⟨l20,v21,n22,M,rfl,H,gM,hp1,hp0_0,hp0_1,e14⟩;rcases m23 with _|m23
  · rw[sign_Verify_L1] at e14;cases e14
  rw[sign_Verify_L1] at e14;refine SQ (RG (ST (q0v G G) G (NL (TN (SQ ?_)))));refine CB (p:=n22<(p0.1.length:Int)) G (fun hk25=>?_) fun hk25=>?_
  ·
   rw[if_pos hk25] at e14;refine SK (TN (SQ (BL (SQ ?_))));obtain⟨a26,hxa26,e14⟩:=bnd e14;obtain⟨bk26,o26,ha26,hc26⟩:=hp0_0.atC hxa26;refine RG (ST (q0p ha26 Tu22 Ts37 G G) G (ST (q0T H G hc26 Ta37 Ts37 Kf) G ?_));refine q0d [_,_] H Tz37 G (q00 G) G ?_;intro bk10 w H;refine q04 [_,_] H G G G Ku Ts37 G Kf Kf (q00 G) ?_;intro w H;refine NL (TN (SQ ?_));obtain⟨b27,hx28,e14⟩:=bnd e14;refine RG (ST (q02 Tu37 G Ts9 Dc G) G (ST (XL H Ta9) G ?_));refine q03 H (Y1l hx28) G trivial (q00 G) G ?_;intro v30 M w H hle hR;replace gM:=gM.mono hle;replace hp1:=hp1.mono hle;replace hp0_0:=hp0_0.mono hle;replace hp0_1:=hp0_1.mono hle;obtain rfl:=hR;refine NL (TN ?_);refine q0b G (fun hk29=>?_) (fun hk29=>?_)
   ·
    subst hk29;rw[if_pos rfl] at e14;obtain⟨⟨s30,n31⟩,hx32,e14⟩:=bnd e14;try dsimp only at e14
    obtain⟨l33,hxl33,e14⟩:=bnd e14;refine RG (MV G G (ST (q0f H G Km Ta25 Ts25 Kf) G ?_));refine ST (q02 Tu37 G Ts9 Dc G) G (ST (XL H Ta9) G ?_);refine MV G G (q03 H (sign_verdict_ct hx32) G ⟨gM,hp0_0,hp0_1,hp1⟩ (q00 G) G ?_);intro v36 M w H hle hR;replace gM:=gM.mono hle;replace hp1:=hp1.mono hle;replace hp0_0:=hp0_0.mono hle;replace hp0_1:=hp0_1.mono hle;try dsimp only at hR
    obtain rfl:=hR;refine q0Y (enc:=xenc49) xty45 ([(s30,n31)]:List (Ls × Int)) H (fun _=>G) G Kr G G G (q00 G) G ?_;intro v37 M w H hle hs37;replace gM:=gM.mono hle;replace hp1:=hp1.mono hle;replace hp0_0:=hp0_0.mono hle;replace hp0_1:=hp0_1.mono hle;refine WR.appSC (l:=l20) xty45 G xone49 H G (fun _=>by repeat first|exact .head|apply Upd.tail) G (hs37) hxl33 (q00 G) G ?_;intro v38 w H;refine AS G G (NL (IB (TN ?_)));obtain⟨n34,hxn34,e14⟩:=bnd e14;refine RG (ST (q0l G G hxn34) G (MV G G (NL ?_)));exact AG m23 ⟨_,_,_,_,G,(H.pick (L':=[.blk bk2 (.cells #[vp0_0,vp0_1] 25), .blk bk5 (.cells #[I 0,I 0] 29),RowS 49 2 xenc49 v38 l33]) Kp),gM,hp1,hp0_0,hp0_1,e14⟩ (l07 _)
   subst hk29;rw[if_neg l00] at e14;refine SK (IB (TN ?_));obtain⟨n35,hxn35,e14⟩:=bnd e14;refine RG (ST (q0l G G hxn35) G (MV G G (NL ?_)));exact AG m23 ⟨_,_,_,_,G,(H.pick (L':=[.blk bk2 (.cells #[vp0_0,vp0_1] 25), .blk bk5 (.cells #[I 0,I 0] 29),RowS 49 2 xenc49 v21 l20]) Kp),gM,hp1,hp0_0,hp0_1,e14⟩ (l07 _)
  rw[if_neg hk25] at e14;refine q0x (q07 (q07 (q0k ?_)));exact MN ⟨_,_,_,G,(H.pick (L':=[.blk bk5 (.cells #[I 0,I 0] 29),RowS 49 2 xenc49 v21 l20]) Kp),gM,e14⟩
 rintro e w ⟨l16,v18,M,rfl,H,gM,q36⟩;obtain rfl:=oI q36;refine TN (SQ ?_);obtain⟨⟨n37,n38⟩,hx39,h⟩:=bnd h;try dsimp only at h
 refine RG (MV G G (q03 H (Y00 hx39) G trivial (q00 G) G ?_));intro v41 M w H hle hR;try dsimp only at hR
 obtain rfl:=hR;refine AS G G (q04 [_,_] H G G G Ku Ts29 G Kf Kf (q00 G) ?_);intro w H;refine NL (TN (RT ?_));obtain⟨M,hle,hs40,H⟩:=H.freezeRowS (v:=v18) (enc:=xenc49) (t:=49) Kv (fun _=>rfl);obtain rfl:=oI h;exact q0D G G ⟨_,G,H.loadAgg Km Ta29 Ts29 Kf⟩ H.ext (⟨_,G,hs40⟩)
set_option maxHeartbeats 4000000 in
theorem Top_TopSignaturesPassRelays_ct {p0 : (List (Ls × Ls) × Ls)} {p1 : Ls} {p2 : Int} {p3 : List Ls} {p4 : List Ls} {p5 : Ls} {vp0_0 : Value} {vp0_1 : Value} {vp3 : Value} {vp4 : Value} {r : Bool} (h : Top_TopSignaturesPassRelays p0 p1 p2 p3 p4 p5 = some r) : Ct Tryz.prog 3 [Value.agg #[vp0_0, vp0_1], S p1, Value.int .u64 p2, vp3, vp4, S p5] (fun M => GlF (fun w => ∃ m, w.cell? ⟨1, 0, none⟩ = some (.int .i64 m)) M ∧ GlF (fun w => Lib.TabIs Tryz.prog w "internal/strconv.uint64pow10" .u64 Lib.pow10Tab) M ∧ SlS M 2 xenc37 vp0_0 p0.1 ∧ Sl M encB vp0_1 p0.2 ∧ Sl M encS vp3 p3 ∧ Sl M encS vp4 p4) (fun v M => v = Value.bool r) := by
 refine Ct.of Tryz.func3 (enters Tryz.func3 Kr G) G G G ?_;intro w0 M0 H hp;obtain⟨gM,hg_pow10,hp0_0,hp0_1,hp3,hp4⟩:=hp;unfold Top_TopSignaturesPassRelays at h;refine SQ (RG (q0M [_,_] H G G (q00 G) G ?_));intro bk6 w H;refine AS G G (NL (TN (SQ ?_)));obtain⟨⟨⟨l1,l2⟩,⟨n3,n4⟩⟩,hx5,h⟩:=bnd h;try dsimp only at h
 refine RG (ST (q0f H G Km Ta25 Ts25 Kf) G ?_);refine MV G G (MV G G (MV G G (q03 H (sign_Sign_ct hx5) G ⟨gM,hp0_0,hp0_1,hp3⟩ (q00 G) G ?_)));intro v31 M w H hle hR;replace gM:=gM.mono hle;replace hg_pow10:=hg_pow10.mono hle;replace hp0_0:=hp0_0.mono hle;replace hp0_1:=hp0_1.mono hle;replace hp3:=hp3.mono hle;replace hp4:=hp4.mono hle;try dsimp only at hR
 obtain⟨x31_0_0,x31_0_1,rfl,f31_0_0,f31_0_1⟩:=hR;refine MV G G (ST (q0c G G) G (ST (q0c G G) G (q0d [_,_] H Tz25 G (q00 G) G ?_)));intro bk13 w H;refine q0d [_,_] H Tz29 G (q00 G) G ?_;intro bk14 w H;refine q04 [_,_] H G G G Ku Ts25 G Kf (by simp only[l0b,l0c,(f31_0_0).one.2,(f31_0_1).one.2];rfl) (q00 G) ?_;intro w H;refine q04 [_,_] H G G G Ku Ts29 G Kf Kf (q00 G) ?_;intro w H;refine NL (TN (SQ (SQ ?_)));obtain⟨o6,e7,h⟩:=bnd h
 refine q0e (fun e w => ∃ (b8 : Bool) (M : Mem), e = [(1, S p1), (2, Value.int .u64 p2), (4, vp4), (5, S p5), (13, ptr bk13 0), (55, Value.bool b8)] ∧ St w0 M0 M [.blk bk13 (.cells #[x31_0_0, x31_0_1] 25)] w ∧ GlF (fun w => ∃ m, w.cell? ⟨1, 0, none⟩ = some (.int .i64 m)) M ∧ GlF (fun w => Lib.TabIs Tryz.prog w "internal/strconv.uint64pow10" .u64 Lib.pow10Tab) M ∧ Sl M encS vp4 p4 ∧ SlS M 2 xenc37 x31_0_0 l1 ∧ Sl M encB x31_0_1 l2 ∧ some b8 = some o6) [] ?_ ?_ (trivial)
 ·
  refine RG (ST (q02 Tu29 G Ts3 Dc G) G (ST (XL H Ta3) G ?_));by_cases hk9:n3=(0:Int)
  ·
   rw[if_pos hk9] at e7;obtain⟨b10,hx11,e7⟩:=bnd e7;rcases b10 with _|_
   ·
    rw[if_neg l00] at e7;obtain⟨b12,hx13,e7⟩:=bnd e7;rcases b12 with _|_
    ·
     rw[if_neg l00] at e7;by_cases hk14:(10:Int)<(p4.length:Int)
     ·
      rw[if_pos hk14] at e7;refine q09 (v' := .bool false) (q0s G G) (congrArg Value.bool (by rw[decide_eq_true hk9];rfl)) (q00 G) G G ?_;refine MV G G (SG (q01 G) G G G (q03 H (posthouseref5_Has_ct hx11) G (hp3) (q06 G G G) G ?_));intro v39 M w H hle hR;replace gM:=gM.mono hle;replace hg_pow10:=hg_pow10.mono hle;replace hp3:=hp3.mono hle;replace hp4:=hp4.mono hle;replace f31_0_0:=f31_0_0.mono hle;replace f31_0_1:=f31_0_1.mono hle;obtain rfl:=hR;refine PF G G G (MV G G (SG (q01 G) G G G (q03 H (posthouseref5_Has_ct hx13) G (hp3) (q06 G G G) G ?_)));intro v43 M w H hle hR;replace gM:=gM.mono hle;replace hg_pow10:=hg_pow10.mono hle;replace hp4:=hp4.mono hle;replace f31_0_0:=f31_0_0.mono hle;replace f31_0_1:=f31_0_1.mono hle;obtain rfl:=hR;refine PF G G G (MV G G (SG (q01 G) G G G (SG (q0i Tu27 hp4 G) G G G (DU hk14 (q0A G G) G G G (PF G G G (MV G G (q05 4 G G (PT G G G (NL ?_)))))))));exact MN ⟨_,_,G,(H.pick (L':=[.blk bk13 (.cells #[x31_0_0,x31_0_1] 25)]) Kp),gM,hg_pow10,hp4,f31_0_0,f31_0_1,e7⟩
     rw[if_neg hk14] at e7;obtain⟨l15,hx16,e7⟩:=bnd e7;refine q09 (v' := .bool false) (q0s G G) (congrArg Value.bool (by rw[decide_eq_true hk9];rfl)) (q00 G) G G ?_;refine MV G G (SG (q01 G) G G G (q03 H (posthouseref5_Has_ct hx11) G (hp3) (q06 G G G) G ?_));intro v39 M w H hle hR;replace gM:=gM.mono hle;replace hg_pow10:=hg_pow10.mono hle;replace hp0_0:=hp0_0.mono hle;replace hp0_1:=hp0_1.mono hle;replace hp3:=hp3.mono hle;replace hp4:=hp4.mono hle;replace f31_0_0:=f31_0_0.mono hle;replace f31_0_1:=f31_0_1.mono hle;obtain rfl:=hR;refine PF G G G (MV G G (SG (q01 G) G G G (q03 H (posthouseref5_Has_ct hx13) G (hp3) (q06 G G G) G ?_)));intro v43 M w H hle hR;replace gM:=gM.mono hle;replace hg_pow10:=hg_pow10.mono hle;replace hp0_0:=hp0_0.mono hle;replace hp0_1:=hp0_1.mono hle;replace hp4:=hp4.mono hle;replace f31_0_0:=f31_0_0.mono hle;replace f31_0_1:=f31_0_1.mono hle;obtain rfl:=hR;refine PF G G G (MV G G (SG (q01 G) G G G (SG (q0i Tu27 hp4 G) G G G (DG hk14 (q0A G G) G G G (PF G G G (MV G G (SG (q0f H G Km Ta25 Ts25 Kf) G G G ?_)))))));refine q03 H (posthouseref5_Values_ct hx16) G ⟨hp0_0,hp0_1⟩ (q06 G G G) G ?_;intro v52 M w H hle hR;replace gM:=gM.mono hle;replace hg_pow10:=hg_pow10.mono hle;replace hp4:=hp4.mono hle;replace f31_0_0:=f31_0_0.mono hle;replace f31_0_1:=f31_0_1.mono hle;have f52_0:=hR;refine SG (q0i Tu27 f52_0 G) G G G (SG (q0A G G) G G G (PF G G G (NL ?_)));exact MN ⟨_,_,G,(H.pick (L':=[.blk bk13 (.cells #[x31_0_0,x31_0_1] 25)]) Kp),gM,hg_pow10,hp4,f31_0_0,f31_0_1,e7⟩
    rw[if_pos rfl] at e7;refine q09 (v' := .bool false) (q0s G G) (congrArg Value.bool (by rw[decide_eq_true hk9];rfl)) (q00 G) G G ?_;refine MV G G (SG (q01 G) G G G (q03 H (posthouseref5_Has_ct hx11) G (hp3) (q06 G G G) G ?_));intro v39 M w H hle hR;replace gM:=gM.mono hle;replace hg_pow10:=hg_pow10.mono hle;replace hp3:=hp3.mono hle;replace hp4:=hp4.mono hle;replace f31_0_0:=f31_0_0.mono hle;replace f31_0_1:=f31_0_1.mono hle;obtain rfl:=hR;refine PF G G G (MV G G (SG (q01 G) G G G (q03 H (posthouseref5_Has_ct hx13) G (hp3) (q06 G G G) G ?_)));intro v43 M w H hle hR;replace gM:=gM.mono hle;replace hg_pow10:=hg_pow10.mono hle;replace hp4:=hp4.mono hle;replace f31_0_0:=f31_0_0.mono hle;replace f31_0_1:=f31_0_1.mono hle;obtain rfl:=hR;refine PF G G G (MV G G (q05 3 G G (PT G G G (MV G G (q05 4 G G (PT G G G (NL ?_)))))));exact MN ⟨_,_,G,(H.pick (L':=[.blk bk13 (.cells #[x31_0_0,x31_0_1] 25)]) Kp),gM,hg_pow10,hp4,f31_0_0,f31_0_1,e7⟩
   rw[if_pos rfl] at e7;refine q09 (v' := .bool false) (q0s G G) (congrArg Value.bool (by rw[decide_eq_true hk9];rfl)) (q00 G) G G ?_;refine MV G G (SG (q01 G) G G G (q03 H (posthouseref5_Has_ct hx11) G (hp3) (q06 G G G) G ?_));intro v39 M w H hle hR;replace gM:=gM.mono hle;replace hg_pow10:=hg_pow10.mono hle;replace hp4:=hp4.mono hle;replace f31_0_0:=f31_0_0.mono hle;replace f31_0_1:=f31_0_1.mono hle;obtain rfl:=hR;refine PF G G G (MV G G (GT G G G (GT G G G (PT G G G (MV G G (q05 3 G G (PT G G G (MV G G (q05 4 G G (PT G G G (NL ?_)))))))))));exact MN ⟨_,_,G,(H.pick (L':=[.blk bk13 (.cells #[x31_0_0,x31_0_1] 25)]) Kp),gM,hg_pow10,hp4,f31_0_0,f31_0_1,e7⟩
  rw[if_neg hk9] at e7;refine q09 (v' := .bool true) (q0s G G) (congrArg Value.bool (by rw[decide_eq_false hk9];rfl)) (q00 G) G G ?_;refine MV G G (GT G G G (GT G G G (PT G G G (MV G G (GT G G G (GT G G G (PT G G G (MV G G (q05 3 G G (PT G G G (MV G G (q05 4 G G (PT G G G (NL ?_))))))))))))));exact MN ⟨_,_,G,(H.pick (L':=[.blk bk13 (.cells #[x31_0_0,x31_0_1] 25)]) Kp),gM,hg_pow10,hp4,f31_0_0,f31_0_1,e7⟩
 rintro e w ⟨b8,M,rfl,H,gM,hg_pow10,hp4,f31_0_0,f31_0_1,q17⟩;obtain rfl:=oI q17;refine TN ?_;refine q0b G (fun hk18=>?_) (fun hk18=>?_)
 ·
  subst hk18;rw[if_pos rfl] at h;refine SQ ?_;obtain⟨b19,hx20,h⟩:=bnd h;refine RG (q03 H (Top_h11Fixed_ct hx20) G (gM) (q00 G) G ?_);intro v56 M w H hle hR;obtain rfl:=hR;refine AS G G (NL (TN (RT ?_)));obtain rfl:=oI h;exact q0h G G H.ext G
 subst hk18;rw[if_neg l00] at h;refine SK (TN (SQ (RG (AS G G (NL (TN (SQ (SQ (RG (AS G G (NL (TN ?_))))))))))));obtain⟨o21,e22,h⟩:=bnd h
 refine q0e (fun e w => ∃ (l23 : List (Ls × Ls)) (v24 : Value) (l26 : Ls) (v27 : Value) (l30 : List (Ls × Int)) (v32 : Value) (M : Mem), e = [(1, S p1), (2, Value.int .u64 p2), (4, vp4), (13, ptr bk13 0), (15, v32)] ∧ St w0 M0 M [.blk bk13 (.cells #[v24, v27] 25), RowS 42 2 xenc42 v32 l30] w ∧ GlF (fun w => ∃ m, w.cell? ⟨1, 0, none⟩ = some (.int .i64 m)) M ∧ GlF (fun w => Lib.TabIs Tryz.prog w "internal/strconv.uint64pow10" .u64 Lib.pow10Tab) M ∧ Sl M encS vp4 p4 ∧ SlS M 2 xenc37 v24 l23 ∧ Sl M encB v27 l26 ∧ some (.inl (l23, l26, l30)) = some o21) [] ?_ ?_ (trivial)
 ·
  refine BL ?_;replace H:=H.newRowS 42 2 xenc42
  refine q0y (fun m e w => ∃ (l33 : List (Ls × Ls)) (v34 : Value) (l36 : Ls) (v37 : Value) (l40 : List (Ls × Int)) (v41 : Value) (n42 : Int) (M : Mem), e = [(1, S p1), (2, Value.int .u64 p2), (4, vp4), (5, S p5), (13, ptr bk13 0), (15, v41), (16, I n42)] ∧ St w0 M0 M [.blk bk13 (.cells #[v34, v37] 25), RowS 42 2 xenc42 v41 l40] w ∧ GlF (fun w => ∃ m, w.cell? ⟨1, 0, none⟩ = some (.int .i64 m)) M ∧ GlF (fun w => Lib.TabIs Tryz.prog w "internal/strconv.uint64pow10" .u64 Lib.pow10Tab) M ∧ Sl M encS vp4 p4 ∧ SlS M 2 xenc37 v34 l33 ∧ Sl M encB v37 l36 ∧ Top_TopSignaturesPassRelays_L1 p4 p5 m l33 l36 l40 n42 = some o21) FU [(1, _), (2, _), (4, _), (5, _), (13, _), (15, _), (16, _)] ⟨rfl, rfl, rfl, rfl, rfl, rfl, rfl, trivial⟩ ⟨_, _, _, _, _, _, _, _, rfl, (H.pick (L' := [.blk bk13 (.cells #[x31_0_0, x31_0_1] 25), RowS 42 2 xenc42 (Value.slice none 0 0) []]) Kp), gM, hg_pow10, hp4, f31_0_0, f31_0_1, e22⟩ ?_
  rintro m43 e w ⟨l33,v34,l36,v37,l40,v41,n42,M,rfl,H,gM,hg_pow10,hp4,hs35,hs38,e22⟩;rcases m43 with _|m43
  · rw[Top_TopSignaturesPassRelays_L1] at e22;cases e22
  rw[Top_TopSignaturesPassRelays_L1] at e22;refine SQ (SQ (RG (MV G G (MV G G (ST (q0i Tu27 hp4 G) G (ST (q0v G G) G (NL (TN ?_))))))));refine CB (p:=n42<(p4.length:Int)) G (fun hk45=>?_) fun hk45=>?_
  ·
   rw[if_pos hk45] at e22;refine SK (TN (SQ (BL (SQ ?_))));obtain⟨l47,hxl47,e22⟩:=bnd e22;refine RG (MV G G (ST (q0z [S [82,101,99,101,105,118,101,100],S p5] Tu37 Tz37 (xplaces37 Tu37) G G) G (WR.litRS (enc:=xenc37) xty22 ([([82,101,99,101,105,118,101,100],p5)]:List (Ls × Ls)) H (fun _=>G) G Kr G G G (q00 G) G ?_)));intro v65 w H;refine ST (q02 Tu25 G Ts22 Dc G) G (ST (XL H Ta22) G ?_);refine WR.appSC (l:=([([82,101,99,101,105,118,101,100],p5)]:List (Ls × Ls))) xty22 G xone37 H G (fun _=>by repeat first|exact .head|apply Upd.tail) G (hs35) hxl47 (q00 G) G ?_;intro v68 w H;refine ST (q02 Tu25 G Ts22 Dc G) G ?_;obtain⟨M,hle,hs48,H⟩:=H.freezeRowS (v:=v68) (enc:=xenc37) (t:=37) Kv (fun _=>rfl);replace gM:=gM.mono hle;replace hg_pow10:=hg_pow10.mono hle;replace hp4:=hp4.mono hle;replace hs38:=hs38.mono hle;refine q0V [_,_] H G G (hs48.one) Ku Kf Ts22 (by first|decide|(simp;done)|(simp;omega)) (q00 G) ?_;intro w H;refine NL (TN (SQ ?_));obtain⟨a49,hxa49,e22⟩:=bnd e22;obtain⟨bk74,o74,ha74,hc74⟩:=hp4.atC hxa49;obtain⟨⟨⟨l50,l51⟩,⟨n52,n53⟩⟩,hx54,e22⟩:=bnd e22;try dsimp only at e22
   refine q1f (fun e w => ∃ (b55 : Nat) (v57 : Value) (v60 : Value) (b62 : Nat) (M : Mem), e = [(1, S p1), (2, Value.int .u64 p2), (4, vp4), (5, S p5), (13, ptr bk13 0), (15, v41), (16, I n42), (17, ptr b55 0), (18, ptr b62 0)] ∧ St w0 M0 M [.blk bk13 (.cells #[v68, v37] 25), RowS 42 2 xenc42 v41 l40, .blk b55 (.cells #[v57, v60] 25), .blk b62 (.cells #[I n52, I n53] 29)] w ∧ GlF (fun w => ∃ m, w.cell? ⟨1, 0, none⟩ = some (.int .i64 m)) M ∧ GlF (fun w => Lib.TabIs Tryz.prog w "internal/strconv.uint64pow10" .u64 Lib.pow10Tab) M ∧ Sl M encS vp4 p4 ∧ SlS M 2 xenc37 v68 l47 ∧ Sl M encB v37 l36 ∧ SlS M 2 xenc37 v57 l50 ∧ Sl M encB v60 l51) ?_ ?_
   ·
    refine q0H (m:=15) G G H ?_;intro w H;refine TK 1 G (fun _=>q01 G) G (TK 2 G (fun _=>q01 G) G (TK 3 G (fun _=>q0p ha74 Tu27 Ts9 G G) G (TK 5 G (fun _=>q01 G) G (TK 6 G (fun _=>Ex.conv Tu3 Tu26 G) G (WA.takeA H (i:=0) [4,11,12] G Kr Kr Kr (fun _ H=>q0f H G Km Ta25 Ts25 Kf) (q00 G) G G (fun _ _=>G) ?_)))));refine WA.takeA H (i:=4) [11,12] G Kr Kr Kr (fun _ H=>q0g H G hc74 Ta9) (q00 G) G G (fun _ _=>G) ?_;refine q1d (i:=7) (j:=11) (k:=12) Kr G G G ?_ ?_ ?_
    ·
     refine q03 H (custody_Seal_ct hx54) G ⟨gM,hg_pow10,hs48,hs38⟩ (q00 G) G ?_;intro v78 M w H hle hR;replace gM:=gM.mono hle;replace hg_pow10:=hg_pow10.mono hle;replace hp4:=hp4.mono hle;replace hs48:=hs48.mono hle;replace hs38:=hs38.mono hle;try dsimp only at hR
     obtain⟨x78_0_0,x78_0_1,rfl,f78_0_0,f78_0_1⟩:=hR;refine NA (TK 8 G (fun _=>q01 G) G (TK 9 G (fun _=>q0c G G) G (TK 10 G (fun _=>q0c G G) G ?_)));refine q0t (i:=11) (j:=12) Kr G G ?_ ?_
     ·
      refine q0d [_,_] H Tz25 G (q00 G) G ?_;intro bk17 w H;refine NA (q0a (fuel:=0) [12,13,14] G Kr (q0d [_,_] H Tz29 G (q00 G) G ?_));intro bk18 w H;refine q04 [_,_] H G G G Ku Ts25 G Kf (by simp only[l0b,l0c,(f78_0_0).one.2,(f78_0_1).one.2];rfl) (q00 G) ?_;intro w H;refine q04 [_,_] H G G G Ku Ts29 G Kf Kf (q00 G) ?_;intro w H;refine NA (q08 Kr ?_);exact MP ⟨_,_,_,_,_,G,(H.pick (L':=[.blk bk13 (.cells #[v68,v37] 25),RowS 42 2 xenc42 v41 l40, .blk bk17 (.cells #[x78_0_0,x78_0_1] 25), .blk bk18 (.cells #[I n52,I n53] 29)]) Kp),gM,hg_pow10,hp4,hs48,hs38,f78_0_0,f78_0_1⟩
     refine q0d [_,_] H Tz29 G (q00 G) G ?_;intro bk18 w H;refine NA (q0a (fuel:=0) [11,13,14] G Kr (q0d [_,_] H Tz25 G (q00 G) G ?_));intro bk17 w H;refine q04 [_,_] H G G G Ku Ts25 G Kf (by simp only[l0b,l0c,(f78_0_0).one.2,(f78_0_1).one.2];rfl) (q00 G) ?_;intro w H;refine q04 [_,_] H G G G Ku Ts29 G Kf Kf (q00 G) ?_;intro w H;refine NA (q08 Kr ?_);exact MP ⟨_,_,_,_,_,G,(H.pick (L':=[.blk bk13 (.cells #[v68,v37] 25),RowS 42 2 xenc42 v41 l40, .blk bk17 (.cells #[x78_0_0,x78_0_1] 25), .blk bk18 (.cells #[I n52,I n53] 29)]) Kp),gM,hg_pow10,hp4,hs48,hs38,f78_0_0,f78_0_1⟩
    ·
     refine q0d [_,_] H Tz25 G (q00 G) G ?_;intro bk17 w H;refine NA ?_;refine q0t (i:=7) (j:=12) Kr G G ?_ ?_
     ·
      refine q03 H (custody_Seal_ct hx54) G ⟨gM,hg_pow10,hs48,hs38⟩ (q00 G) G ?_;intro v78 M w H hle hR;replace gM:=gM.mono hle;replace hg_pow10:=hg_pow10.mono hle;replace hp4:=hp4.mono hle;replace hs48:=hs48.mono hle;replace hs38:=hs38.mono hle;try dsimp only at hR
      obtain⟨x78_0_0,x78_0_1,rfl,f78_0_0,f78_0_1⟩:=hR;refine NA (TK 8 G (fun _=>q01 G) G (TK 9 G (fun _=>q0c G G) G (TK 10 G (fun _=>q0c G G) G (q0a (fuel:=0) [12,13,14] G Kr (q0d [_,_] H Tz29 G (q00 G) G ?_)))));intro bk18 w H;refine q04 [_,_] H G G G Ku Ts25 G Kf (by simp only[l0b,l0c,(f78_0_0).one.2,(f78_0_1).one.2];rfl) (q00 G) ?_;intro w H;refine q04 [_,_] H G G G Ku Ts29 G Kf Kf (q00 G) ?_;intro w H;refine NA (q08 Kr ?_);exact MP ⟨_,_,_,_,_,G,(H.pick (L':=[.blk bk13 (.cells #[v68,v37] 25),RowS 42 2 xenc42 v41 l40, .blk bk17 (.cells #[x78_0_0,x78_0_1] 25), .blk bk18 (.cells #[I n52,I n53] 29)]) Kp),gM,hg_pow10,hp4,hs48,hs38,f78_0_0,f78_0_1⟩
     refine q0d [_,_] H Tz29 G (q00 G) G ?_;intro bk18 w H;refine NA (q0a (fuel:=4) [7,8] G Kr (q03 H (custody_Seal_ct hx54) G ⟨gM,hg_pow10,hs48,hs38⟩ (q00 G) G ?_));intro v78 M w H hle hR;replace gM:=gM.mono hle;replace hg_pow10:=hg_pow10.mono hle;replace hp4:=hp4.mono hle;replace hs48:=hs48.mono hle;replace hs38:=hs38.mono hle;try dsimp only at hR
     obtain⟨x78_0_0,x78_0_1,rfl,f78_0_0,f78_0_1⟩:=hR;refine MV G G (NA (TK 9 G (fun _=>q0c G G) G (TK 10 G (fun _=>q0c G G) G (q0a (fuel:=0) [13,14] G Kr (q04 [_,_] H G G G Ku Ts25 G Kf (by simp only[l0b,l0c,(f78_0_0).one.2,(f78_0_1).one.2];rfl) (q00 G) ?_)))));intro w H;refine q04 [_,_] H G G G Ku Ts29 G Kf Kf (q00 G) ?_;intro w H;refine NA (q08 Kr ?_);exact MP ⟨_,_,_,_,_,G,(H.pick (L':=[.blk bk13 (.cells #[v68,v37] 25),RowS 42 2 xenc42 v41 l40, .blk bk17 (.cells #[x78_0_0,x78_0_1] 25), .blk bk18 (.cells #[I n52,I n53] 29)]) Kp),gM,hg_pow10,hp4,hs48,hs38,f78_0_0,f78_0_1⟩
    refine q0d [_,_] H Tz29 G (q00 G) G ?_;intro bk18 w H;refine NA ?_;refine q0t (i:=7) (j:=11) Kr G G ?_ ?_
    ·
     refine q03 H (custody_Seal_ct hx54) G ⟨gM,hg_pow10,hs48,hs38⟩ (q00 G) G ?_;intro v78 M w H hle hR;replace gM:=gM.mono hle;replace hg_pow10:=hg_pow10.mono hle;replace hp4:=hp4.mono hle;replace hs48:=hs48.mono hle;replace hs38:=hs38.mono hle;try dsimp only at hR
     obtain⟨x78_0_0,x78_0_1,rfl,f78_0_0,f78_0_1⟩:=hR;refine NA (TK 8 G (fun _=>q01 G) G (TK 9 G (fun _=>q0c G G) G (TK 10 G (fun _=>q0c G G) G (q0a (fuel:=0) [11,13,14] G Kr (q0d [_,_] H Tz25 G (q00 G) G ?_)))));intro bk17 w H;refine q04 [_,_] H G G G Ku Ts25 G Kf (by simp only[l0b,l0c,(f78_0_0).one.2,(f78_0_1).one.2];rfl) (q00 G) ?_;intro w H;refine q04 [_,_] H G G G Ku Ts29 G Kf Kf (q00 G) ?_;intro w H;refine NA (q08 Kr ?_);exact MP ⟨_,_,_,_,_,G,(H.pick (L':=[.blk bk13 (.cells #[v68,v37] 25),RowS 42 2 xenc42 v41 l40, .blk bk17 (.cells #[x78_0_0,x78_0_1] 25), .blk bk18 (.cells #[I n52,I n53] 29)]) Kp),gM,hg_pow10,hp4,hs48,hs38,f78_0_0,f78_0_1⟩
    refine q0d [_,_] H Tz25 G (q00 G) G ?_;intro bk17 w H;refine NA (q0a (fuel:=4) [7,8] G Kr (q03 H (custody_Seal_ct hx54) G ⟨gM,hg_pow10,hs48,hs38⟩ (q00 G) G ?_));intro v78 M w H hle hR;replace gM:=gM.mono hle;replace hg_pow10:=hg_pow10.mono hle;replace hp4:=hp4.mono hle;replace hs48:=hs48.mono hle;replace hs38:=hs38.mono hle;try dsimp only at hR
    obtain⟨x78_0_0,x78_0_1,rfl,f78_0_0,f78_0_1⟩:=hR;refine MV G G (NA (TK 9 G (fun _=>q0c G G) G (TK 10 G (fun _=>q0c G G) G (q0a (fuel:=0) [13,14] G Kr (q04 [_,_] H G G G Ku Ts25 G Kf (by simp only[l0b,l0c,(f78_0_0).one.2,(f78_0_1).one.2];rfl) (q00 G) ?_)))));intro w H;refine q04 [_,_] H G G G Ku Ts29 G Kf Kf (q00 G) ?_;intro w H;refine NA (q08 Kr ?_);exact MP ⟨_,_,_,_,_,G,(H.pick (L':=[.blk bk13 (.cells #[v68,v37] 25),RowS 42 2 xenc42 v41 l40, .blk bk17 (.cells #[x78_0_0,x78_0_1] 25), .blk bk18 (.cells #[I n52,I n53] 29)]) Kp),gM,hg_pow10,hp4,hs48,hs38,f78_0_0,f78_0_1⟩
   rintro e w ⟨b55,v57,v60,b62,M,rfl,H,gM,hg_pow10,hp4,hs48,hs38,hs58,hs61⟩;refine TN (SQ (SQ (RG (ST (q02 Tu29 G Ts3 Dc G) G (ST (XL H Ta3) G ?_)))));refine ST (q0s G G) G (NL (TN ?_));refine q0b G (fun hk63=>?_) (fun hk63=>?_)
   ·
    replace hk63 :¬(n52=(0:Int)):=of_not_decide hk63;rw[if_neg hk63] at e22;refine SQ ?_;obtain⟨b64,hx65,e22⟩:=bnd e22;refine RG (q03 H (Top_h11Fixed_ct hx65) G (gM) (q00 G) G ?_);intro v84 M w H hle hR;obtain rfl:=hR;refine AS G G (NL (TN (RT ?_)));obtain rfl:=oI e22;try dsimp only at h
    obtain rfl:=oI h;exact q0h G G H.ext G
   replace hk63:n52=(0:Int):=of_not_decide' hk63;rw[if_pos hk63] at e22;refine SK (TN (SQ (RG (ST (q0f H G Km Ta25 Ts25 Kf) G ?_))));refine q04 [_,_] H G G G Ku Ts25 G Kf (by simp only[l0b,l0c,(hs58).one.2,(hs61).one.2];rfl) (q00 G) ?_;intro w H;refine NL (TN (SQ (SQ ?_)));obtain⟨a66,hxa66,e22⟩:=bnd e22;obtain⟨bk90,o90,ha90,hc90⟩:=hp4.atC hxa66;obtain⟨⟨n67,b68⟩,hx69,e22⟩:=bnd e22;try dsimp only at e22
   refine RG (MV G G (MV G G (MV G G (ST (q0p ha90 Tu27 Ts9 G G) G (ST (q0g H G hc90 Ta9) G (WR.callLendS (l:=l40) (enc:=xenc42) (t:=42) H Km (fun _=>G) (posthouseref5_KeyOf_ct hx69) (fun _ _ _ h=>h) G (fun _ hb1 hbor=>hbor) (q00 G) G ?_))))));intro v92 M w H hle hR;replace gM:=gM.mono hle;replace hg_pow10:=hg_pow10.mono hle;replace hp4:=hp4.mono hle;replace hs58:=hs58.mono hle;replace hs61:=hs61.mono hle;try dsimp only at hR
   obtain rfl:=hR;refine MV G G (ST (q0c G G) G (ST (q0c G G) G (AS G G (AS G G (NL (TN (SQ (RG (MV G G (NL (TN ?_)))))))))));refine q0b G (fun hk70=>?_) (fun hk70=>?_)
   ·
    subst hk70;rw[if_pos rfl] at e22;refine SQ ?_;obtain⟨b71,hx72,e22⟩:=bnd e22;refine RG (q03 H (Top_h11Fixed_ct hx72) G (gM) (q00 G) G ?_);intro v96 M w H hle hR;obtain rfl:=hR;refine AS G G (NL (TN (RT ?_)));obtain rfl:=oI e22;try dsimp only at h
    obtain rfl:=oI h;exact q0h G G H.ext G
   subst hk70;rw[if_neg l00] at e22;refine SK (TN ?_);obtain⟨a73,hxa73,e22⟩:=bnd e22;obtain⟨bk100,o100,ha100,hc100⟩:=hp4.atC hxa73;obtain⟨l74,hxl74,e22⟩:=bnd e22;refine RG (MV G G (MV G G (MV G G (ST (q0p ha100 Tu27 Ts9 G G) G (ST (q0g H G hc100 Ta9) G (MV G G (ST (Ex.conv Tu3 Tu26 G) G (ST (q0z [S a73,Value.int .u64 (IntKind.u64.wrap n42)] Tu42 Tz42 (xplaces42 Tu42) G G) G (q0Y (enc:=xenc42) xty35 ([(a73,(IntKind.u64.wrap n42))]:List (Ls × Int)) H (fun _=>G) G Kr G G G (q00 G) G ?_)))))))));intro v105 M w H hle hs105;replace gM:=gM.mono hle;replace hg_pow10:=hg_pow10.mono hle;replace hp4:=hp4.mono hle;replace hs58:=hs58.mono hle;replace hs61:=hs61.mono hle;refine WR.appSC (l:=l40) xty35 G xone42 H G (fun _=>by repeat first|exact .head|apply Upd.tail) G (hs105) hxl74 (q00 G) G ?_;intro v106 w H;refine AS G G (NL (IB (TN ?_)));obtain⟨n75,hxn75,e22⟩:=bnd e22;refine RG (MV G G (ST (q0l G G hxn75) G (AS G G (NL ?_))));exact AG m43 ⟨_,_,_,_,_,_,_,_,G,(H.pick (L':=[.blk bk13 (.cells #[v57,v60] 25),RowS 42 2 xenc42 v106 l74]) Kp),gM,hg_pow10,hp4,hs58,hs61,e22⟩ (l07 _)
  rw[if_neg hk45] at e22;refine q0x (q07 (q07 (q0k ?_)));exact MN ⟨_,_,_,_,_,_,_,G,H,gM,hg_pow10,hp4,hs35,hs38,e22⟩
 rintro e w ⟨l23,v24,l26,v27,l30,v32,M,rfl,H,gM,hg_pow10,hp4,hs25,hs28,q76⟩;obtain rfl:=oI q76;try dsimp only at h
 refine TN (SQ ?_);obtain⟨⟨n78,b79,⟨n80,n81⟩⟩,hx82,h⟩:=bnd h;try dsimp only at h
 refine RG (ST (q0f H G Km Ta25 Ts25 Kf) G ?_);refine MV G G ?_;obtain⟨M,hle,hs77,H⟩:=H.freezeRowS (v:=v32) (enc:=xenc42) (t:=42) Kv (fun _=>rfl);replace gM:=gM.mono hle;replace hg_pow10:=hg_pow10.mono hle;replace hp4:=hp4.mono hle;replace hs25:=hs25.mono hle;replace hs28:=hs28.mono hle;refine q03 H (custody_Check_ct hx82) G ⟨gM,hg_pow10,hs25,hs28,hs77⟩ (q00 G) G ?_;intro v110 M w H hle hR;replace gM:=gM.mono hle;replace hg_pow10:=hg_pow10.mono hle;replace hp4:=hp4.mono hle;replace hs25:=hs25.mono hle;replace hs28:=hs28.mono hle;try dsimp only at hR
 obtain rfl:=hR;refine MV G G (ST (q0c G G) G (ST (q0c G G) G (ST (q0c G G) G (q0d [_,_] H Tz29 G (q00 G) G ?_))));intro bk23 w H;refine AS G G (AS G G (q04 [_,_] H G G G Ku Ts29 G Kf Kf (q00 G) ?_));intro w H;refine NL (TN (SQ ?_));obtain⟨⟨l83,⟨n84,n85⟩⟩,hx86,h⟩:=bnd h;try dsimp only at h
 refine RG (ST (q0f H G Km Ta25 Ts25 Kf) G ?_);refine MV G G (MV G G (ST (q0z [S p1,Value.int .u64 p2] Tu42 Tz42 (xplaces42 Tu42) G G) G (q0Y (enc:=xenc42) xty35 ([(p1,p2)]:List (Ls × Int)) H (fun _=>G) G Kr G G G (q00 G) G ?_)));intro v119 M w H hle hs119;replace gM:=gM.mono hle;replace hg_pow10:=hg_pow10.mono hle;replace hp4:=hp4.mono hle;replace hs25:=hs25.mono hle;replace hs28:=hs28.mono hle;refine q03 H (sign_Verify_ct hx86) G ⟨gM,hs25,hs28,hs119⟩ (q00 G) G ?_;intro v120 M w H hle hR;replace gM:=gM.mono hle;replace hg_pow10:=hg_pow10.mono hle;replace hp4:=hp4.mono hle;try dsimp only at hR
 obtain⟨x120_0,rfl,f120_0⟩:=hR;refine MV G G (ST (q0c G G) G (ST (q0c G G) G (q0d [_,_] H Tz29 G (q00 G) G ?_)));intro bk25 w H;refine AS G G (q04 [_,_] H G G G Ku Ts29 G Kf Kf (q00 G) ?_);intro w H;refine NL (TN (SQ ?_));obtain⟨o87,e88,h⟩:=bnd h
 refine q0e (fun e w => ∃ (b89 : Bool) (M : Mem), e = [(12, Value.bool b89)] ∧ St w0 M0 M [] w ∧ GlF (fun w => ∃ m, w.cell? ⟨1, 0, none⟩ = some (.int .i64 m)) M ∧ GlF (fun w => Lib.TabIs Tryz.prog w "internal/strconv.uint64pow10" .u64 Lib.pow10Tab) M ∧ some b89 = some o87) [] ?_ ?_ (trivial)
 ·
  refine RG (ST (q02 Tu29 G Ts3 Dc G) G (ST (XL H Ta3) G ?_));by_cases hk90:n80=(0:Int)
  ·
   rw[if_pos hk90] at e88;by_cases hk91:n84=(0:Int)
   ·
    rw[if_pos hk91] at e88;rcases b79 with _|_
    ·
     rw[if_neg l00] at e88;refine DT hk90 (q0j G G) G (MV G G (SG (q02 Tu29 G Ts3 Dc G) G G G (SG (XL H Ta3) G G G ?_)));refine DU hk91 (q0j G G) G G G (PT G G G (MV G G (SG (q01 G) G G G (PT G G G (MV G G (q05 4 G G (PF G G G (MV G G (q05 3 G G (PF G G G (MV G G (q05 6 G G (PF G G G (MV G G (GF G G G (PF G G G (AS G G (NL ?_))))))))))))))))));exact MN ⟨_,_,G,(H.pick (L':=[]) Kp),gM,hg_pow10,e88⟩
    rw[if_pos rfl] at e88;by_cases hk92:n78=(p4.length:Int)
    ·
     rw[if_pos hk92] at e88;by_cases hk93:(0:Int)<(l83.length:Int)
     ·
      rw[if_pos hk93] at e88;obtain⟨a94,hxa94,e88⟩:=bnd e88;obtain⟨bk147,o147,ha147,hc147⟩:=f120_0.atC hxa94;by_cases hk95:a94.1=p1∧a94.2=1
      ·
       rw[if_pos hk95] at e88;obtain⟨b96,hx97,e88⟩:=bnd e88;refine DT hk90 (q0j G G) G (MV G G (SG (q02 Tu29 G Ts3 Dc G) G G G (SG (XL H Ta3) G G G ?_)));refine DU hk91 (q0j G G) G G G (PT G G G (MV G G (SG (q01 G) G G G (PT G G G (MV G G (SG (q01 G) G G G (SG (q01 G) G G G (SG (q0i Tu27 hp4 G) G G G (DU hk92 (q0j G G) G G G (PT G G G (MV G G (SG (q01 G) G G G (SG (q0K Tu45 f120_0 G) G G G (DU hk93 (q0A G G) G G G (PT G G G (MV G G (SG (q01 G) G G G (SG (q0p ha147 Tu45 Ts49 G G) G G G (SG (q0T H G hc147 Ta49 Ts49 Kf) G G G ?_)))))))))))))))))));refine SG (q01 G) G G G (SG (q0z [S p1,I 1] Tu49 Tz49 (xplaces49 Tu49) G G) G G G (DU hk95 (Ex.eqlAgg G G Kr (xeq49 a94.1 p1 a94.2 1)) G G G (PT G G G (MV G G (q03 H (Top_h11Fixed_ct hx97) G (gM) (q06 G G G) G ?_)))));intro v154 M w H hle hR;replace gM:=gM.mono hle;replace hg_pow10:=hg_pow10.mono hle;obtain rfl:=hR;refine PT G G G (AS G G (NL ?_));exact MN ⟨_,_,G,(H.pick (L':=[]) Kp),gM,hg_pow10,e88⟩
      rw[if_neg hk95] at e88;refine DT hk90 (q0j G G) G (MV G G (SG (q02 Tu29 G Ts3 Dc G) G G G (SG (XL H Ta3) G G G ?_)));refine DU hk91 (q0j G G) G G G (PT G G G (MV G G (SG (q01 G) G G G (PT G G G (MV G G (SG (q01 G) G G G (SG (q01 G) G G G (SG (q0i Tu27 hp4 G) G G G (DU hk92 (q0j G G) G G G (PT G G G (MV G G (SG (q01 G) G G G (SG (q0K Tu45 f120_0 G) G G G (DU hk93 (q0A G G) G G G (PT G G G (MV G G (SG (q01 G) G G G (SG (q0p ha147 Tu45 Ts49 G G) G G G (SG (q0T H G hc147 Ta49 Ts49 Kf) G G G ?_)))))))))))))))))));refine SG (q01 G) G G G (SG (q0z [S p1,I 1] Tu49 Tz49 (xplaces49 Tu49) G G) G G G (DG hk95 (Ex.eqlAgg G G Kr (xeq49 a94.1 p1 a94.2 1)) G G G (PT G G G (MV G G (GF G G G (PF G G G (AS G G (NL ?_))))))));exact MN ⟨_,_,G,(H.pick (L':=[]) Kp),gM,hg_pow10,e88⟩
     rw[if_neg hk93] at e88;refine DT hk90 (q0j G G) G (MV G G (SG (q02 Tu29 G Ts3 Dc G) G G G (SG (XL H Ta3) G G G ?_)));refine DU hk91 (q0j G G) G G G (PT G G G (MV G G (SG (q01 G) G G G (PT G G G (MV G G (SG (q01 G) G G G (SG (q01 G) G G G (SG (q0i Tu27 hp4 G) G G G (DU hk92 (q0j G G) G G G (PT G G G (MV G G (SG (q01 G) G G G (SG (q0K Tu45 f120_0 G) G G G (DG hk93 (q0A G G) G G G (PT G G G (MV G G (q05 6 G G (PF G G G (MV G G (GF G G G (PF G G G (AS G G (NL ?_)))))))))))))))))))))));exact MN ⟨_,_,G,(H.pick (L':=[]) Kp),gM,hg_pow10,e88⟩
    rw[if_neg hk92] at e88;refine DT hk90 (q0j G G) G (MV G G (SG (q02 Tu29 G Ts3 Dc G) G G G (SG (XL H Ta3) G G G ?_)));refine DU hk91 (q0j G G) G G G (PT G G G (MV G G (SG (q01 G) G G G (PT G G G (MV G G (SG (q01 G) G G G (SG (q01 G) G G G (SG (q0i Tu27 hp4 G) G G G (DG hk92 (q0j G G) G G G (PT G G G (MV G G (q05 3 G G (PF G G G (MV G G (q05 6 G G (PF G G G (MV G G (GF G G G (PF G G G (AS G G (NL ?_)))))))))))))))))))));exact MN ⟨_,_,G,(H.pick (L':=[]) Kp),gM,hg_pow10,e88⟩
   rw[if_neg hk91] at e88;refine DT hk90 (q0j G G) G (MV G G (SG (q02 Tu29 G Ts3 Dc G) G G G (SG (XL H Ta3) G G G ?_)));refine DG hk91 (q0j G G) G G G (PT G G G (MV G G (GF G G G (PF G G G (MV G G (q05 4 G G (PF G G G (MV G G (q05 3 G G (PF G G G (MV G G (q05 6 G G (PF G G G (MV G G (GF G G G (PF G G G (AS G G (NL ?_))))))))))))))))));exact MN ⟨_,_,G,(H.pick (L':=[]) Kp),gM,hg_pow10,e88⟩
  rw[if_neg hk90] at e88;refine DF hk90 (q0j G G) G (MV G G (q05 3 G G (PF G G G (MV G G (GF G G G (PF G G G (MV G G (q05 4 G G (PF G G G (MV G G (q05 3 G G (PF G G G (MV G G (q05 6 G G (PF G G G (MV G G (GF G G G (PF G G G (AS G G (NL ?_))))))))))))))))))));exact MN ⟨_,_,G,(H.pick (L':=[]) Kp),gM,hg_pow10,e88⟩
 rintro e w ⟨b89,M,rfl,H,gM,hg_pow10,q98⟩;obtain rfl:=oI q98;refine TN (RT ?_);obtain rfl:=oI h;exact q0h G G H.ext G
end Go.Proofs.YtglpkikfplcckaaGreatDoor
end
section
namespace Go.Ph.Qp
open Go
def digs : Ls:=[48,49,50,51,52,53,54,55,56,57,65,66,67,68,69,70]
def dig (n:Nat):UInt8:=digs.getD (n % 16) 0
def hexV (c:UInt8):Option Nat :=
 if 48≤c.toNat∧c.toNat≤57 then some (c.toNat-48) else if 65≤c.toNat∧c.toNat≤70 then some (c.toNat-55) else if 97≤c.toNat∧c.toNat≤102 then some (c.toNat-87) else none
abbrev bl (c:UInt8):Prop:=c.toNat=32∨c.toNat=9
abbrev lineAt (l:Ls):Prop:=l.take 2=[13,10]
abbrev lit (c:UInt8)(r:Ls):Prop:=(33≤c.toNat∧c.toNat≤126∧c.toNat≠61)∨(bl c∧¬(r=[]∨lineAt r))
def hex (c:UInt8):Ls:=[61,dig (c.toNat / 16),dig c.toNat]
def sg (c:UInt8)(r:Ls):Ls:=if lit c r then [c] else hex c
def most (r:Ls):Nat:=if r≠ []∧¬lineAt r then 75 else 76
def encF : Nat→Nat→Ls→Ls
 | 0,_,_=>[]
 | _+1,_,[]=>[]
 | f+1,col,c::r =>
   if lineAt (c::r) then 13::10::encF f 0 (r.drop 1)
   else if most r<col+(sg c r).length then [61,13,10]++(sg c r++encF f (sg c r).length r) else sg c r++encF f (col+(sg c r).length) r
def enc (col:Nat)(l:Ls):Ls:=encF l.length col l
def esc (l:Ls):Option UInt8 :=
 if l[0]? = some 61 then match (l[1]?).bind hexV,(l[2]?).bind hexV with
  | some x,some y=>some (UInt8.ofNat (16*x+y))
  | _,_=>none
 else none
def plainF : Nat→Ls→Ls
 | 0,_=>[]
 | _+1,[]=>[]
 | f+1,c::r=>match esc (c::r) with
   | some x=>x::plainF f (r.drop 2)
   | none=>c::plainF f r
def plain (l:Ls):Ls:=plainF l.length l
def trimR (l:Ls):Ls:=(l.reverse.dropWhile (fun c=>decide (bl c))).reverse
def chop (x:UInt8)(l:Ls):Ls:=if l.getLast? = some x then l.dropLast else l
def body (s:Ls):Ls:=if s.getLast? = some 10 then chop 13 s.dropLast else s
def one (s:Ls):Ls:=if (trimR (body s)).getLast? = some 61 then plain (trimR (body s)).dropLast else plain (trimR (body s))++s.drop (body s).length
theorem trimR_snoc {P:Ls}{c:UInt8}(h :¬bl c):trimR (P++[c])=P++[c]:=by
 unfold trimR;rw[List.reverse_append,List.reverse_singleton,l1n,List.dropWhile_cons_of_neg (by simpa using h),List.reverse_cons,List.reverse_reverse]
theorem trimR_nil : trimR []=[]:=rfl
theorem trimR_blank {X Y:Ls}(h :∀c∈Y,bl c):trimR (X++Y)=trimR X:=by
 unfold trimR;rw[List.reverse_append,List.dropWhile_append_of_pos (fun c hc=>by simpa using h c (List.mem_reverse.1 hc))]
end Go.Ph.Qp
end
section
namespace Go.Ph.Fd
open Go Go.Ph.Qp
def bk (s:Ls)(i:Nat):Bool:=match s[i-1]?,s[i]? with
 | some a,some b=>decide (0<i∧bl b∧¬bl a)
 | _,_=>false
theorem bk_at {s:Ls}{i:Nat}{a b:UInt8}(h0:0<i)(ha:s[i-1]? = some a)(hb:s[i]? = some b):bk s i=decide (bl b∧¬bl a):=by
 unfold bk;rw[ha,hb];simp [h0]
def sc (s:Ls):Nat→Nat→Nat→Nat
 | 0,_,best=>best
 | f+1,i,best=>if bk s i then(if best=0∨i≤78 then sc s f (i+1) i else sc s f (i+1) best) else sc s f (i+1) best
theorem sc_stay (s:Ls):∀(f i best:Nat),0<best→78<i→sc s f i best=best:=by
 intro f;induction f with
 | zero=>intro i best _ _;rfl
 | succ f ih =>
   intro i best h1 h2;rw[sc];split
   · rw[if_neg Om,ih _ _ h1 Om]
   exact ih _ _ h1 Om
def pt (s:Ls)(k:Nat):Nat:=sc s (s.length-k) k 0
theorem sc_le (s:Ls):∀(f i best:Nat),sc s f i best=best∨(i≤sc s f i best∧sc s f i best<i+f∧bk s (sc s f i best)=true):=by
 intro f;induction f with
 | zero=>intro i best;exact .inl rfl
 | succ f ih =>
   intro i best;rw[sc];split
   · rename_i hb;split
     · rcases ih (i+1) i with h|⟨h1,h2,h3⟩
       · exact .inr ⟨by omega,by omega,by rw[h];exact hb⟩
       exact .inr ⟨by omega,by omega,h3⟩
     rcases ih (i+1) best with h|⟨h1,h2,h3⟩
     · exact .inl h
     exact .inr ⟨by omega,by omega,h3⟩
   rcases ih (i+1) best with h|⟨h1,h2,h3⟩
   · exact .inl h
   exact .inr ⟨by omega,by omega,h3⟩
theorem pt_lt {s:Ls}{k:Nat}(hk:0<k)(h:pt s k≠0):k≤pt s k∧pt s k<s.length∧bk s (pt s k)=true:=by
 unfold pt at h ⊢;rcases sc_le s (s.length-k) k 0 with h1|⟨h1,h2,h3⟩
 · exact absurd h1 h
 exact⟨h1,by omega,h3⟩
def flF : Nat→Ls→Nat→List Ls
 | 0,s,_=>[s]
 | f+1,s,k=>if 78<s.length∧pt s k≠0 then s.take (pt s k)::flF f (s.drop (pt s k)) 1 else [s]
theorem flF_more :∀(f g:Nat) (s:Ls) (k:Nat),0<k→s.length≤f→s.length≤g→flF f s k=flF g s k:=by
 intro f;induction f with
 | zero =>
   intro g s k hk hf hg;cases g with
   | zero=>rfl
   | succ g=>rw[flF,flF,if_neg Om]
 | succ f ih =>
   intro g s k hk hf hg;cases g with
   | zero=>rw[flF,flF,if_neg Om]
   | succ g =>
     rw[flF,flF];split
     · rename_i h;have h1:=pt_lt hk h.2;rw[ih g _ 1 Om (by rw[l0a];omega) (by rw[l0a];omega)]
     rfl
def fl (s:Ls)(k:Nat):List Ls:=flF s.length s k
theorem fl_more {s:Ls}{k:Nat}(hk:0<k)(h:78<s.length∧pt s k≠0):fl s k=s.take (pt s k)::fl (s.drop (pt s k)) 1:=by
 have h1:=pt_lt hk h.2;unfold fl;rw[flF_more s.length (s.length-1+1) s k hk (l09 _) Om,flF,if_pos h,flF_more _ (s.drop (pt s k)).length _ 1 Om (by rw[l0a];omega) (l09 _)]
theorem fl_end {s:Ls}{k:Nat}(h :¬(78<s.length∧pt s k≠0)):fl s k=[s]:=by
 unfold fl;cases hl:s.length with
 | zero=>rfl
 | succ n=>rw[flF,if_neg h]
theorem fl_flat :∀(n:Nat) (s:Ls) (k:Nat),0<k→s.length≤n→(fl s k).flatten=s:=by
 intro n;induction n with
 | zero =>
   intro s k _ h;obtain rfl:=l05 (Nat.le_zero.1 h);rfl
 | succ n ih =>
   intro s k hk h;by_cases hc:78<s.length∧pt s k≠0
   · have h1:=pt_lt hk hc.2;rw[fl_more hk hc,l0A,ih _ 1 Om (by rw[l0a];omega),l0w]
   rw[fl_end hc];simp
def step (at_:Nat)(best:Int)(p:Nat):Int:=if at_<p∧((p:Int)-(at_:Int)≤78∨best<0) then(p:Int) else best
end Go.Ph.Fd
end
section
section
namespace Go.Ph.Wd
open Go.Ph.Pl Go.Ph.Pf
open Go.Ph.Gr (chars Ch)
open Go.Ph.Chs (utf8)
theorem foldI {α σ γ:Type}{L:Nat→σ→Int→Option γ}(l:List α)(F:σ→α→σ)(fin:σ→γ)(I:Nat→σ→Prop)
 (hend :∀m s,I l.length s→L (m+1) s (l.length:Int)=some (fin s))
 (hstep :∀m s i a,l[i]? = some a→I i s→I (i+1) (F s a)∧L (m+1) s (i:Int)=L m (F s a) ((i+1:Nat):Int)) :
 ∀(d i:Nat) (s:σ) (m:Nat),l.length-i=d→i≤l.length→d<m→I i s→L m s (i:Int)=some (fin ((l.drop i).foldl F s)):=by
 intro d;induction d with
 | zero =>
   intro i s m h1 h2 h3 hI;obtain⟨m,rfl⟩ :∃k,m=k+1:=⟨m-1,by omega⟩
   obtain rfl:i=l.length:=by omega
   rw[hend m s hI,l0J];rfl
 | succ d ih =>
   intro i s m h1 h2 h3 hI;obtain⟨m,rfl⟩ :∃k,m=k+1:=⟨m-1,by omega⟩
   have hi:i<l.length:=by omega
   obtain⟨hI',hL⟩:=hstep m s i l[i] (List.getElem?_eq_getElem hi) hI;rw[hL,ih (i+1) _ m Om Om Om hI',l0R hi];rfl
theorem foldI0 {α σ γ:Type}{L:Nat→σ→Int→Option γ}(l:List α)(F:σ→α→σ)(fin:σ→γ)(I:Nat→σ→Prop)(hl:l.length≤9223372036854775807)
 (hend :∀m s,I l.length s→L (m+1) s (l.length:Int)=some (fin s))
 (hstep :∀m s i a,l[i]? = some a→I i s→I (i+1) (F s a)∧L (m+1) s (i:Int)=L m (F s a) ((i+1:Nat):Int)) (s:σ) (h0:I 0 s):L FU s 0=some (fin (l.foldl F s)):=by
 have:=foldI l F fin I hend hstep l.length 0 s FU Om Om (FU_gt hl) h0;simpa using this
theorem foldl_app {α β:Type}(f:α→List β):∀(l:List α) (o:List β),l.foldl (fun o a=>o++f a) o=o++l.flatMap f
 | [],o=>by simp
 | a::l,o=>by rw[l1l,foldl_app f l];simp
def hexd : Ls:=[48,49,50,51,52,53,54,55,56,57,65,66,67,68,69,70]
def hx (n:Nat):UInt8:=hexd.getD n 0
theorem flatMap_len {α β:Type}(f:α→List β)(n:Nat):∀(l:List α),(∀a∈l,(f a).length≤n)→(l.flatMap f).length≤n*l.length
 | [],_=>by simp
 | a::l,h=>by
   have h1:=h a Sm;have h2:=flatMap_len f n l (fun x hx=>h x (by simp [hx]));simp only[l0t,l01,l02,Nat.mul_succ];omega
end Go.Ph.Wd
end
section
namespace Go.Ph.Pf
open Go.Ph.Pl Go.Ph.Qp Go.Ph.Fd
abbrev Big (l:Ls):Prop:=l.length≤140737488355328
theorem Y1c (c:UInt8):Y10 c=some (decide (bl c)):=by
 unfold Y10 bl;have e1:(c=32)↔c.toNat=32:=u8_lit c 32;have e2:(c=9)↔c.toNat=9:=u8_lit c 9;by_cases h:c=32
 · simp [h]
 rw[if_neg h];have h' :¬c.toNat=32:=fun x=>h (e1.2 x)
 simp [h',e2]
theorem Y1z (l:Ls)(hl:Big l)(g:UInt8→Option Bool)(p:UInt8→Bool)(hg :∀c,g c=some (p c)):Y1a l g=some (l.all p):=by
 unfold Y1a;rw[scan0 (L:=Y0Z l g) (l:=l) (p:=fun c => !p c) (stop := .inl ()) (r := .inr false) (FU_gt Om) (fun m=>by rw[Y0Z,if_neg Om]) (fun m i h=>by
  rw[Y0Z,if_pos Om,idx_nat,List.getElem?_eq_getElem h,chk_succ (by have:=hl;omega)];simp only[bsome,hg];cases p l[i] <;> simp)]
 simp only[bsome];rw[List.all_eq_not_any_not];cases l.any (fun c => !p c) <;> simp
def nmB (c:UInt8):Bool:=decide (33≤c.toNat∧c.toNat≤126∧c.toNat≠58)
theorem fold_name_1_eq (c:UInt8):fold_name_1 c=some (nmB c):=by
 unfold fold_name_1 nmB;have e:(c=58)↔c.toNat=58:=u8_lit c 58;by_cases h1:33≤c.toNat <;> by_cases h2:c.toNat≤126 <;> by_cases h3:c.toNat=58 <;> simp [h1,h2,h3,e]
def nmL (l:Ls):Bool:=l.all nmB&&decide (1≤l.length∧l.length≤60)
theorem fold_name_eq (l:Ls)(hl:Big l):fold_name l=some (nmL l):=by
 unfold fold_name nmL;by_cases h:l=[]
 · subst h;rfl
 have hpos:1≤l.length:=by cases l <;> simp_all
 rw[if_neg h];by_cases h2:l.length≤60
 · rw[if_pos Om,Y1z l hl _ nmB fold_name_1_eq];simp [hpos,h2]
 rw[if_neg Om];simp [h2]
def endB (c:UInt8):Bool:=decide (c.toNat=13∨c.toNat=10∨c.toNat=0)
def trimL (l:Ls):Ls:=l.dropWhile (fun c=>decide (bl c))
theorem trimL_nil : trimL []=[]:=rfl
theorem trimL_pos {c:UInt8}{r:Ls}(h:bl c):trimL (c::r)=trimL r:=by unfold trimL;rw [List.dropWhile_cons_of_pos (by simpa using h)]
theorem trimL_neg {c:UInt8}{r:Ls}(h :¬bl c):trimL (c::r)=c::r:=by unfold trimL;rw [List.dropWhile_cons_of_neg (by simpa using h)]
theorem trimL_len (l:Ls):(trimL l).length≤l.length:=(List.dropWhile_sublist _).length_le
theorem trimR_len (l:Ls):(trimR l).length≤l.length:=by
 unfold trimR;rw [List.length_reverse];have:=(List.dropWhile_sublist (l:=l.reverse) (fun c=>decide (bl c))).length_le;simpa using this
theorem snoc_cases (l:Ls):l=[]∨∃a c,l=a++[c]:=by
 rcases List.eq_nil_or_concat l with h|⟨a,c,h⟩
 · exact .inl h
 exact .inr ⟨a,c,by rw[h,List.concat_eq_append]⟩
theorem trimR_bl {a:Ls}{c:UInt8}(h:bl c):trimR (a++[c])=trimR a:=trimR_blank (fun x hx=>by simp at hx;rw [hx];exact h)
theorem trimR_nb {a:Ls}{c:UInt8}(h :¬bl c):trimR (a++[c])=a++[c]:=trimR_snoc h
def trimB (l:Ls):Ls:=trimR (trimL l)
theorem set_end : Y0w [13,10,0]=some ((List.range 256).map (fun n=>decide (n=13∨n=10∨n=0)),true):=by decide +kernel
theorem contains_at (f:Nat→Bool)(c:UInt8):Y0q ((List.range 256).map f) c=some (f c.toNat):=by
 have hc:=c.toNat_lt;unfold Y0q idxA;rw[if_pos Sm,idx_nat,List.getElem?_map,List.getElem?_range Om];rfl
theorem rep_len : chkA 256 (List.replicate 256 false:List Bool)=some (List.replicate 256 false):=chkA_ok List.length_replicate
theorem rng_len (f:Nat→Bool):chkA 256 ((List.range 256).map f)=some ((List.range 256).map f):=chkA_ok (by rw[l0d,List.length_range])
theorem dr_facts (l:Ls):1≤(Utf.dr l).2∧(Utf.dr l).2≤4∧(Utf.nat l 0<128→(Utf.dr l).1=Utf.nat l 0∧(Utf.dr l).2=1)∧(128≤Utf.nat l 0→128≤(Utf.dr l).1)∧
 (2≤(Utf.dr l).2→128≤Utf.nat l 1∧1<l.length)∧(3≤(Utf.dr l).2→128≤Utf.nat l 2∧2<l.length)∧(4≤(Utf.dr l).2→128≤Utf.nat l 3∧3<l.length)∧(Utf.dr l).1≤1114111:=by
 have h0:=Utf.nat_lt l 0;have h1:=Utf.nat_lt l 1;have h2:=Utf.nat_lt l 2;have h3:=Utf.nat_lt l 3;unfold Utf.dr Lib.decodeN;split
 · refine⟨by omega,by omega,fun _=>⟨G,G⟩,fun h=>by omega,fun h=>by omega,fun h=>by omega,fun h=>by omega,by omega⟩
 split
 · split <;> simp only[] <;> omega
 split
 · split <;> simp only[] <;> omega
 split
 · split <;> simp only[] <;> omega
 simp only[];omega
theorem endB_lt {c:UInt8}(h:endB c=true):c.toNat<128:=by unfold endB at h;rw [decide_eq_true_eq] at h;omega
theorem any_rune {l:Ls}{ps:Nat}(h:ps<l.length):(l.drop ps).any endB=(decide ((Utf.dr (l.drop ps)).1=13∨(Utf.dr (l.drop ps)).1=10∨(Utf.dr (l.drop ps)).1=0) ||(l.drop (ps+(Utf.dr (l.drop ps)).2)).any endB):=by
 obtain⟨a1,a2,a3,a4,a5,a6,a7,a8⟩:=dr_facts (l.drop ps);have hl:(l.drop ps).length=l.length-ps:=l0a;have hn :∀j,ps+j<l.length→Utf.nat (l.drop ps) j=(l[ps+j]?.getD 0).toNat:=fun j hj=>by rw[Utf.nat_drop];unfold Utf.nat;rw [l0m]
 have hnb :∀j (hj:ps+j<l.length),128≤Utf.nat (l.drop ps) j→endB l[ps+j]=false:=fun j hj h8=>by
  rw[hn j hj,List.getElem?_eq_getElem hj] at h8;cases hb:endB l[ps+j] with
  | false=>rfl
  | true=>have:=endB_lt hb;simp at h8;omega
 have hd :∀j,ps+j<l.length→(l.drop (ps+j)).any endB=((l[ps+j]?.elim false endB) ||(l.drop (ps+j+1)).any endB):=fun j hj=>by
  rw[drop_cons hj,List.any_cons,List.getElem?_eq_getElem hj];rfl
 have hfirst:(l[ps]?.elim false endB)=decide ((Utf.dr (l.drop ps)).1=13∨(Utf.dr (l.drop ps)).1=10∨(Utf.dr (l.drop ps)).1=0):=by
  rw[List.getElem?_eq_getElem h];have h0:=hn 0 Om;rw[l0U,List.getElem?_eq_getElem h] at h0;simp only[l1D] at h0;show endB l[ps]=_
  rcases l0G (Utf.nat (l.drop ps) 0) 128 with hc|hc
  · rw[(a3 hc).1,h0];rfl
  have:=hnb 0 Om hc;simp only[l0U] at this;rw[this];have:=a4 hc;exact(decide_eq_false Om).symm
 have d0:=hd 0 Om;simp only[l0U] at d0;rw[d0,hfirst];congr 1;have skip :∀j,ps+j<l.length→128≤Utf.nat (l.drop ps) j→(l.drop (ps+j)).any endB=(l.drop (ps+j+1)).any endB:=fun j hj h8=>by
  rw[hd j hj,List.getElem?_eq_getElem hj];show(endB l[ps+j] || _)=_
  rw[hnb j hj h8,l1c]
 rcases(show(Utf.dr (l.drop ps)).2=1∨(Utf.dr (l.drop ps)).2=2∨(Utf.dr (l.drop ps)).2=3∨(Utf.dr (l.drop ps)).2=4 by omega) with e|e|e|e
 · rw[e]
 · rw[e,skip 1 Om (a5 Om).1]
 · rw[e,skip 1 (by have:=(a5 Om).2;omega) (a5 Om).1,skip 2 (by have:=(a6 Om).2;omega) (a6 Om).1]
 rw[e,skip 1 (by have:=(a5 Om).2;omega) (a5 Om).1,skip 2 (by have:=(a6 Om).2;omega) (a6 Om).1,skip 3 (by have:=(a7 Om).2;omega) (a7 Om).1]
theorem ub_high {a:Int}(h1:128≤a)(h2:a<256):128≤(Ph.ub a).toNat:=by
 unfold Ph.ub;rw[UInt8.toNat_ofNat'];omega
theorem Y2d {r:Int}(h:128≤r):2≤(Chs.utf8 r).length∧(Chs.utf8 r).length≤4∧∀c∈Chs.utf8 r,128≤c.toNat:=by
 have hf:128≤Chs.fixN r:=by unfold Chs.fixN;split <;> omega
 have hk:=Chs.fixN_ok r;unfold Chs.utf8 Chs.utf8M;rw[if_neg Om];split
 · refine⟨by simp,by simp,fun c hc=>?_⟩;simp only[l0v,l0o,or_false] at hc;rcases hc with rfl|rfl <;> exact ub_high Om Om
 split
 · refine⟨by simp,by simp,fun c hc=>?_⟩;simp only[l0v,l0o,or_false] at hc;rcases hc with rfl|rfl|rfl <;> exact ub_high Om Om
 refine⟨by simp,by simp,fun c hc=>?_⟩;simp only[l0v,l0o,or_false] at hc;rcases hc with rfl|rfl|rfl|rfl <;> exact ub_high Om Om
theorem ix_low :∀n:Nat,n<128→decide ((0:Int)≤ixB [13,10,0] (ub8 (n:Int)))=decide (n=13∨n=10∨n=0):=by decide +kernel
theorem ix_high :∀k,k<4→∀n,n<256→128≤n→ixB (([13,10,0]:Ls).drop k) (UInt8.ofNat n) = -1:=by decide +kernel
theorem IndexRune_end (r:Nat):∃n,Y0I [13,10,0] (r:Int)=some n∧decide ((0:Int)≤n)=decide (r=13∨r=10∨r=0):=by
 unfold Y0I;rw[if_pos Om];simp only[bsome];by_cases h1:r<128
 · rw[decide_eq_true Om,if_pos rfl];exact⟨_,G,ix_low r h1⟩
 rw[decide_eq_false Om,if_neg Sm,decide_eq_false (show ¬(r=13∨r=10∨r=0) by omega)];have neg :∀{x:Option Int},x=some (-1)→∃n,x=some n∧decide ((0:Int)≤n)=false:=fun h=>⟨-1,h,by decide⟩
 refine neg ?_;by_cases h2:(r:Int)=65533
 · rw[if_pos h2];decide +kernel
 rw[if_neg h2];have hv :∃b,Y0U (r:Int)=some b:=by
  unfold Y0U;rw[if_pos Om];simp only[bsome];split
  · exact⟨_,G⟩
  split
  · simp only[bsome];split <;> exact⟨_,rfl⟩
  simp only[bsome];exact ⟨_,rfl⟩
 obtain⟨b,hb⟩:=hv;rw[hb];simp only[bsome];cases b with
 | false=>rfl
 | true =>
   rw[if_pos rfl];obtain⟨u1,u2,u3⟩:=Y2d (r:=(r:Int)) Om;rw[show ((Chs.utf8 (r:Int)).length:Int)-1=(((Chs.utf8 (r:Int)).length-1:Nat):Int) by omega,chk_ok Om Om];simp only[bsome];generalize hk:(Chs.utf8 (r:Int)).length-1=k;rw[show FU=18446744073709551615+1 from rfl,Y0E];have hkl:k<(Chs.utf8 (r:Int)).length:=by omega
   have hc:=u3 _ (l0s hkl);by_cases h3:k<3
   · rw[if_pos (by simp;omega),idx_nat,idx_nat,List.getElem?_eq_getElem hkl,List.getElem?_eq_getElem (show k<([13,10,0]:Ls).length from h3)];simp only[bsome];have hne :¬(([13,10,0]:Ls)[k]'h3=(Chs.utf8 (r:Int))[k]):=by
      intro he;rw[←he] at hc;have :∀k (h:k<3),(([13,10,0]:Ls)[k]'h).toNat<128:=by decide
      have:=this k h3;omega
     rw[if_neg hne,chk_succ Om];simp only[bsome];rw[cut_from rfl (by simp;omega)];simp only[bsome];unfold Y0n;have hx:=ix_high (k+1) Om ((Chs.utf8 (r:Int))[k]).toNat (UInt8.toNat_lt _) hc;rw[UInt8.ofNat_toNat] at hx;rw[hx];simp only[bsome];rw[if_pos Om];simp only[bsome]
   rw[if_neg (by simp;omega)];simp only[bsome]
theorem IndexAny_L2_end (l:Ls):∀(k ps m:Nat),l.length-ps≤k→k<m→∃o,Y0j l [13,10,0] m ps=some o∧((l.drop ps).any endB=true→∃n,o = .inr n∧0≤n)∧((l.drop ps).any endB=false→o = .inl ())
 | k,ps,m,h1,h2=>by
   obtain⟨m,rfl⟩ :∃k,m=k+1:=⟨m-1,by omega⟩
   by_cases h:ps<l.length
   · rw[Y0j,if_pos h];obtain⟨n,hn1,hn2⟩:=IndexRune_end (Utf.dr (l.drop ps)).1;rw[hn1];simp only[bsome];rw[any_rune h];by_cases hc:0≤n
     · rw[if_pos hc];rw[decide_eq_true hc] at hn2;rw[←hn2];exact⟨_,G,fun _=>⟨_,G,by omega⟩,fun h=>by simp at h⟩
     rw[if_neg hc];rw[decide_eq_false hc] at hn2;rw[←hn2,l1c];have hs:=(dr_facts (l.drop ps)).1;cases k with
     | zero=>omega
     | succ k=>exact IndexAny_L2_end l k (ps+(Utf.dr (l.drop ps)).2) m Om Om
   rw[Y0j,if_neg h,l0N Om];exact⟨_,G,fun h=>by simp at h,fun _=>G⟩
theorem fold_ends_eq (l:Ls)(hl:Big l):fold_ends l=some (l.any endB):=by
 unfold fold_ends Y0x Y0P Y0f;rw[if_neg Dc,if_neg Dc];simp only[bsome];by_cases h8:8<l.length
 · rw[decide_eq_true Om,if_pos rfl,set_end];simp only[bsome,rep_len,rng_len,if_true];rcases scanP (Y0i l ((List.range 256).map (fun n=>decide (n=13∨n=10∨n=0)))) l (fun i c=>if endB c=true then some (Sum.inr (i:Int)) else none) (.inl ()) (fun m=>by rw[Y0i,if_neg Om]) (fun m i h=>by
    rw[Y0i,if_pos Om,idx_nat,List.getElem?_eq_getElem h,chk_succ (by have:=hl;omega)];simp only[bsome,contains_at];show(if endB l[i]=true then _ else _)=_
    by_cases he:endB l[i]=true
    · rw[if_pos he,if_pos he]
    rw[if_neg he,if_neg he]) l.length 0 FU Om (FU_gt Om) Om with ⟨j,hj,r,a1,a2,a3,a4⟩|⟨a1,a2⟩
   · rw[show ((0:Nat):Int)=0 from rfl] at a4;rw[a4];split at a2
     · rename_i he;cases a2;have:l.any endB=true:=List.any_eq_true.2 ⟨_,l0s hj,he⟩;rw[this];simp only[bsome];rw[decide_eq_true Om]
     cases a2
   rw[show ((0:Nat):Int)=0 from rfl] at a2;rw[a2];have:l.any endB=false:=by
    rw[List.any_eq_false];intro c hc;obtain⟨i,hi,rfl⟩:=l0K hc;have:=a1 i hi Om;intro he;rw[if_pos he] at this;cases this
   rw[this];simp only[bsome];rfl
 rw[decide_eq_false Om,if_neg Sm];simp only[bsome];obtain⟨o,ho,h1,h2⟩:=IndexAny_L2_end l l.length 0 FU Om (FU_gt Om);rw[l1e] at h1 h2;rw[ho];simp only[bsome];cases hb:l.any endB with
 | true =>
   obtain⟨n,rfl,hn⟩:=h1 hb;simp only[bsome];rw[decide_eq_true hn]
 | false =>
   rw[h2 hb];simp only[bsome];rfl
theorem trimB_self (l:Ls):trimB l=l↔(l=[]∨((∀c,l.head? = some c→¬bl c)∧(∀c,l.getLast? = some c→¬bl c))):=by
 unfold trimB;cases l with
 | nil=>simp [trimL_nil,trimR_nil]
 | cons c r =>
   constructor
   · intro h;have hc :¬bl c:=by
      intro hb;rw[trimL_pos hb] at h;have h1:=trimR_len (trimL r);have h2:=trimL_len r;rw[h] at h1;simp at h1;omega
     rw[trimL_neg hc] at h;refine .inr ⟨fun d hd=>by simp at hd;rw [←hd];exact hc,fun d hd hb=>?_⟩;rcases snoc_cases (c::r) with h0|⟨a,x,hax⟩
     · cases h0
     rw[hax] at hd h;simp at hd;subst hd;rw[trimR_bl hb] at h;have:=trimR_len a;rw[h] at this;simp at this;omega
   rintro(h|⟨h1,h2⟩)
   · cases h
   rw[trimL_neg (h1 c rfl)];rcases snoc_cases (c::r) with h0|⟨a,x,hax⟩
   · cases h0
   rw[hax] at h2 ⊢;exact trimR_nb (h2 x Sm)
def valB (l:Ls):Bool := !l.any endB&&decide (trimB l=l)
theorem fold_value_eq (l:Ls)(hl:Big l):fold_value l=some (valB l):=by
 unfold fold_value valB;rw[fold_ends_eq l hl];simp only[bsome];cases hb:l.any endB with
 | true=>rfl
 | false =>
   simp only[l0j,if_false];rw[show decide (trimB l=l)=decide (l=[]∨((∀c,l.head? = some c→¬bl c)∧(∀c,l.getLast? = some c→¬bl c))) from decide_eq_decide.2 (trimB_self l)];by_cases h:l=[]
   · rw[if_pos h,decide_eq_true (.inl h)];rfl
   rw[if_neg h];have hpos:0<l.length:=by cases l <;> simp_all
   have hh:l.head? = some l[0]:=by rw[List.head?_eq_getElem?,List.getElem?_eq_getElem hpos]
   have hg:l.getLast? = some (l[l.length-1]'Om):=by rw[List.getLast?_eq_getElem?,List.getElem?_eq_getElem]
   rw[show (0:Int)=((0:Nat):Int) from rfl,idx_nat,List.getElem?_eq_getElem hpos,chk_pred Om Om];simp only[bsome,Y1c];rw[idx_nat,List.getElem?_eq_getElem Om];simp only[bsome,Y1c,hh,hg,Option.some.injEq];by_cases h1:bl l[0]
   · rw[decide_eq_true h1,if_pos rfl];simp only[bsome];rw[decide_eq_false (fun x=>x.elim h (fun y=>y.1 _ hh h1))];rfl
   rw[decide_eq_false h1,if_neg Sm];simp only[bsome];by_cases h2:bl (l[l.length-1]'Om)
   · rw[decide_eq_true h2,decide_eq_false (fun x=>x.elim h (fun y=>y.2 _ hg h2))];rfl
   rw[decide_eq_false h2,decide_eq_true (.inr ⟨fun c hc=>by rw[hh] at hc;cases hc;exact h1,fun c hc=>by rw[hg] at hc;cases hc;exact h2⟩)];rfl
def codeF (n v:Ls):Int:=if nmL n=true then(if 4000<v.length then 1 else if valB v=true then 0 else 11) else 10
theorem bk_at' {s:Ls}{i:Nat}(h0:0<i)(h:i<s.length):bk s i=decide (bl s[i]∧¬bl (s[i-1]'Om)):=bk_at h0 (List.getElem?_eq_getElem _) (List.getElem?_eq_getElem _)
theorem point_loop (s:Ls)(hs:s.length≤1000000):∀(k i m best:Nat),s.length-i≤k→k<m→0<i→fold_point_L1 s m (best:Int) (i:Int)=some ((sc s (s.length-i) i best:Nat):Int)
 | k, i, m,best,h1,h2,h3=>by
   obtain⟨m,rfl⟩ :∃k,m=k+1:=⟨m-1,by omega⟩
   by_cases hi:i<s.length
   · cases k with
     | zero=>omega
     | succ k =>
     rw[fold_point_L1,if_pos Om,idx_nat,List.getElem?_eq_getElem hi,chk_pred Om Om,chk_succ Om];simp only[bsome,Y1c,idx_nat];rw[List.getElem?_eq_getElem (show i-1<s.length by omega)];simp only[bsome,Y1c];have hc:(if decide (bl s[i])=true then some (decide (bl (s[i-1]'Om))) else some true)=some (!bk s i):=by
      rw[bk_at' h3 hi];by_cases c1:bl s[i] <;> by_cases c2:bl (s[i-1]'Om) <;> simp [c1,c2]
     rw[hc];simp only[bsome];rw[show s.length-i=(s.length-(i+1))+1 by omega,sc];cases hb:bk s i with
     | false =>
       simp only[Bool.not_false,if_true,l0j,if_false];exact point_loop s hs k (i+1) m best Om Om Om
     | true =>
       simp only[l1C,if_true,l0j,if_false];by_cases hbest:0<best
       · rw[if_pos Om];simp only[bsome];by_cases h78:78<i
         · rw[decide_eq_true Om,if_pos rfl,if_neg Om,sc_stay _ _ _ _ hbest Om]
         rw[decide_eq_false Om,if_neg Sm,if_pos Om];exact point_loop s hs k (i+1) m i Om Om Om
       rw[if_neg Om];simp only[bsome,l0j,if_false];rw[if_pos Om];exact point_loop s hs k (i+1) m i Om Om Om
   rw[fold_point_L1,if_neg Om,show s.length-i=0 by omega];rfl
theorem fold_point_eq (s:Ls)(hs:s.length≤1000000)(k:Nat):fold_point s (k:Int)=some ((pt s (max k 1):Nat):Int):=by
 unfold fold_point pt;rw[show max (k:Int) 1=((max k 1:Nat):Int) by omega];have:=point_loop s hs s.length (max k 1) FU 0 Om (FU_gt Om) Om;rw[show ((0:Nat):Int)=0 from rfl] at this;rw[this];rfl
theorem fold_L1_eq :∀(f m k:Nat) (s:Ls) (o:List Ls),s.length≤f→f<m→s.length≤1000000→o.length+s.length≤1000000→
 ∃a b,fold_Fold_L1 m s (k:Int) o=some (a,b)∧b++[a]=o++fl s (max k 1)∧a.length≤s.length∧b.length≤o.length+s.length
 | f,m,k,s,o,h1,h2,h3,h4=>by
   obtain⟨m,rfl⟩ :∃k,m=k+1:=⟨m-1,by omega⟩
   by_cases h78:78<s.length
   · rw[fold_Fold_L1,if_pos Om,fold_point_eq s h3];simp only[bsome];by_cases h0:pt s (max k 1)=0
     · rw[if_pos Om,fl_end (fun h=>h.2 h0)];exact⟨_,_,G,G,l09 _,by omega⟩
     obtain⟨p1,p2,p3⟩:=pt_lt Om h0;rw[if_neg Om,cut_to rfl Om,cut_from rfl Om];simp only[bsome];rw[app_ok (by simp only[l02,l08];omega)];simp only[bsome];cases f with
     | zero=>omega
     | succ f =>
       obtain⟨a,b,e1,e2,e3,e4⟩:=fold_L1_eq f m 0 (s.drop (pt s (max k 1))) (o++[s.take (pt s (max k 1))]) (by rw[l0a];omega) Om (by rw[l0a];omega) (by rw[l01,l0a];simp;omega);rw[l0a] at e3 e4;simp only[l01,l02,l08] at e4;refine⟨a,b,e1,?_,by omega,by omega⟩;rw[e2,fl_more Om ⟨h78,h0⟩];simp
   rw[fold_Fold_L1,if_neg Om,fl_end (fun h=>h78 h.1)];exact⟨_,_,G,G,l09 _,by omega⟩
def bigL (a:Ls):Bool:=decide (998<a.length)
theorem first_big {β:Type}(L:Nat→Int→Option β)(l:List Ls)(hl:l.length≤1000000)(r:Nat→β)(stop:β)(hend :∀m,L (m+1) (l.length:Int)=some stop)
 (hstep :∀m i (h:i<l.length),L (m+1) (i:Int)=if bigL l[i]=true then some (r i) else L m ((i+1:Nat):Int)):L FU 0=some (match l.findIdx? bigL with|some j=>r j|none=>stop):=by
 rcases scanP L l (fun i a=>if bigL a=true then some (r i) else none) stop hend (fun m i h=>by
  rw[hstep m i h];split <;> rfl) l.length 0 FU Om (FU_gt Om) Om with ⟨j,hj,x,a1,a2,a3,a4⟩|⟨a1,a2⟩
 · rw[show ((0:Nat):Int)=0 from rfl] at a4;rw[a4];have hb:bigL l[j]=true:=by
    by_cases hb:bigL l[j]=true
    · exact hb
    simp only[hb,if_false,l0j] at a2;cases a2
   simp only[hb,if_true] at a2;cases a2;have:l.findIdx? bigL=some j:=by
    rw[List.findIdx?_eq_some_iff_getElem];refine⟨hj,hb,fun a ha=>?_⟩;have:=a3 a Om Om ha;intro hc;simp only[hc,if_true] at this;cases this
   rw[this]
 rw[show ((0:Nat):Int)=0 from rfl] at a2;rw[a2];have:l.findIdx? bigL=none:=by
  rw[List.findIdx?_eq_none_iff];intro x hx;obtain⟨i,hi,rfl⟩:=l0K hx;have:=a1 i hi Om;cases hc:bigL l[i] with
  | false=>rfl
  | true=>simp only[hc,if_true] at this;cases this
 rw[this]
theorem fl_len :∀(n:Nat) (s:Ls) (k:Nat),0<k→s.length≤n→(fl s k).length≤s.length+1
 | 0,s,k,hk,h=>by
   rw[fl_end (fun h'=>by omega)];simp
 | n + 1,s,k,hk,h=>by
   by_cases hc:78<s.length∧pt s k≠0
   · have h1:=pt_lt hk hc.2;have:=fl_len n (s.drop (pt s k)) 1 Om (by rw[l0a];omega);rw[fl_more hk hc,l02];rw[l0a] at this;omega
   rw[fl_end hc];simp
def fieldS (n v:Ls):Ls:=n++[58,32]++v
def foldR (n v:Ls):List Ls × (Int × Int) :=
 if codeF n v=0 then(match (fl (fieldS n v) (n.length+2)).findIdx? bigL with|some j=>([],(1,(j:Int)))|none=>(fl (fieldS n v) (n.length+2),(0,0))) else([],(codeF n v,-1))
theorem nmL_len {n:Ls}(h:nmL n=true):1≤n.length∧n.length≤60:=by
 unfold nmL at h;rw[l0e,decide_eq_true_eq] at h;exact h.2
theorem fold_Fold_eq (n v:Ls)(hn:Big n)(hv:Big v):fold_Fold n v=some (foldR n v):=by
 unfold fold_Fold foldR codeF;rw[fold_name_eq n hn];simp only[bsome];cases h:nmL n with
 | false=>rfl
 | true =>
   have h60:=nmL_len h;simp only[if_true];by_cases hv4:4000<v.length
   · rw[if_pos Om,if_pos hv4];rfl
   rw[if_neg Om,if_neg hv4,fold_value_eq v hv];simp only[bsome];cases hb:valB v with
   | false=>rfl
   | true =>
     simp only[if_true];have e1:(n++[58,32]++v)=fieldS n v:=rfl;have hsl:(fieldS n v).length=n.length+2+v.length:=by unfold fieldS;simp;omega
     rw[cat_ok (by simp only[l02,l08];omega)];simp only[bsome];rw[cat_ok (by rw[l01];simp only[l02,l08];omega),show ((n.length:Int)+2)=((n.length+2:Nat):Int) by omega,chk_ok Om Om];simp only[bsome,e1];obtain⟨a,b,f1,f2,f3,f4⟩:=fold_L1_eq (fieldS n v).length FU (n.length+2) (fieldS n v) [] (l09 _) (FU_gt Om) Om (by simp;omega);rw[f1];simp only[bsome];rw[app_ok (by simp only[l02,l08] at f4 ⊢;omega)];simp only[bsome];rw[f2,l04,show max (n.length+2) 1=n.length+2 by omega];have hfl:=fl_len (fieldS n v).length (fieldS n v) (n.length+2) Om (l09 _);rw[first_big (fun m i=>fold_Fold_L2 (fl (fieldS n v) (n.length+2)) m 0 0 i) (fl (fieldS n v) (n.length+2)) Om (fun i => .inr ([],(1,(i:Int)))) (.inl (0,0)) (fun m=>by rw[fold_Fold_L2,if_neg Om]) (fun m i h=>by
      rw[fold_Fold_L2,if_pos Om,idx_nat,List.getElem?_eq_getElem h,chk_succ Om];simp only[bsome];unfold bigL Y03;by_cases hbig:998<((fl (fieldS n v) (n.length+2))[i]).length
      · rw[if_pos Om,if_pos (decide_eq_true hbig)];rfl
      rw[if_neg Om,if_neg (by rw[decide_eq_true_eq];exact hbig)])]
     simp only[bsome];cases(fl (fieldS n v) (n.length+2)).findIdx? bigL with
     | none=>rfl
     | some j=>rfl
def faultR (n v:Ls):Int × Int :=
 if codeF n v=0 then(match (fl (fieldS n v) (n.length+2)).findIdx? bigL with|some j=>(1,(j:Int))|none=>(0,0)) else(codeF n v,-1)
theorem codeF_zero {n v:Ls}(h:codeF n v=0):nmL n=true∧v.length≤4000∧valB v=true:=by
 unfold codeF at h;split at h
 · split at h
   · cases h
   split at h
   · exact⟨by assumption,by omega,by assumption⟩
   cases h
 cases h
def hd (a:Ls):Bool:=match a with|[]=>true|c::_ => !decide (bl c)
end Go.Ph.Pf
end
section
namespace Go.Ph.Hd
open Go.Ph.Pl Go.Ph.Pf Go.Ph.Wd
open Go.Ph.Fd (fl fl_flat)
abbrev Fld : Type:=Ls × Ls
abbrev BigF (l:List Fld):Prop :=∀x∈l,Big x.1∧Big x.2
theorem foldR_snd (n v:Ls):(foldR n v).2=faultR n v:=by
 unfold foldR faultR;by_cases h:codeF n v=0
 · rw[if_pos h,if_pos h];cases(fl (fieldS n v) (n.length+2)).findIdx? bigL <;> rfl
 rw[if_neg h,if_neg h]
theorem failed_eq (a b:Int):Y02 (a,b)=some (!decide (a=0)):=rfl
theorem fault_eq (a b:Int):Y03 a b=some (a,b):=by unfold Y03;rfl
def ffz (i:Nat):List Fld→Int × Int
 | []=>(0,0)
 | x::r=>if (faultR x.1 x.2).1=0 then ffz (i+1) r else((faultR x.1 x.2).1,(i:Int))
theorem ffz_zero :∀{l:List Fld} {i:Nat},(ffz i l).1=0→ffz i l=(0,0)∧∀x∈l,(faultR x.1 x.2).1=0
 | [],i,h=>⟨rfl,fun x hx=>by cases hx⟩
 | x :: r,i,h=>by
   rw[ffz] at h ⊢;by_cases hx:(faultR x.1 x.2).1=0
   · rw[if_pos hx] at h ⊢;obtain⟨h1,h2⟩:=ffz_zero h;refine⟨h1,fun y hy=>?_⟩;rcases List.mem_cons.1 hy with rfl|hy
     · exact hx
     exact h2 y hy
   rw[if_neg hx] at h;exact absurd h hx
theorem valid_L1 (l:List Fld)(hl:l.length≤1000)(hb:BigF l)(n9 n10:Int):∀(d i m:Nat),l.length-i≤d→d<m→i≤l.length→
 Y0h l m n9 n10 (i:Int)=some (if (ffz i (l.drop i)).1=0 then .inl (n9,n10) else .inr (ffz i (l.drop i))):=by
 intro d;induction d with
 | zero =>
   intro i m h1 h2 h3;obtain⟨m,rfl⟩ :∃k,m=k+1:=⟨m-1,by omega⟩
   rw[Y0h,if_neg Om,l0D Om];rfl
 | succ d ih =>
   intro i m h1 h2 h3;obtain⟨m,rfl⟩ :∃k,m=k+1:=⟨m-1,by omega⟩
   by_cases hi:i<l.length
   · have hx:=hb l[i] (l0s hi);rw[Y0h,if_pos Om,idx_nat,List.getElem?_eq_getElem hi,bsome,fold_Fold_eq _ _ hx.1 hx.2,l0R hi,ffz];have hs:=foldR_snd l[i].1 l[i].2;obtain⟨⟨L,a,b⟩,hr⟩ :∃p,foldR l[i].1 l[i].2=p:=⟨_,rfl⟩
     rw[hr] at hs ⊢;rw[bsome];dsimp only at hs ⊢;rw[failed_eq,bsome,←hs];by_cases ha:a=0
     · rw[decide_eq_true ha,if_neg Dc,if_pos ha,chk_succ Om,bsome];exact ih (i+1) m Om Om Om
     rw[decide_eq_false ha,if_pos Dc,if_neg ha,fault_eq,bsome,if_neg ha]
   rw[Y0h,if_neg Om,l0D Om];rfl
def valR (l:List Fld):Int × Int:=if 60<l.length then(2,-1) else ffz 0 l
theorem validate_eq (l:List Fld)(hb:BigF l):Y0J l=some (valR l):=by
 unfold Y0J valR;by_cases h:60<l.length
 · rw[if_pos Om,fault_eq,bsome,if_pos h]
 have:=valid_L1 l Om hb 0 0 l.length 0 FU Om (by unfold FU;omega) Om;rw[Int.natCast_zero,l1e] at this;rw[if_neg Om,this,bsome,if_neg h];by_cases hz:(ffz 0 l).1=0
 · rw[if_pos hz];rw[(ffz_zero hz).1];unfold Y0b;rfl
 rw[if_neg hz]
def linesOf (x:Fld):List Ls:=fl (fieldS x.1 x.2) (x.1.length+2)
theorem fault_zero {x:Fld}(h:(faultR x.1 x.2).1=0):foldR x.1 x.2=(linesOf x,(0,0))∧nmL x.1=true∧x.2.length≤4000∧valB x.2=true∧(∀a∈linesOf x,a.length≤998):=by
 unfold faultR at h;by_cases hc:codeF x.1 x.2=0
 · rw[if_pos hc] at h;obtain⟨h1,h2,h3⟩:=codeF_zero hc;cases hf:(fl (fieldS x.1 x.2) (x.1.length+2)).findIdx? bigL with
   | some j=>rw[hf] at h;exact absurd (show(1:Int)=0 from h) Dc
   | none =>
     refine⟨?_,h1,h2,h3,fun a ha=>?_⟩
     · unfold foldR linesOf;rw [if_pos hc,hf]
     have:=List.findIdx?_eq_none_iff.1 hf a ha;unfold bigL at this;simpa using this
 rw[if_neg hc] at h;exact absurd h hc
def crlf (a:Ls):Ls:=a++[13,10]
def fieldB (x:Fld):Ls:=(linesOf x).flatMap crlf
theorem crlf_sum :∀L:List Ls,(L.flatMap crlf).length=L.flatten.length+2*L.length
 | []=>rfl
 | a::L=>by rw[l0t,l01,crlf_sum L,l0A,l01,l02];unfold crlf;rw [l01];simp only[l02,l08];omega
theorem field_sizes {x:Fld}(h:(faultR x.1 x.2).1=0):(linesOf x).length≤4070∧(linesOf x).flatten=fieldS x.1 x.2∧(fieldS x.1 x.2).length≤4062∧(fieldB x).length≤13000:=by
 obtain⟨_,h1,h2,_,_⟩:=fault_zero h;have h60:=nmL_len h1;have hsl:(fieldS x.1 x.2).length=x.1.length+2+x.2.length:=by unfold fieldS;simp;omega
 have h3:=fl_len (fieldS x.1 x.2).length (fieldS x.1 x.2) (x.1.length+2) Om (l09 _);have h4:=fl_flat (fieldS x.1 x.2).length (fieldS x.1 x.2) (x.1.length+2) Om (l09 _);have h5:=crlf_sum (linesOf x);unfold fieldB;unfold linesOf at h5 ⊢;rw[h4] at h5;exact⟨by omega,h4,by omega,by omega⟩
theorem headB_len {l:List Fld}(hl:l.length≤60)(h :∀x∈l,(faultR x.1 x.2).1=0):(l.flatMap fieldB).length≤780000:=by
 have:=flatMap_len fieldB 13000 l (fun x hx=>(field_sizes (h x hx)).2.2.2);omega
theorem valR_zero {l:List Fld}(h:(valR l).1=0):valR l=(0,0)∧l.length≤60∧∀x∈l,(faultR x.1 x.2).1=0:=by
 unfold valR at h ⊢;by_cases h60:60<l.length
 · rw[if_pos h60] at h;exact absurd h Dc
 rw[if_neg h60] at h ⊢;obtain⟨h1,h2⟩:=ffz_zero h;exact⟨h1,by omega,h2⟩
end Go.Ph.Hd
end
end
section
namespace Go.Ph.Sg
open Go.Ph.Pl Go.Ph.Pf Go.Ph.Wd Go.Ph.Hd
open Go.Ph.Chs (lowB lower)
abbrev Bt : Type:=Ls
abbrev Msg : Type:=List Fld × Bt
theorem allB {p:UInt8→Prop}(h :∀n,n<256→p (UInt8.ofNat n))(c:UInt8):p c:=by
 have:=h c.toNat c.toNat_lt;rwa [UInt8.ofNat_toNat] at this
theorem fail_eq (a b:Int):Y02 (a,b)=some (!decide (a=0)):=rfl
theorem flt_eq (a b:Int):Y03 a b=some (a,b):=by unfold Y03;rfl
theorem none_eq : Y0b=some (0,0):=rfl
theorem low_step (c:UInt8):(c+97)-65=c+32:=by
 refine allB (p:=fun c=>(c+97)-65=c+32) ?_ c;decide +kernel
theorem set_mid {α:Type}(f:α→α)(l:List α)(i:Nat)(h:i<l.length):((l.take i).map f++l.drop i).set i (f l[i])=(l.take (i+1)).map f++l.drop (i+1):=by
 have h1:((l.take i).map f).length=i:=by rw[l0d,l0g];omega
 rw[l1E _ _ Om,h1,Nat.sub_self,drop_cons h,l1M,l0F h,l1f,l0u];rfl
theorem low_L1 (l:Bt)(hl:Big l):∀(k i m:Nat),l.length-i≤k→k<m→i≤l.length→Y0t l m ((l.take i).map lowB++l.drop i) (i:Int)=some (lower l):=by
 intro k;induction k with
 | zero =>
   intro i m h1 h2 h3;obtain⟨m,rfl⟩ :∃k,m=k+1:=⟨m-1,by omega⟩
   obtain rfl:i=l.length:=by omega
   rw[Y0t,if_neg Om,l0T,l0J,l0l];rfl
 | succ k ih =>
   intro i m h1 h2 h3;obtain⟨m,rfl⟩ :∃k,m=k+1:=⟨m-1,by omega⟩
   by_cases hi:i<l.length
   · have hlen:((l.take i).map lowB++l.drop i).length=l.length:=by rw[l01,l0d,l0g,l0a];omega
     have hat:((l.take i).map lowB++l.drop i)[i]? = some l[i]:=by
      have h1:((l.take i).map lowB).length=i:=by rw[l0d,l0g];omega
      rw[List.getElem?_append_right Om,h1,Nat.sub_self,List.getElem?_drop,l0U];exact List.getElem?_eq_getElem hi
     unfold Big at hl;rw[Y0t,if_pos Om,idx_nat,hat,bsome];have hset:=set_mid lowB l i hi;by_cases hc:65≤l[i].toNat∧l[i].toNat≤90
     · rw[if_pos hc.1,decide_eq_true hc.2,bsome,if_pos rfl,bsome,put_ok Om Om,bsome,chk_succ Om,bsome,low_step,l0f];have hlow:lowB l[i]=l[i]+32:=by unfold lowB;rw [if_pos hc]
       rw[←hlow,hset];exact ih (i+1) m Om Om Om
     have hlow:lowB l[i]=l[i]:=by unfold lowB;rw [if_neg hc]
     rw[hlow] at hset;have hself:((l.take i).map lowB++l.drop i).set i l[i]=(l.take i).map lowB++l.drop i:=by
      refine l0X fun j=>?_
      by_cases hj:i=j
      · subst hj;rw [List.getElem?_set_self Om,hat]
      rw[List.getElem?_set_ne hj]
     rw[hself] at hset;have hb:(if 65≤l[i].toNat then some (decide (l[i].toNat≤90)) else some false)=some false:=by
      by_cases h6:65≤l[i].toNat
      · rw[if_pos h6,decide_eq_false (fun h9=>hc ⟨h6,h9⟩)]
      rw[if_neg h6]
     rw[hb,bsome,if_neg l00,chk_succ Om,bsome,hset];exact ih (i+1) m Om Om Om
   obtain rfl:i=l.length:=by omega
   rw[Y0t,if_neg Om,l0T,l0J,l0l];rfl
theorem low_eq {l:Bt}(hl:Big l):Y14 l=some (lower l):=by
 unfold Y14;have hb:=hl;unfold Big at hb;rw[toB_ok Om,bsome];have:=low_L1 l hl l.length 0 FU Om (FU_gt Om) Om;rw[List.take_zero,l0y,l04,l1e] at this;rw[show ((0:Nat):Int)=0 from rfl] at this;rw[this,bsome]
theorem low_len (l:Bt):(lower l).length=l.length:=l0d ..
theorem same_eq {a b:Bt}(ha:Big a)(hb:Big b):Y0Q a b=some (decide (lower a=lower b)):=by
 unfold Y0Q;by_cases h:a.length=b.length
 · rw[if_pos Om,low_eq ha,bsome,low_eq hb,bsome,bsome]
 rw[if_neg Om,bsome,decide_eq_false];intro h2;have:=congrArg List.length h2;rw[low_len,low_len] at this;exact h this
def letB (c:UInt8):Bool:=decide (97≤c.toNat∧c.toNat≤122) ||(decide (65≤c.toNat∧c.toNat≤90) || decide (48≤c.toNat∧c.toNat≤57))
theorem letter_eq (c:UInt8):Y1g c=some (letB c):=by
 refine allB (p:=fun c=>Y1g c=some (letB c)) ?_ c;decide +kernel
def nmC (c:UInt8):Bool:=letB c ||(decide (c=45) ||(decide (c=95) || decide (c=46)))
theorem name1_eq (c:UInt8):Y1n c=some (nmC c):=by
 unfold Y1n nmC;rw[letter_eq,bsome];cases letB c
 · rw[if_neg l00,l1c];by_cases h1:c=45
   · rw[if_pos h1,decide_eq_true h1];rfl
   rw[if_neg h1,decide_eq_false h1];by_cases h2:c=95
   · rw[if_pos h2,decide_eq_true h2];rfl
   rw[if_neg h2,decide_eq_false h2];rfl
 rfl
def nameL (l:Bt):Bool:=decide (l≠ [])&&(decide (l.length≤60)&&l.all nmC)
theorem name_eq {l:Bt}(hl:Big l):Y1v l=some (nameL l):=by
 unfold Y1v nameL;by_cases h:l=[]
 · rw[if_pos h,bsome,decide_eq_false (fun h2=>h2 h)];rfl
 rw[if_neg h,decide_eq_true h];by_cases h2:l.length≤60
 · rw[if_pos Om,Y1z l hl _ nmC name1_eq,bsome,bsome,decide_eq_true h2];rfl
 rw[if_neg Om,bsome,decide_eq_false h2];rfl
def smallL (l:Bt):Bool:=nameL l&&decide (lower l=l)
theorem small_eq {l:Bt}(hl:Big l):Y0z l=some (smallL l):=by
 unfold Y0z smallL;rw[name_eq hl,bsome];cases nameL l
 · rfl
 rw[if_pos rfl,low_eq hl,bsome,bsome];rfl
def smC (c:UInt8):Bool:=decide (97≤c.toNat∧c.toNat≤122) ||(decide (48≤c.toNat∧c.toNat≤57) ||(decide (c=45) ||(decide (c=95) || decide (c=46))))
theorem sm_of (c:UInt8):nmC c=true→lowB c=c→smC c=true:=by
 refine allB (p:=fun c=>nmC c=true→lowB c=c→smC c=true) ?_ c;decide +kernel
theorem small_facts {l:Bt}(h:smallL l=true):1≤l.length∧l.length≤60∧(∀c∈l,smC c=true)∧lower l=l:=by
 unfold smallL nameL at h;simp only[l0e,decide_eq_true_eq,List.all_eq_true] at h;obtain⟨⟨h1,h2,h3⟩,h4⟩:=h;refine⟨by cases l <;> simp_all,h2,fun c hc=>sm_of c (h3 c hc) ?_,h4⟩;have:l.map lowB=l.map id:=by rw[List.map_id];exact h4
 exact List.map_inj_left.1 this c hc
theorem small_big {l:Bt}(h:smallL l=true):Big l:=by
 have:=(small_facts h).2.1;unfold Big;omega
theorem containsF (l:List Bt)(hl:l.length≤1000000)(f:Bt→Option Bool)(p:Bt→Bool)(hf :∀x∈l,f x=some (p x)):Y0o l f=some (l.any p):=by
 unfold Y0o Y0G;rcases scanP (fun m i=>Y04 l f m i) l (fun i x=>if p x=true then some (.inr (i:Int)) else none) (.inl ()) (fun m=>by rw[Y04,if_neg Om]) (fun m i h=>by
  rw[Y04,if_pos Om,idx_nat,List.getElem?_eq_getElem h,bsome,hf _ (l0s h),bsome];by_cases hp:p l[i]=true
  · rw[if_pos hp,if_pos hp]
  rw[if_neg hp,if_neg hp,chk_succ Om,bsome]) l.length 0 FU Om (FU_gt Om) Om with ⟨j,hj,r,_,h2,_,h4⟩|⟨h1,h2⟩
 · have h4':Y04 l f FU 0=some r:=h4;by_cases hp:p l[j]=true
   · rw[if_pos hp] at h2;cases h2;rw[h4',bsome,bsome,decide_eq_true Om];exact congrArg some (List.any_eq_true.2 ⟨_,l0s hj,hp⟩).symm
   rw[if_neg hp] at h2;cases h2
 have h2':Y04 l f FU 0=some (.inl ()):=h2;rw[h2',bsome,bsome,decide_eq_false Om];refine congrArg some (Eq.symm (List.any_eq_false.2 fun x hx=>?_));obtain⟨j,hj,rfl⟩:=l0K hx;intro hp;have:=h1 j hj Om;rw[if_pos hp] at this;cases this
def sigN : Bt:=[77,97,105,108,45,83,105,103,110,97,116,117,114,101]
def cusN : Bt:=[77,97,105,108,45,67,117,115,116,111,100,121]
def recN : Bt:=[82,101,99,101,105,118,101,100]
def badN (s:Bt):Bool := !smallL s || decide (lower s=lower sigN)
theorem named1_eq {s:Bt}(hs:Big s):sign_named_1 s=some (badN s):=by
 unfold sign_named_1 badN;rw[small_eq hs,bsome];cases smallL s
 · rfl
 rw[if_pos rfl,show ([77,97,105,108,45,83,105,103,110,97,116,117,114,101]:Bt)=sigN from rfl,same_eq hs (by unfold Big sigN;simp),bsome,bsome];rfl
def namedL (l:List Bt):Bool:=decide (1≤l.length∧l.length≤20) && !l.any badN
theorem named_eq {l:List Bt}(h :∀x∈l,Big x):sign_named l=some (namedL l):=by
 unfold sign_named namedL;by_cases h1:1≤l.length
 · rw[if_pos Om];by_cases h2:l.length≤20
   · rw[if_pos Om,containsF l Om _ badN (fun x hx=>named1_eq (h x hx)),bsome,bsome,decide_eq_true ⟨h1,h2⟩];rfl
   rw[if_neg Om,bsome,decide_eq_false Om];rfl
 rw[if_neg Om,bsome,decide_eq_false Om];rfl
theorem named_facts {l:List Bt}(h:namedL l=true):1≤l.length∧l.length≤20∧∀x∈l,smallL x=true∧lower x≠lower sigN:=by
 unfold namedL at h;rw[l0e,decide_eq_true_eq,l1R] at h;refine⟨h.1.1,h.1.2,fun x hx=>?_⟩;have:=List.any_eq_false.1 h.2 x hx;unfold badN at this;simpa using this
theorem has_eq (l:List Bt)(hl:l.length≤1000000)(s:Bt):posthouseref5_Has l s=some (l.any (fun x=>decide (x=s))):=by
 unfold posthouseref5_Has;rw[scan0 (L:=posthouseref5_Has_L1 l s) (l:=l) (p:=fun x=>decide (x=s)) (stop := .inl ()) (r := .inr true) (FU_gt Om) (fun m=>by rw[posthouseref5_Has_L1,if_neg Om]) (fun m i h=>by
  rw[posthouseref5_Has_L1,if_pos Om,idx_nat,List.getElem?_eq_getElem h,bsome];by_cases hp:l[i]=s
  · rw[if_pos hp,if_pos (decide_eq_true hp)]
  rw[if_neg hp,if_neg (by simpa using hp),chk_succ Om,bsome]),bsome]
 cases l.any (fun x=>decide (x=s)) <;> rfl
theorem rin_eq (a b c:Int):posthouseref5_In a b c=some (decide (b≤a∧a≤c)):=by
 unfold posthouseref5_In;by_cases h:b≤a <;> simp [h]
theorem rlow_eq (c:UInt8):posthouseref5_Low c=some (lowB c):=by
 unfold posthouseref5_Low lowB;rw[rin_eq,bsome];by_cases h:65≤c.toNat∧c.toNat≤90
 · rw[decide_eq_true Om,if_pos rfl,if_pos h]
 rw[decide_eq_false Om,if_neg l00,if_neg h]
theorem alike_eq {a b:Bt}(ha:Big a)(hb:Big b):posthouseref5_Alike a b=some (decide (lower a=lower b)):=by
 unfold posthouseref5_Alike;unfold Big at ha hb;by_cases h:a.length=b.length
 · rw[if_pos Om];rcases scanP (fun m i=>posthouseref5_Alike_L1 a b m i) a (fun i x=>if (b[i]?).map lowB=some (lowB x) then none else some (.inr false)) (.inl ()) (fun m=>by rw[posthouseref5_Alike_L1,if_neg Om]) (fun m i hi=>by
    have hib:i<b.length:=by omega
    rw[posthouseref5_Alike_L1,if_pos Om,idx_nat,List.getElem?_eq_getElem hi,bsome,rlow_eq,bsome,idx_nat,List.getElem?_eq_getElem hib,bsome,rlow_eq,bsome];by_cases hp:lowB a[i]=lowB b[i]
    · rw[if_pos hp,chk_succ Om,bsome,l0Q,if_pos (by rw[hp])]
    rw[if_neg hp,l0Q,if_neg (fun h=>hp (oI h).symm)]) a.length 0 FU Om (FU_gt Om) Om with ⟨j,hj,r,_,h2,_,h4⟩|⟨h1,h2⟩
   · have h4':posthouseref5_Alike_L1 a b FU 0=some r:=h4;split at h2
     · cases h2
     rename_i hne;cases h2;rw[h4',bsome,decide_eq_false];intro heq;have h5:(lower a)[j]? =(lower b)[j]? := by rw[heq]
     unfold lower at h5;rw[List.getElem?_map,List.getElem?_map,List.getElem?_eq_getElem hj] at h5;exact hne h5.symm
   have h2':posthouseref5_Alike_L1 a b FU 0=some (.inl ()):=h2;rw[h2',bsome,decide_eq_true];unfold lower;refine l0X fun j=>?_
   by_cases hj:j<a.length
   · have:=h1 j hj Om;split at this
     · rename_i he;rw[List.getElem?_map,List.getElem?_map,he,List.getElem?_eq_getElem hj];rfl
     cases this
   rw[List.getElem?_eq_none (by rw[l0d];omega),List.getElem?_eq_none (by rw[l0d];omega)]
 rw[if_neg Om,decide_eq_false];intro h2;have:=congrArg List.length h2;rw[low_len,low_len] at this;exact h this
theorem foldl_filter {α β:Type}(p:α→Bool)(f:α→β):∀(l:List α) (o:List β),l.foldl (fun o x=>if p x=true then o++[f x] else o) o=o++(l.filter p).map f
 | [],o=>by simp
 | x::l,o=>by
   rw[l1l,foldl_filter p f l];by_cases h:p x=true
   · rw[if_pos h,l1A h];simp
   rw[if_neg h,l1B h]
def isN (n:Bt)(x:Fld):Bool:=decide (lower x.1=lower n)
def valsN (l:List Fld)(n:Bt):List Bt:=(l.filter (isN n)).map (·.2)
theorem values_eq (m:Msg)(n:Bt)(hl:m.1.length≤1000)(hb:BigF m.1)(hn:Big n):posthouseref5_Values m n=some (valsN m.1 n):=by
 unfold posthouseref5_Values;rw[foldI0 (L:=fun k s i=>posthouseref5_Values_L1 m n k s i) m.1 (fun o x=>if isN n x=true then o++[x.2] else o) id (fun i s=>s.length≤i) Om ?_ ?_ [] Sm,foldl_filter,bsome]
 · rfl
 · intro k s hs;rw[posthouseref5_Values_L1,if_neg Om];rfl
 intro k s i x hx hs;have hi:=(List.getElem?_eq_some_iff.1 hx).1;refine⟨by split <;>(try rw[l01,l1g]) <;> omega,?_⟩;rw[posthouseref5_Values_L1,if_pos Om,idx_nat,hx,bsome,alike_eq (hb x (l0r hx)).1 hn,bsome];unfold isN;by_cases h:lower x.1=lower n
 · rw[decide_eq_true h,if_pos rfl,if_pos rfl,bsome,app_ok (by simp;omega),bsome,chk_succ Om,bsome]
 rw[decide_eq_false h,if_neg l00,if_neg l00,chk_succ Om,bsome]
theorem seals_eq (m:Msg)(hl:m.1.length≤1000)(hb:BigF m.1):custody_seals m=some (valsN m.1 cusN):=by
 unfold custody_seals;have hn:Big cusN:=by unfold Big cusN;simp
 rw[foldI0 (L:=fun k s i=>custody_seals_L1 m k s i) m.1 (fun o x=>if isN cusN x=true then o++[x.2] else o) id (fun i s=>s.length≤i) Om ?_ ?_ [] Sm,foldl_filter,bsome]
 · rfl
 · intro k s hs;rw[custody_seals_L1,if_neg Om];rfl
 intro k s i x hx hs;have hi:=(List.getElem?_eq_some_iff.1 hx).1;refine⟨by split <;>(try rw[l01,l1g]) <;> omega,?_⟩;rw[custody_seals_L1,if_pos Om,idx_nat,hx,bsome,show ([77,97,105,108,45,67,117,115,116,111,100,121]:Bt)=cusN from rfl,same_eq (hb x (l0r hx)).1 hn,bsome];unfold isN;by_cases h:lower x.1=lower cusN
 · rw[decide_eq_true h,if_pos rfl,if_pos rfl,app_ok (by simp;omega),bsome,chk_succ Om,bsome]
 rw[decide_eq_false h,if_neg l00,if_neg l00,chk_succ Om,bsome]
abbrev Key : Type:=Bt × Int
def keyOf (l:List Key)(d:Bt):Option Int:=(l.find? (fun k=>decide (k.1=d))).map (·.2)
theorem find_at {α:Type}(l:List α)(p:α→Bool)(j:Nat)(hj:j<l.length)(h:p l[j]=true)(hn :∀a (ha:a<l.length),a<j→p l[a]=false):l.find? p=some l[j]:=by
 induction l generalizing j with
 | nil=>simp at hj
 | cons x l ih =>
   cases j with
   | zero=>rw[List.find?_cons_of_pos (by simpa using h)];rfl
   | succ j =>
     have h0:=hn 0 Sm Om;rw[List.find?_cons_of_neg (by simpa using h0)];exact ih j (by simpa using hj) (by simpa using h) (fun a ha hlt=>by have:=hn (a+1) (by simpa using ha) Om;simpa using this)
theorem keyOf_none {l:List Key}{d:Bt}(h :∀a (ha:a<l.length),l[a].1≠d):keyOf l d=none:=by
 unfold keyOf;rw[List.find?_eq_none.2 (fun x hx=>?_)]
 · rfl
 obtain⟨j,hj,rfl⟩:=l0K hx;simpa using h j hj
theorem rkey_eq (l:List Key)(hl:l.length≤1000)(d:Bt):posthouseref5_KeyOf l d=some (match keyOf l d with|some k=>(k,true)|none=>(0,false)):=by
 unfold posthouseref5_KeyOf;rcases scanP (fun m i=>posthouseref5_KeyOf_L1 l d m i) l (fun i x=>if x.1=d then some (.inr (x.2,true)) else none) (.inl ()) (fun m=>by rw[posthouseref5_KeyOf_L1,if_neg Om]) (fun m i h=>by
  rw[posthouseref5_KeyOf_L1,if_pos Om,idx_nat,List.getElem?_eq_getElem h,bsome];by_cases hp:l[i].1=d
  · rw[if_pos hp,if_pos hp,bsome]
  rw[if_neg hp,if_neg hp,chk_succ Om,bsome]) l.length 0 FU Om (FU_gt Om) Om with ⟨j,hj,r,_,h2,h3,h4⟩|⟨h1,h2⟩
 · have h4':posthouseref5_KeyOf_L1 l d FU 0=some r:=h4;by_cases hp:l[j].1=d
   · rw[if_pos hp] at h2;cases h2;have hf:keyOf l d=some l[j].2:=by
      unfold keyOf;rw[find_at l _ j hj (by simpa using hp) (fun a ha hlt=>by
       have:=h3 a ha Om hlt;by_cases hq:l[a].1=d
       · rw[if_pos hq] at this;cases this
       simpa using hq)]
      rfl
     rw[h4',bsome,hf]
   rw[if_neg hp] at h2;cases h2
 have h2':posthouseref5_KeyOf_L1 l d FU 0=some (.inl ()):=h2;rw[h2',bsome,keyOf_none (fun a ha hq=>by
  have:=h1 a ha Om;rw[if_pos hq] at this;cases this)]
theorem skey_eq (l:List Key)(hl:l.length≤1000)(d:Bt):sign_Key l d=some (match keyOf l d with|some k=>(k,true)|none=>(0,false)):=by
 unfold sign_Key Y0V;rcases scanP (fun m i=>Y07 l (fun z0=>sign_Key_1 z0 d) m i) l (fun i x=>if x.1=d then some (.inr (i:Int)) else none) (.inl ()) (fun m=>by rw[Y07,if_neg Om]) (fun m i h=>by
  rw[Y07,if_pos Om,idx_nat,List.getElem?_eq_getElem h,bsome];unfold sign_Key_1;rw[bsome];by_cases hp:l[i].1=d
  · rw[decide_eq_true hp,if_pos rfl,if_pos hp]
  rw[decide_eq_false hp,if_neg l00,if_neg hp,chk_succ Om,bsome]) l.length 0 FU Om (FU_gt Om) Om with ⟨j,hj,r,_,h2,h3,h4⟩|⟨h1,h2⟩
 · have h4':Y07 l (fun z0=>sign_Key_1 z0 d) FU 0=some r:=h4;by_cases hp:l[j].1=d
   · rw[if_pos hp] at h2;cases h2;have hf:keyOf l d=some l[j].2:=by
      unfold keyOf;rw[find_at l _ j hj (by simpa using hp) (fun a ha hlt=>by
       have:=h3 a ha Om hlt;by_cases hq:l[a].1=d
       · rw[if_pos hq] at this;cases this
       simpa using hq)]
      rfl
     rw[h4',bsome,hf];dsimp only;rw[bsome,if_neg Om,idx_nat,List.getElem?_eq_getElem hj,bsome]
   rw[if_neg hp] at h2;cases h2
 have h2':Y07 l (fun z0=>sign_Key_1 z0 d) FU 0=some (.inl ()):=h2;rw[h2',bsome,keyOf_none (fun a ha hq=>by
  have:=h1 a ha Om;rw[if_pos hq] at this;cases this)]
 dsimp only;rw[bsome,if_pos Om]
theorem keys_eq (l:List Key)(hl:l.length≤60)(h :∀k∈l,smallL k.1=true):sign_Keys l=some (0,0):=by
 unfold sign_Keys;rw[if_neg Om];rcases scanP (fun m i=>sign_Keys_L1 l m 0 0 i) l (fun i x=>(none:Option ((Int × Int) ⊕ (Int × Int)))) (.inl (0,0)) (fun m=>by rw[sign_Keys_L1,if_neg Om]) (fun m i hi=>by
  have hm:=h _ (l0s hi);rw[sign_Keys_L1,if_pos Om,idx_nat,List.getElem?_eq_getElem hi,bsome,small_eq (small_big hm),bsome,if_pos hm,chk_succ Om,bsome]) l.length 0 FU Om (FU_gt Om) Om with ⟨j,hj,r,_,h2,h3,h4⟩|⟨h1,h2⟩
 · cases h2
 have h2':sign_Keys_L1 l FU 0 0 0=some (.inl (0,0)):=h2;rw[h2',bsome];dsimp only;rw[none_eq,bsome]
end Go.Ph.Sg
end
section
namespace Go.Ph.Pl
end Go.Ph.Pl
end
section
namespace Go.Ph.Sg
open Go.Ph.Pl Go.Ph.Pf Go.Ph.Wd Go.Ph.Hd
open Go.Ph.Chs (lowB lower)
theorem index_app (c:UInt8)(t a l:Bt)(h :∀x∈a,x≠c):Lib.index (a++(c::t)++l) (c::t)=(a.length:Int):=by
 refine Lib.index_first Sm ?_ (fun j hj=>?_)
 · unfold Lib.occAt;rw[l0u,l1m];simp
 cases hc:Lib.occAt (a++(c::t)++l) (c::t) j with
 | false=>rfl
 | true =>
   have h1:=Lib.occAt_head rfl hc;rw[l0u,List.getElem?_append_left hj] at h1;exact absurd G (h c (l0r h1))
theorem index_no (c:UInt8)(t a:Bt)(h :∀x∈a,x≠c):Lib.index a (c::t) = -1:=by
 refine Lib.index_none fun j _=>?_
 cases hc:Lib.occAt a (c::t) j with
 | false=>rfl
 | true=>exact absurd rfl (h c (l0r (Lib.occAt_head rfl hc)))
theorem split_app (c:UInt8)(t a l:Bt)(h :∀x∈a,x≠c):Lib.split (a++(c::t)++l) (c::t)=a::Lib.split l (c::t):=by
 have hi:=index_app c t a l h;have hd:(a++(c::t)++l).drop (a.length+(c::t).length)=l:=by
  rw[←l01,l1m]
 unfold Lib.split;rw[Lib.count_hit Sm hi,hd,l1F,Lib.splitK,hi,if_neg Sm];simp only[l0f,l0U];rw[hd,l0u,l1i]
theorem split_no (c:UInt8)(t a:Bt)(h :∀x∈a,x≠c):Lib.split a (c::t)=[a]:=by
 unfold Lib.split;rw[Lib.count_miss (index_no c t a h)];rfl
theorem split_jn (c:UInt8)(t:Bt):∀l:List Bt,l≠ []→(∀a∈l,∀x∈a,x≠c)→Lib.split (jn (c::t) l) (c::t)=l
 | [],h,_=>absurd rfl h
 | [a],_,h=>by rw[show jn (c::t) [a]=a from rfl];exact split_no c t a (h a Sm)
 | a::b::l,_,h=>by
   rw[show jn (c::t) (a::b::l)=a++(c::t)++jn (c::t) (b::l) by rw[jn];try simp];rw[split_app c t a _ (h a Sm),split_jn c t (b::l) Sm (fun x hx=>h x (l0p _ hx))]
theorem index_bound :∀(s sub:Bt) {j:Nat},Lib.index s sub=(j:Int)→j+sub.length≤s.length
 | [],sub,j,h=>by
   rw[Lib.index] at h;split at h
   · rename_i he;have:sub=[]:=List.isEmpty_iff.1 he;subst this;simp at h ⊢;omega
   omega
 | b :: s,sub,j,h=>by
   rw[Lib.index] at h;split at h
   · rename_i he;have:=(List.isPrefixOf_iff_prefix.1 he).length_le;omega
   split at h
   · omega
   rename_i hne;have hge:=Lib.index_ge s sub;have hn1:Lib.index s sub≠-1:=by simpa using hne
   obtain⟨k,hk⟩ :∃k:Nat,Lib.index s sub=(k:Int):=⟨(Lib.index s sub).toNat,by omega⟩
   have:=index_bound s sub hk;rw[l02];omega
theorem cut_all {α:Type}(l:List α):cut l 0 (l.length:Int)=some l:=by
 have:=cut_from (l:=l) (i:=0) (a:=0) rfl Om;rwa [l1e] at this
theorem jn_len (sep:Bt)(k:Nat):∀l:List Bt,(∀a∈l,a.length≤k)→(jn sep l).length≤l.length*(k+sep.length)
 | [],_=>by simp [jn]
 | [a],h=>by have:=h a Sm;simp [jn];omega
 | a::b::l,h=>by
   have h1:=h a Sm;have h2:=jn_len sep k (b::l) (fun x hx=>h x (l0p _ hx));rw[show jn sep (a::b::l)=a++sep++jn sep (b::l) by rw[jn];try simp];rw[l01,l01,l02 (a:=a),l0V,Nat.one_mul];omega
theorem mw_L2 (L:List Bt)(o:Bt)(hL :∀a∈L,a.length≤998)(hl:L.length≤5000)(ho:o.length≤1000000):message_write_L2 L FU o 0=some (o++L.flatMap crlf):=by
 rw[foldI0 (L:=fun m s i=>message_write_L2 L m s i) L (fun o a=>o++crlf a) id (fun i s=>s.length≤o.length+1000*i) Om ?_ ?_ o Sm,foldl_app]
 · rfl
 · intro m s hs;rw[message_write_L2,if_neg Om];rfl
 intro m s i a ha hs;have hi:=(List.getElem?_eq_some_iff.1 ha).1;have h9:=hL a (l0r ha);refine⟨by unfold crlf;simp only[l01,l02,l08];omega,?_⟩;rw[message_write_L2,if_pos Om,idx_nat,ha,bsome,app_ok Om,bsome,app_ok (by simp only[l01,l02,l08];omega),bsome,chk_succ Om,bsome];unfold crlf;rw[l0u]
theorem mw_L1 (p:Msg)(hl:p.1.length≤60)(h :∀x∈p.1,(faultR x.1 x.2).1=0):message_write_L1 p FU [] 0=some (p.1.flatMap fieldB):=by
 rw[foldI0 (L:=fun m s i=>message_write_L1 p m s i) p.1 (fun o x=>o++fieldB x) id (fun i s=>s.length≤13000*i) Om ?_ ?_ [] Sm,foldl_app]
 · rfl
 · intro m s hs;rw[message_write_L1,if_neg Om];rfl
 intro m s i x hx hs;have hi:=(List.getElem?_eq_some_iff.1 hx).1;have hm:=h x (l0r hx);obtain⟨z1,z2,z3,z4⟩:=field_sizes hm;obtain⟨f1,f2,f3,f4,f5⟩:=fault_zero hm;have h60:=Pf.nmL_len f2;refine⟨by rw[l01];omega,?_⟩;rw[message_write_L1,if_pos Om,idx_nat,hx,bsome,fold_Fold_eq _ _ (by unfold Big;omega) (by unfold Big;omega),f1,bsome];dsimp only;rw[mw_L2 _ _ f5 Om Om,bsome,chk_succ Om,bsome];rfl
theorem mw_eq (p:Msg)(h:(valR p.1).1=0)(hb:p.2.length≤140737488355328):message_write p=some (p.1.flatMap fieldB++[13,10]++p.2):=by
 obtain⟨h1,h2,h3⟩:=valR_zero h;have hl:=headB_len h2 h3;unfold message_write;rw[mw_L1 p h2 h3,bsome,app_ok (by simp only[l02,l08];omega),bsome,app_ok1 (by simp only[l01,l02,l08];omega),bsome]
theorem body_L1 (l:Bt)(hl:l.length≤140737488355328):∀(k i m c:Nat),l.length-i≤k→k<m→i≤l.length→c≤i→∃o,Y0F l m (c:Int) (i:Int)=some o:=by
 intro k;induction k using Nat.strongRecOn with
 | _ k ih =>
   intro i m c h1 h2 h3 h4;obtain⟨m,rfl⟩ :∃k,m=k+1:=⟨m-1,by omega⟩
   rw[Y0F];by_cases hi:i<l.length
   · rw [if_pos Om,idx_nat,List.getElem?_eq_getElem hi,bsome];have hb :∃b,(if l[i]=13 then(chk ((i:Int)+1)).bind fun n12=>(if n12<(l.length:Int) then(chk ((i:Int)+1)).bind fun n14=>(idx l n14).bind fun c15=>some (decide (c15=10)) else some false) else some false)=some b∧(b=true→i+1<l.length):=by
      by_cases h13:l[i]=13
      · rw[if_pos h13,chk_succ Om,bsome];by_cases hi1:i+1<l.length
        · rw[if_pos Om,bsome,idx_nat,List.getElem?_eq_getElem hi1,bsome];exact ⟨_,rfl,fun _=>hi1⟩
        rw[if_neg Om];exact ⟨_,rfl,fun h=>by cases h⟩
      rw[if_neg h13];exact ⟨_,rfl,fun h=>by cases h⟩
     obtain⟨b,hb1,hb2⟩:=hb;rw[hb1,bsome];cases b with
     | true =>
       have hi1:=hb2 rfl;rw[if_pos rfl,chk_succ Om,bsome,chk_succ Om,bsome];exact ih (l.length-(i+1+1)) Om (i+1+1) m 0 (l09 _) Om Om Om
     | false =>
       rw[if_neg l00];obtain⟨b2,hb3⟩ :∃b2,(if l[i]=13 then some true else some (decide (l[i]=10)))=some b2:=by split <;> exact⟨_,rfl⟩
       rw[hb3,bsome];cases b2 with
       | true=>rw[if_pos rfl];exact ⟨_,rfl⟩
       | false =>
         rw[if_neg l00,chk_succ Om,bsome];split
         · exact⟨_,G⟩
         rw[chk_succ Om,bsome];exact ih (l.length-(i+1)) Om (i+1) m (c+1) (l09 _) Om Om Om
   rw[if_neg Om];exact ⟨_,rfl⟩
theorem body_tot (l:Bt)(hl:l.length≤140737488355328):∃a b,message_body l=some (a,b):=by
 unfold message_body Y1N;obtain⟨o,ho⟩:=body_L1 l hl l.length 0 FU 0 Om (FU_gt Om) Om Om;have ho':Y0F l FU 0 0=some o:=ho;rw[ho',bsome];have fin :∀n1:Int,∃a b,(if n1=11 then(Y03 11 (-5)).bind fun x=>some (x.1,x.2) else if n1=1 then(Y03 1 (-6)).bind fun x=>some (x.1,x.2) else Y0b.bind fun x=>some (x.1,x.2))=some (a,b):=fun n1=>by
  rw[flt_eq,flt_eq,none_eq,bsome,bsome,bsome];split
  · exact⟨_,_,G⟩
  split <;> exact⟨_,_,rfl⟩
 cases o with
 | inl u=>exact fin 0
 | inr n=>exact fin n
theorem mvalid (m:Msg)(hb:BigF m.1)(hm:m.2.length≤140737488355328):∃a b,message_Validate m=some (a,b)∧(a=0→(valR m.1).1=0∧m.2.length≤12000):=by
 unfold message_Validate;rw[validate_eq m.1 hb,bsome];obtain⟨⟨a,b⟩,hv⟩ :∃p,valR m.1=p:=⟨_,rfl⟩
 rw[hv];dsimp only;rw[fail_eq,bsome];by_cases ha:a=0
 · have h0:(valR m.1).1=0:=by rw[hv];exact ha
   rw[decide_eq_true ha,if_neg Dc,mw_eq (m.1,m.2) h0 hm,bsome];obtain⟨x,y,hxy⟩:=body_tot m.2 hm;by_cases h12:(12000:Int)<((m.1.flatMap fieldB++[13,10]++m.2).length:Int)
   · rw[if_pos h12,flt_eq,bsome];exact⟨_,_,G,fun h=>by cases h⟩
   rw[if_neg h12,hxy,bsome];refine⟨_,_,G,fun _=>⟨by simpa using ha,?_⟩⟩;rw[l01] at h12;omega
 rw[decide_eq_false ha,if_pos Dc];exact⟨_,_,G,fun h=>absurd h ha⟩
theorem sq_L1 (s:Bt)(hs:s.length≤1000000):∀(k i m:Nat) (o:Bt),s.length-i≤k→k<m→i≤s.length→o.length≤i→∃r,canonical_squeezed_L1 s m o (i:Int)=some r∧r.length≤s.length:=by
 intro k;induction k with
 | zero =>
   intro i m o h1 h2 h3 h4;obtain⟨m,rfl⟩ :∃k,m=k+1:=⟨m-1,by omega⟩
   rw[canonical_squeezed_L1,if_neg Om];exact ⟨_,rfl,by omega⟩
 | succ k ih =>
   intro i m o h1 h2 h3 h4;obtain⟨m,rfl⟩ :∃k,m=k+1:=⟨m-1,by omega⟩
   rw[canonical_squeezed_L1];by_cases hi:i<s.length
   · rw [if_pos Om,idx_nat,List.getElem?_eq_getElem hi,bsome,Y1c,bsome];obtain⟨q,hq⟩ :∃q:UInt8 ⊕ Unit,(if decide (Go.Ph.Qp.bl s[i])=true then((if (0:Int)<(o.length:Int) then(chk ((o.length:Int)-1)).bind fun n24=>(idx o n24).bind fun c25=>some (decide (c25=32)) else some false)).bind fun b22=>(if b22=true then some (.inr ()) else some (.inl 32)) else some (.inl s[i]))=some q:=by
      split
      · by_cases ho:0<o.length
        · rw[if_pos Om,chk_pred Om Om,bsome,idx_nat,List.getElem?_eq_getElem Om,bsome,bsome];split <;> exact⟨_,rfl⟩
        rw[if_neg Om,bsome];exact ⟨_,rfl⟩
      exact⟨_,G⟩
     rw[hq,bsome];cases q with
     | inl c =>
       dsimp only;rw[app_ok (by simp only[l02,l08];omega),bsome,chk_succ Om,bsome];exact ih (i+1) m _ Om Om Om (by simp only[l01,l02,l08];omega)
     | inr u =>
       dsimp only;rw[chk_succ Om,bsome];exact ih (i+1) m _ Om Om Om Om
   rw[if_neg Om];exact ⟨_,rfl,by omega⟩
theorem trim_tot (a:Bt)(ha:a.length≤1000000):∃r,Y0v a [32]=some r∧r.length≤a.length:=by
 unfold Y0v Y0p Y0l;by_cases h:1≤a.length
 · have h1:(([32]:Bt).length:Int)≤(a.length:Int):=by simp;omega
   rw[if_pos h1,show (a.length:Int)-(([32]:Bt).length:Int)=((a.length-1:Nat):Int) by simp;omega,chk_ok Om Om,bsome,cut_from rfl Om,bsome,bsome,bsome];split
   · rw[bsome,cut_to rfl Om,bsome,bsome];exact⟨_,G,by rw[l0g];omega⟩
   exact⟨_,by rw[bsome],l09 _⟩
 have h1 :¬(([32]:Bt).length:Int)≤(a.length:Int):=by simp;omega
 rw[if_neg h1,bsome,bsome,if_neg l00,bsome];exact⟨_,G,l09 _⟩
theorem sq_tot (s:Bt)(hs:s.length≤1000000):∃r,canonical_squeezed s=some r∧r.length≤s.length:=by
 unfold canonical_squeezed;obtain⟨a,h1,h2⟩:=sq_L1 s hs s.length 0 FU [] Om (FU_gt Om) Om Sm;have h1':canonical_squeezed_L1 s FU [] 0=some a:=h1;obtain⟨r,h3,h4⟩:=trim_tot a Om;rw[h1',bsome,h3,bsome];exact⟨_,G,by omega⟩
theorem rep_len (n:Nat):(Lib.repeatL ([13,10]:Bt) n).length=2*n:=by
 induction n with
 | zero=>rfl
 | succ n ih =>
   rw[Lib.repeatL];simp only[l01,l02,l08,ih];omega
theorem step_tot (x o:Bt)(n:Nat)(hx:x.length≤100000)(hn:n≤100000)(ho:o.length≤100000):∃(o':Bt) (n':Nat),canonical_body_Y5 (o,(n:Int)) x=some (o',(n':Int))∧o'.length+2*n'≤o.length+2*n+x.length+2:=by
 unfold canonical_body_Y5;dsimp only;obtain⟨s,h1,h2⟩:=sq_tot x Om;rw[h1,bsome];by_cases hs:s=[]
 · rw[if_pos hs,chk_succ Om,bsome];exact⟨o,n+1,G,by omega⟩
 have hr:=rep_len n;rw[if_neg hs];unfold Y0T;rw[if_pos ⟨by omega,by omega,by simp;omega⟩,bsome,l0f,cat_ok Om,bsome,cat_ok (by simp only[l01,l02,l08];omega),bsome,app_ok (by simp only[l01,l02,l08];omega),bsome];refine⟨_,0,G,?_⟩;simp only[l01,l02,l08];omega
theorem sp_L2 :∀(k m:Nat) (l o:Bt) (n:Nat),l.length≤k→k<m→o.length+2*n+l.length≤12000→
 ∃(l' o':Bt) (n':Nat),Y0k (stepY goOn canonical_body_Y5) ([13,10]:Bt) 0 m l (o,(n:Int))=some (.inl (l',(o',(n':Int))))∧o'.length+2*n'+l'.length≤12000:=by
 intro k;induction k using Nat.strongRecOn with
 | _ k ih =>
   intro m l o n h1 h2 h3;obtain⟨m,rfl⟩ :∃k,m=k+1:=⟨m-1,by omega⟩
   rw[Y0k];unfold Y1E;rw[if_pos ⟨by omega,rfl⟩,bsome];have hge:=Lib.index_ge l [13,10];by_cases hi:Lib.index l [13,10]<0
   · rw[if_pos hi];exact⟨l,o,n,G,h3⟩
   rw[if_neg hi];obtain⟨j,hj⟩ :∃j:Nat,Lib.index l [13,10]=(j:Int):=⟨(Lib.index l [13,10]).toNat,by omega⟩
   have hb:=index_bound l [13,10] hj;simp only[l02,l08] at hb;rw[hj,chk_ok Om Om,bsome,Int.add_zero,cut_to rfl Om,bsome,cut_all,bsome];obtain⟨o',n',hs,hl⟩:=step_tot (l.take j) o n (by rw[l0g];omega) Om Om;rw[l0g] at hl;unfold stepY goOn;rw[if_neg l00,hs];rw[l0Q,bsome];dsimp only;rw[if_pos Kf,show ((j:Int)+(([13,10]:Bt).length:Int))=((j+2:Nat):Int) by simp,chk_ok Om Om,bsome,cut_from rfl Om,bsome];have:=ih (l.length-(j+2)) Om m (l.drop (j+2)) o' n' (by rw[l0a];omega) Om (by rw[l0a];omega);unfold stepY goOn at this;exact this
theorem cbody_tot (b:Bt)(hb:b.length≤12000):∃r,canonical_Body b=some (r,(0,0))∧r.length≤12002:=by
 unfold canonical_Body canonical_body Y1d;rw[if_neg Om,if_neg Dc];obtain⟨l',o',n',h1,h2⟩:=sp_L2 b.length FU b [] 0 (l09 _) (FU_gt Om) (by simp;omega);have h1':Y0k (stepY goOn canonical_body_Y5) ([13,10]:Bt) 0 FU b ([],0)=some (.inl (l',(o',(n':Int)))):=h1;rw[h1',bsome];dsimp only;rw[cut_all,bsome];obtain⟨o2,n2,hs,hl⟩:=step_tot l' o' n' Om Om Om;unfold stepY goOn;rw[if_neg l00,hs,l0Q,bsome];dsimp only;rw[bsome,bsome];dsimp only;rw[none_eq,bsome];exact⟨o2,G,by omega⟩
theorem cfield_tot (x:Fld)(h1:x.1.length≤60)(h2:x.2.length≤4000):∃r,canonical_field x=some r∧r.length≤4100:=by
 unfold canonical_field;obtain⟨s,h3,h4⟩:=sq_tot x.2 Om;have hl:=low_len x.1;rw[low_eq (by unfold Big;omega),bsome,cat_ok (by simp only[l02,l08];omega),bsome,h3,bsome,cat_ok (by simp only[l01,l02,l08];omega),bsome,cat_ok (by simp only[l01,l02,l08];omega),bsome];exact⟨_,G,by simp only[l01,l02,l08];omega⟩
def okL (l:List Fld):Prop :=∀x∈l,x.1.length≤60∧x.2.length≤4000
theorem cut_pre {l pre:List Fld}{n:Bt}(hn:Big n)(hp:okL pre)(hne :∀x∈pre,lower x.1≠lower n)(u up:List Bool)(o:Bt)(hu:up.length=pre.length)(hl:pre.length+l.length≤1000):∀(i m:Nat),i≤pre.length→i<m→
 canonical_Fields_L2 (pre++l) n m (up++u) o ((i:Int)-1)=some (up++u,o):=by
 intro i;induction i with
 | zero =>
   intro m _ h2;obtain⟨m,rfl⟩ :∃k,m=k+1:=⟨m-1,by omega⟩
   rw[canonical_Fields_L2,if_neg Om]
 | succ i ih =>
   intro m h1 h2;obtain⟨m,rfl⟩ :∃k,m=k+1:=⟨m-1,by omega⟩
   have hi:i<pre.length:=by omega
   have hm:=l0s hi;have hsz:=hp _ hm;have e:(((i+1:Nat):Int)-1)=(i:Int):=by omega
   rw[canonical_Fields_L2,e,if_pos Om,idx_nat,List.getElem?_append_left Om,List.getElem?_eq_getElem Om,bsome];have hb:(if up[i]'Om=true then some false else(idx (pre++l) (i:Int)).bind fun a47=>(Y0Q a47.1 n).bind fun b48=>some b48)=some false:=by
    split
    · rfl
    rw[idx_nat,List.getElem?_append_left hi,List.getElem?_eq_getElem hi,bsome,same_eq (by unfold Big;omega) hn,bsome,decide_eq_false (hne _ hm)]
   rw[hb,bsome,if_neg l00,chk_ok Om Om,bsome];exact ih m Om Om
theorem fl_L2 {l:List Fld}{n:Bt}(hn:Big n)(hp:okL l)(hl:l.length≤500)(u:List Bool)(o:Bt)(hu:u.length=l.length)(ho:o.length≤1000000):∀(i m:Nat),i≤l.length→i<m→
 ∃ (u':List Bool) (o':Bt),canonical_Fields_L2 l n m u o ((i:Int)-1)=some (u',o')∧u'.length=u.length∧o'.length≤o.length+4100∧
  ∀(pre:List Fld) (up:List Bool) (m':Nat),okL pre→(∀x∈pre,lower x.1≠lower n)→up.length=pre.length→pre.length≤500→pre.length+i<m'→
   canonical_Fields_L2 (pre++l) n m' (up++u) o (((pre.length+i:Nat):Int)-1)=some (up++u',o'):=by
 intro i;induction i with
 | zero =>
   intro m _ h2;obtain⟨m,rfl⟩ :∃k,m=k+1:=⟨m-1,by omega⟩
   rw[canonical_Fields_L2,if_neg Om];refine⟨u,o,G,G,by omega,fun pre up m' h1 h2 h3 h4 h5=>?_⟩;exact cut_pre hn h1 h2 u up o h3 Om pre.length m' (l09 _) Om
 | succ i ih =>
   intro m h1 h2;obtain⟨m,rfl⟩ :∃k,m=k+1:=⟨m-1,by omega⟩
   have hi:i<l.length:=by omega
   have hiu:i<u.length:=by omega
   have hm:=l0s hi;have hsz:=hp _ hm;have e:(((i+1:Nat):Int)-1)=(i:Int):=by omega
   obtain⟨b,hb⟩ :∃b,b=(!u[i]&&decide (lower l[i].1=lower n)):=⟨_,rfl⟩
   have hb1:(if u[i]=true then some false else(idx l (i:Int)).bind fun a47=>(Y0Q a47.1 n).bind fun b48=>some b48)=some b:=by
    rw[hb];cases u[i]
    · rw[if_neg l00,idx_nat,List.getElem?_eq_getElem hi,bsome,same_eq (by unfold Big;omega) hn,bsome];rfl
    rfl
   have hat :∀(pre:List Fld) (up:List Bool),up.length=pre.length→(if u[i]=true then some false else(idx (pre++l) ((pre.length+i:Nat):Int)).bind fun a47=>(Y0Q a47.1 n).bind fun b48=>some b48)=some b:=fun pre up hup=>by
    rw[←hb1];cases u[i]
    · rw[if_neg l00,if_neg l00,idx_nat,idx_nat,List.getElem?_append_right Om,l0z]
    rfl
   rw[canonical_Fields_L2,e,if_pos Om,idx_nat,List.getElem?_eq_getElem hiu,bsome,hb1,bsome];cases hbb:b with
   | true =>
     obtain⟨r,hr1,hr2⟩:=cfield_tot l[i] hsz.1 hsz.2;rw[if_pos rfl,bsome,put_ok Om Om,bsome,idx_nat,List.getElem?_eq_getElem hi,bsome,show canonical_field (l[i].1,l[i].2)=some r from hr1,bsome,app_ok Om,bsome];refine⟨_,_,G,by rw[l0Y],by rw[l01];omega,fun pre up m' g1 g2 g3 g4 g5=>?_⟩;obtain⟨m',rfl⟩ :∃k,m'=k+1:=⟨m'-1,by omega⟩
     have e2:(((pre.length+(i+1):Nat):Int)-1)=((pre.length+i:Nat):Int):=by omega
     have hu2:(up++u)[pre.length+i]? = some u[i]:=by rw[List.getElem?_append_right Om,g3,l0z,List.getElem?_eq_getElem hiu]
     have hl2:(pre++l)[pre.length+i]? = some l[i]:=by rw[List.getElem?_append_right Om,l0z,List.getElem?_eq_getElem hi]
     have hset:(up++u).set (pre.length+i) true=up++u.set i true:=by rw[l1E _ _ Om,g3,l0z]
     rw[canonical_Fields_L2,e2,if_pos Om,idx_nat,hu2,bsome,hat pre up g3,hbb,bsome,if_pos rfl,bsome,put_ok Om (by rw[l01];omega),bsome,idx_nat,hl2,bsome,show canonical_field (l[i].1,l[i].2)=some r from hr1,bsome,app_ok Om,bsome,l0f,l0f,hset]
   | false =>
     rw[if_neg l00,chk_ok Om Om,bsome];obtain⟨u',o',h3,h4,h5,h6⟩:=ih m Om Om;refine⟨u',o',h3,h4,h5,fun pre up m' g1 g2 g3 g4 g5=>?_⟩;obtain⟨m',rfl⟩ :∃k,m'=k+1:=⟨m'-1,by omega⟩
     have e2:(((pre.length+(i+1):Nat):Int)-1)=((pre.length+i:Nat):Int):=by omega
     have hu2:(up++u)[pre.length+i]? = some u[i]:=by rw[List.getElem?_append_right Om,g3,l0z,List.getElem?_eq_getElem hiu]
     rw[canonical_Fields_L2,e2,if_pos Om,idx_nat,hu2,bsome,hat pre up g3,hbb,bsome,if_neg l00,chk_ok Om Om,bsome];exact h6 pre up m' g1 g2 g3 g4 Om
theorem fl_L1 {l:List Fld}{names:List Bt}(hp:okL l)(hl:l.length≤500)(hN:names.length≤100)(hn :∀n∈names,Big n):∀(k i m:Nat) (u:List Bool) (o:Bt),names.length-i≤k→k<m→i≤names.length→u.length=l.length→o.length≤4100*i→
 ∃o',canonical_Fields_L1 l names m u o (i:Int)=some o'∧o'.length≤4100*names.length∧
  ∀(pre:List Fld) (up:List Bool),okL pre→(∀x∈pre,∀n∈names,lower x.1≠lower n)→up.length=pre.length→pre.length≤500→canonical_Fields_L1 (pre++l) names m (up++u) o (i:Int)=some o':=by
 intro k;induction k with
 | zero =>
   intro i m u o h1 h2 h3 h4 h5;obtain⟨m,rfl⟩ :∃k,m=k+1:=⟨m-1,by omega⟩
   rw[canonical_Fields_L1,if_neg Om];refine⟨o,G,by omega,fun pre up g1 g2 g3 g4=>?_⟩;rw[canonical_Fields_L1,if_neg Om]
 | succ k ih =>
   intro i m u o h1 h2 h3 h4 h5;obtain⟨m,rfl⟩ :∃k,m=k+1:=⟨m-1,by omega⟩
   by_cases hi:i<names.length
   · have hm:=l0s hi;obtain⟨u',o',a1,a2,a3,a4⟩:=fl_L2 (hn _ hm) hp hl u o h4 Om l.length FU (l09 _) (FU_gt Om);obtain⟨o2,b1,b2,b3⟩:=ih (i+1) m u' o' Om Om Om Om Om;rw[canonical_Fields_L1,if_pos Om,idx_nat,List.getElem?_eq_getElem hi,bsome,chk_ok Om Om,bsome,a1,bsome];dsimp only;rw[chk_succ Om,bsome];refine⟨o2,b1,b2,fun pre up g1 g2 g3 g4=>?_⟩;rw[canonical_Fields_L1,if_pos Om,idx_nat,List.getElem?_eq_getElem hi,bsome,l01,chk_ok Om Om,bsome,a4 pre up FU g1 (fun x hx=>g2 x hx _ hm) g3 g4 (FU_gt Om),bsome];dsimp only;rw[chk_succ Om,bsome];exact b3 pre up g1 g2 g3 g4
   rw[canonical_Fields_L1,if_neg Om];refine⟨o,G,by omega,fun pre up g1 g2 g3 g4=>?_⟩;rw[canonical_Fields_L1,if_neg Om]
theorem okL_of {l:List Fld}(h:(valR l).1=0):okL l∧l.length≤60∧BigF l:=by
 obtain⟨_,h2,h3⟩:=valR_zero h;have hk:okL l:=fun x hx=>by
  obtain⟨_,f2,f3,_,_⟩:=fault_zero (h3 x hx);exact⟨(Pf.nmL_len f2).2,f3⟩
 exact⟨hk,h2,fun x hx=>by have:=hk x hx;unfold Big;omega⟩
theorem okL_pre {pre l:List Fld}(h:okL (pre++l)):okL pre∧okL l:=⟨fun x hx=>h x (l0W _ hx),fun x hx=>h x (l0Z _ hx)⟩
theorem fields_tot {l:List Fld}{names:List Bt}(h:(valR l).1=0)(hN:names.length≤100)(hn :∀n∈names,Big n):
 ∃o,canonical_Fields l names=some (o,(0,0))∧o.length≤410000∧∀pre:List Fld,(valR (pre++l)).1=0→(∀x∈pre,∀n∈names,lower x.1≠lower n)→canonical_Fields (pre++l) names=some (o,(0,0)):=by
 obtain⟨hk,h60,hB⟩:=okL_of h;obtain⟨o,a1,a2,a3⟩:=fl_L1 hk Om hN hn names.length 0 FU (List.replicate l.length false) [] Om (FU_gt Om) Om Sm Sm;have hv:=(valR_zero h).1;refine⟨o,?_,by omega,fun pre hpre hne=>?_⟩
 · unfold canonical_Fields;rw[validate_eq l hB,hv,bsome];dsimp only;rw[fail_eq,bsome,decide_eq_true rfl,if_neg Dc,if_neg Om,mkS_ok Om Om Om Om,bsome,l0f];have a1':canonical_Fields_L1 l names FU (List.replicate l.length false) [] 0=some o:=a1;rw[a1',bsome,none_eq,bsome]
 obtain⟨hk2,h602,hB2⟩:=okL_of hpre;rw[l01] at h602;unfold canonical_Fields;rw[validate_eq _ hB2,(valR_zero hpre).1,bsome];dsimp only;rw[fail_eq,bsome,decide_eq_true rfl,if_neg Dc,if_neg Om,mkS_ok Om Om (by rw[l01];omega) (by rw[l01];omega),bsome,l0f];have a3':=a3 pre (List.replicate pre.length false) (okL_pre hk2).1 hne Sm Om;have hrep:(List.replicate (pre++l).length false:List Bool)=List.replicate pre.length false++List.replicate l.length false:=by rw[l01,List.replicate_append_replicate]
 rw[hrep];have a3'':canonical_Fields_L1 (pre++l) names FU (List.replicate pre.length false++List.replicate l.length false) [] 0=some o:=a3';rw[a3'',bsome,none_eq,bsome]
theorem sum_tot (k:Int)(b:Bt)(hb:b.length≤10000000):∃x,sign_Sum k b=some x:=by
 have hL :∀(d i m:Nat) (x:Int),b.length-i≤d→d<m→i≤b.length→∃y,sign_Sum_L1 b m x (i:Int)=some y:=by
  intro d;induction d with
  | zero =>
    intro i m x h1 h2 h3;obtain⟨m,rfl⟩ :∃k,m=k+1:=⟨m-1,by omega⟩
    rw[sign_Sum_L1,if_neg Om];exact ⟨_,rfl⟩
  | succ d ih =>
    intro i m x h1 h2 h3;obtain⟨m,rfl⟩ :∃k,m=k+1:=⟨m-1,by omega⟩
    rw[sign_Sum_L1];by_cases hi:i<b.length
    · rw[if_pos Om,idx_nat,List.getElem?_eq_getElem hi,bsome,chk_succ Om,bsome];exact ih (i+1) m _ Om Om Om
    rw[if_neg Om];exact ⟨_,rfl⟩
 unfold sign_Sum;obtain⟨y,hy⟩:=hL b.length 0 FU (xorU k (11400714819323198485:Int)) Om (FU_gt Om) Om;have hy':sign_Sum_L1 b FU (xorU k (11400714819323198485:Int)) 0=some y:=hy;rw[hy',bsome];exact⟨_,G⟩
def hexC (c:UInt8):Bool:=decide (48≤c.toNat∧c.toNat≤57) || decide (97≤c.toNat∧c.toNat≤102)
theorem hex1_eq (c:UInt8):sign_IsHex_1 c=some (hexC c):=by
 refine allB (p:=fun c=>sign_IsHex_1 c=some (hexC c)) ?_ c;decide +kernel
theorem and15 (a:Int):∃k:Nat,k<16∧andU a 15=(k:Int):=by
 unfold andU;have h:(BitVec.ofInt 64 a &&& BitVec.ofInt 64 15).toNat≤15:=by
  rw[BitVec.toNat_and];have h2:(BitVec.ofInt 64 15).toNat=15:=by decide
  rw[h2];exact Nat.and_le_right
 refine⟨_,Nat.lt_succ_of_le h,?_⟩;generalize (BitVec.ofInt 64 a &&& BitVec.ofInt 64 15).toNat=n at h ⊢;have :∀n:Nat,n<16→IntKind.u64.wrap (n:Int)=(n:Int):=by decide
 exact this n Om
def hx16 (l:Bt):Prop:=l.length=16∧∀c∈l,hexC c=true
theorem hex_tot (x:Int):∃h,sign_Hex x=some h∧hx16 h:=by
 have hL :∀(d i m:Nat) (l:Bt),16-i≤d→d<m→i≤16→l.length=16→(∀j,j<i→∃c,l[j]? = some c∧hexC c=true)→∃h,sign_Hex_L1 x (List.replicate 16 0) m l (i:Int)=some h∧hx16 h:=by
  intro d;induction d with
  | zero =>
    intro i m l h1 h2 h3 h4 h5;obtain⟨m,rfl⟩ :∃k,m=k+1:=⟨m-1,by omega⟩
    rw[sign_Hex_L1,if_neg (by simp;omega)];refine⟨l,G,h4,fun c hc=>?_⟩;obtain⟨j,hj,rfl⟩:=l0K hc;obtain⟨c,h6,h7⟩:=h5 j Om;rw[List.getElem?_eq_getElem hj] at h6;cases h6;exact h7
  | succ d ih =>
    intro i m l h1 h2 h3 h4 h5;obtain⟨m,rfl⟩ :∃k,m=k+1:=⟨m-1,by omega⟩
    rw[sign_Hex_L1];by_cases hi:i<16
    · rw[if_pos (by simp;omega),chk_ok Om Om,bsome,chk_ok Om Om,bsome];unfold shrU;rw[if_pos Om,bsome];obtain⟨k,hk1,hk2⟩:=and15 (x.fdiv (2 ^ min (60-4*(i:Int)).toNat 64));have hdig :∀k,k<16→∃c,([48,49,50,51,52,53,54,55,56,57,97,98,99,100,101,102]:Bt)[k]? = some c∧hexC c=true:=by
       intro k hk;have :∀k,k<16→(([48,49,50,51,52,53,54,55,56,57,97,98,99,100,101,102]:Bt)[k]?).any hexC=true:=by decide
       have h8:=this k hk;cases h9:([48,49,50,51,52,53,54,55,56,57,97,98,99,100,101,102]:Bt)[k]? with
       | none=>rw[h9] at h8;cases h8
       | some c=>rw[h9] at h8;exact ⟨c,rfl,h8⟩
      obtain⟨c,hc1,hc2⟩:=hdig k hk1;rw[hk2,idx_nat,hc1,bsome,idx_nat,List.getElem?_eq_getElem Om,bsome,put_ok Om Om,bsome,chk_succ Om,bsome,l0f];refine ih (i+1) m _ Om Om Om (by rw[l0Y];exact h4) (fun j hj=>?_);by_cases hji:i=j
      · subst hji;exact⟨c,List.getElem?_set_self Om,hc2⟩
      rw[List.getElem?_set_ne hji];exact h5 j Om
    rw[if_neg (by simp;omega)];refine⟨l,G,h4,fun c hc=>?_⟩;obtain⟨j,hj,rfl⟩:=l0K hc;obtain⟨c,h6,h7⟩:=h5 j Om;rw[List.getElem?_eq_getElem hj] at h6;cases h6;exact h7
 unfold sign_Hex;rw[mkS_ok Om Om Om Om,bsome];obtain⟨h,h1,h2⟩:=hL 16 0 FU (List.replicate 16 0) Om (FU_gt Om) Om Sm (fun j hj=>by omega);have h1':sign_Hex_L1 x (List.replicate (16:Int).toNat 0) FU (List.replicate (16:Int).toNat 0) 0=some h:=h1;rw[h1',bsome];exact⟨h,G,h2⟩
theorem ishex_eq {l:Bt}(h:hx16 l):sign_IsHex l=some true:=by
 unfold sign_IsHex;have h1:=h.1;rw[if_pos Om,Y1z l (by unfold Big;omega) _ hexC hex1_eq,bsome,bsome];exact congrArg some (List.all_eq_true.2 h.2)
end Go.Ph.Sg
end
section
namespace Go.Ph.Sg
open Go.Ph.Pl Go.Ph.Pf Go.Ph.Wd Go.Ph.Hd
open Go.Ph.Chs (lowB lower)
theorem splitK_len (sep:Bt):∀(k:Nat) (s:Bt),∀x∈Lib.splitK sep 0 k s,x.length≤s.length
 | 0,s,x,hx=>by
   rw[Lib.splitK] at hx;rw[List.mem_singleton.1 hx];omega
 | k+1,s,x,hx=>by
   rw[Lib.splitK] at hx;split at hx
   · rw[List.mem_singleton.1 hx];omega
   rcases List.mem_cons.1 hx with rfl|hx
   · rw[l0g];omega
   have:=splitK_len sep k _ x hx;rw[l0a] at this;omega
theorem pfx_eq (a b:Bt)(ha:a.length≤1000000):Y0s a b=some (if b.isPrefixOf a=true then(a.drop b.length,true) else(a,false)):=by
 unfold Y0s Y0r Y0m;by_cases h:b.length≤a.length
 · rw[if_pos Om,cut_to rfl h,bsome,bsome,bsome];by_cases he:a.take b.length=b
   · have hp:b.isPrefixOf a=true:=List.isPrefixOf_iff_prefix.2 (by rw[←he];exact List.take_prefix _ _);rw[decide_eq_true he,if_pos rfl,cut_from rfl h,bsome,bsome,if_pos hp]
   have hp :¬b.isPrefixOf a=true:=fun hp=>he (List.prefix_iff_eq_take.1 (List.isPrefixOf_iff_prefix.1 hp)).symm
   rw[decide_eq_false he,if_neg l00,bsome,if_neg hp]
 have hp :¬b.isPrefixOf a=true:=fun hp=>h (List.isPrefixOf_iff_prefix.1 hp).length_le
 rw[if_neg Om,bsome,bsome,if_neg l00,bsome,if_neg hp]
theorem pfx_tot (a b:Bt)(ha:a.length≤1000000):∃s c,Y0s a b=some (s,c)∧s.length≤a.length:=by
 rw[pfx_eq a b ha];split
 · exact⟨_,_,G,by rw[l0a];omega⟩
 exact⟨_,_,G,l09 _⟩
theorem cut1 (l:Bt)(i:Nat)(h:i<l.length):cut l (i:Int) ((i+1:Nat):Int)=some [l[i]]:=by
 rw[cut_of rfl rfl Om Om,l0F h];have:(l.take i).length=i:=by rw[l0g];omega
 rw[List.drop_append_of_le_length Om,l0N Om,l04]
theorem vals_L1 (p:Bt)(l1:List Bt)(hp:l1.length=p.length)(hpl:p.length≤100)(N:Nat)(hN:N≤100000):∀(d i m:Nat) (l:List Bt),l1.length-i≤d→d<m→i≤l1.length→l.length=l1.length→(∀x∈l,x.length≤N)→
 ∃o,sign_Values_L1 p l1 m l (i:Int)=some o∧∀l',o = .inl l'→l'.length=l1.length∧∀x∈l',x.length≤N:=by
 intro d;induction d with
 | zero =>
   intro i m l h1 h2 h3 h4 h5;obtain⟨m,rfl⟩ :∃k,m=k+1:=⟨m-1,by omega⟩
   rw[sign_Values_L1,if_neg Om];exact⟨_,G,fun l' h=>by cases h;exact ⟨h4,h5⟩⟩
 | succ d ih =>
   intro i m l h1 h2 h3 h4 h5;obtain⟨m,rfl⟩ :∃k,m=k+1:=⟨m-1,by omega⟩
   rw[sign_Values_L1];by_cases hi:i<l1.length
   · have hm:=l0s (l:=l) (n:=i) Om;rw[if_pos Om,idx_nat,List.getElem?_eq_getElem Om,bsome,chk_succ Om,bsome,cut1 p i Om,bsome,cat_ok Sm,bsome];obtain⟨s,b,q1,q2⟩:=pfx_tot l[i] ([p[i]'Om]++[61]) (by have:=h5 _ hm;omega);rw[q1,bsome];dsimp only;cases b with
     | true =>
       rw[if_pos rfl,bsome,put_ok Om Om,bsome,l0f];refine ih (i+1) m _ Om Om Om (by rw[l0Y];exact h4) (fun x hx=>?_);rcases List.mem_or_eq_of_mem_set hx with hx|rfl
       · exact h5 x hx
       have:=h5 _ hm;omega
     | false =>
       rw[if_neg l00];exact⟨_,G,fun l' h=>by cases h⟩
   rw[if_neg Om];exact⟨_,G,fun l' h=>by cases h;exact ⟨h4,h5⟩⟩
theorem vals_tot (v p:Bt)(hv:v.length≤100000)(hp:p.length≤100):∃l b,sign_Values v p=some (l,b)∧(b=true→l.length=p.length∧∀x∈l,x.length≤v.length):=by
 unfold sign_Values Y0g;rw[if_pos ⟨by omega,by simp⟩,bsome];by_cases h:(Lib.split v [59,32]).length=p.length
 · rw[if_pos Om];obtain⟨o,h1,h2⟩:=vals_L1 p (Lib.split v [59,32]) h hp v.length hv p.length 0 FU (Lib.split v [59,32]) Om (FU_gt Om) Om rfl (fun x hx=>splitK_len _ _ _ x hx);have h1':sign_Values_L1 p (Lib.split v [59,32]) FU (Lib.split v [59,32]) 0=some o:=h1;rw[h1',bsome];cases o with
   | inl l =>
     obtain⟨h3,h4⟩:=h2 l rfl;exact⟨l,true,G,fun _=>⟨by omega,h4⟩⟩
   | inr r => exact⟨r.1,r.2,rfl,fun hb=>by
    exfalso;clear h2;have key :∀(d i m:Nat) (l:List Bt),sign_Values_L1 p (Lib.split v [59,32]) m l (i:Int)=some (.inr r)→(Lib.split v [59,32]).length-i≤d→r.2=false:=by
     intro d;induction d with
     | zero =>
       intro i m l hh hd;cases m with
       | zero=>rw[sign_Values_L1] at hh;cases hh
       | succ m =>
         rw[sign_Values_L1,if_neg Om] at hh;cases hh
     | succ d ih =>
       intro i m l hh hd;cases m with
       | zero=>rw[sign_Values_L1] at hh;cases hh
       | succ m =>
         rw[sign_Values_L1] at hh;split at hh
         · obtain⟨a,_,hh⟩:=bnd hh;obtain⟨n,hn,hh⟩:=bnd hh;obtain⟨c,_,hh⟩:=bnd hh;obtain⟨c2,_,hh⟩:=bnd hh;obtain⟨⟨x,y⟩,_,hh⟩:=bnd hh;dsimp only at hh;split at hh
           · obtain⟨_,_,hh⟩:=bnd hh;obtain⟨l2,_,hh⟩:=bnd hh;obtain⟨n2,hn2,hh⟩:=bnd hh;have:=(chk_some hn2).2;subst this;exact ih (i+1) m l2 (by rw[Int.natCast_add];exact hh) Om
           cases hh;rfl
         cases hh
    have:=key _ 0 FU _ h1 (l09 _);rw[this] at hb;cases hb⟩
 rw[if_neg Om];exact⟨[],false,G,fun h=>by cases h⟩
def row (p:Bt)(parts:List Bt):List Bt:=List.zipWith (fun c x=>c::61::x) p parts
theorem vals_read (p:Bt)(parts:List Bt)(hl:p.length=parts.length)(hne:parts≠ [])(hp59 :∀c∈p,c≠59)(h59 :∀x∈parts,∀c∈x,c≠59)(hs :∀x∈parts,x.length≤5000)(h10:parts.length≤10):sign_Values (jn [59,32] (row p parts)) p=some (parts,true):=by
 have hrl:(row p parts).length=parts.length:=by unfold row;rw [l1K];omega
 have hmem :∀a∈row p parts,∃c∈p,∃x∈parts,a=c::61::x:=fun a ha=>by
  unfold row at ha;obtain⟨i,hi,rfl⟩:=l0K ha;rw[l1K] at hi;rw[List.getElem_zipWith];exact⟨_,l0s Om,_,l0s Om,G⟩
 have hspl:Lib.split (jn [59,32] (row p parts)) [59,32]=row p parts:=by
  refine split_jn 59 [32] _ (fun h=>hne (l05 (by rw[←hrl,h];rfl))) (fun a ha x hx=>?_);obtain⟨c,hc,y,hy,rfl⟩:=hmem a ha;rcases List.mem_cons.1 hx with rfl|hx
  · exact hp59 _ hc
  rcases List.mem_cons.1 hx with rfl|hx
  · decide
  exact h59 y hy x hx
 have hlen:(jn [59,32] (row p parts)).length≤100000:=by
  have:=jn_len [59,32] 5002 (row p parts) (fun a ha=>by
   obtain⟨c,hc,y,hy,rfl⟩:=hmem a ha;have:=hs y hy;simp only[l02];omega)
  simp only[l02,l08] at this;have h2:(row p parts).length*(5002+(0+1+1))≤10*(5002+(0+1+1)):=l0B _ Om;omega
 have hL :∀(d i m:Nat),parts.length-i≤d→d<m→i≤parts.length→sign_Values_L1 p (row p parts) m (parts.take i++(row p parts).drop i) (i:Int)=some (.inl parts):=by
  intro d;induction d with
  | zero =>
    intro i m h1 h2 h3;obtain⟨m,rfl⟩ :∃k,m=k+1:=⟨m-1,by omega⟩
    obtain rfl:i=parts.length:=by omega
    rw[sign_Values_L1,if_neg Om,l0T,l0N Om,l0l]
  | succ d ih =>
    intro i m h1 h2 h3;obtain⟨m,rfl⟩ :∃k,m=k+1:=⟨m-1,by omega⟩
    by_cases hi:i<parts.length
    · have hti:(parts.take i).length=i:=by rw[l0g];omega
      have hri:i<(row p parts).length:=by omega
      have hat:(parts.take i++(row p parts).drop i)[i]? = some (p[i]'Om::61::parts[i]):=by
       rw[List.getElem?_append_right Om,hti,Nat.sub_self,List.getElem?_drop,l0U];unfold row;rw[List.getElem?_eq_getElem (by rw[l1K];omega),List.getElem_zipWith]
      have hlenl:(parts.take i++(row p parts).drop i).length=parts.length:=by rw[l01,hti,l0a];omega
      have hset:(parts.take i++(row p parts).drop i).set i parts[i]=parts.take (i+1)++(row p parts).drop (i+1):=by
       rw[l1E _ _ Om,hti,Nat.sub_self,drop_cons hri,l1M,l0F hi,l0u];rfl
      have hsz:=hs _ (l0s hi);have hpre:([p[i]'Om]++[61]:Bt).isPrefixOf (p[i]'Om::61::parts[i])=true:=by simp [List.isPrefixOf]
      rw[sign_Values_L1,if_pos Om,idx_nat,hat,bsome,chk_succ Om,bsome,cut1 p i Om,bsome,cat_ok Sm,bsome,pfx_eq _ _ (by simp only[l02];omega),if_pos hpre,bsome];dsimp only;rw[if_pos rfl,bsome,put_ok Om Om,bsome,l0f];show sign_Values_L1 p (row p parts) m ((parts.take i++(row p parts).drop i).set i parts[i]) _=_
      rw[hset];exact ih (i+1) m Om Om Om
    obtain rfl:i=parts.length:=by omega
    rw[sign_Values_L1,if_neg Om,l0T,l0N Om,l0l]
 unfold sign_Values Y0g;rw[if_pos ⟨by omega,by simp⟩,bsome,hspl,if_pos Om];have h:=hL parts.length 0 FU Om (FU_gt Om) Om;rw[List.take_zero,l04,l1e] at h;have h':sign_Values_L1 p (row p parts) FU (row p parts) 0=some (.inl parts):=h;rw[h',bsome]
theorem sm_ne (c:UInt8):smC c=true→c≠59∧c≠58:=by
 refine allB (p:=fun c=>smC c=true→c≠59∧c≠58) ?_ c;decide +kernel
theorem hx_ne (c:UInt8):hexC c=true→c≠59:=by
 refine allB (p:=fun c=>hexC c=true→c≠59) ?_ c;decide +kernel
theorem jn_mem (sep:Bt):∀(l:List Bt) (c:UInt8),c∈jn sep l→c∈sep∨∃a∈l,c∈a
 | [],c,h=>by simp [jn] at h
 | [a],c,h => .inr ⟨a,by simp,by simpa [jn] using h⟩
 | a :: b::l,c,h=>by
   rw[show jn sep (a::b::l)=a++sep++jn sep (b::l) by rw[jn];try simp] at h;rcases List.mem_append.1 h with h|h
   · rcases List.mem_append.1 h with h|h
     · exact .inr ⟨a,by simp,h⟩
     exact .inl h
   rcases jn_mem sep (b::l) c h with h|⟨x,hx,h⟩
   · exact .inl h
   exact .inr ⟨x,l0p _ hx,h⟩
def sgV (d:Bt)(names:List Bt)(h1 h2:Bt):Bt:=jn [59,32] (row [100,104,98,115] [d,jn [58] names,h1,h2])
theorem sgV_eq (d:Bt)(names:List Bt)(h1 h2:Bt):[100,61]++d++[59,32,104,61]++jn [58] names++[59,32,98,61]++h1++[59,32,115,61]++h2=sgV d names h1 h2:=by
 unfold sgV row;simp [jn,List.zipWith]
theorem names_len {names:List Bt}(hN:names.length≤20)(hn :∀n∈names,n.length≤60):(jn [58] names).length≤1220:=by
 have:=jn_len [58] 60 names hn;simp only[l02,l08] at this;have h2:names.length*(60+(0+1))≤20*(60+(0+1)):=l0B _ hN;omega
theorem sgV_len {d:Bt}{names:List Bt}{h1 h2:Bt}(hd:d.length≤60)(hN:names.length≤20)(hn :∀n∈names,n.length≤60)(a:hx16 h1)(b:hx16 h2):(sgV d names h1 h2).length≤2000:=by
 have:=names_len hN hn;have h3:=a.1;have h4:=b.1;rw[←sgV_eq];simp only[l01,l02,l08];omega
theorem sv_tot {m:Msg}{d:Bt}(k:Int){names:List Bt}(hv:(valR m.1).1=0)(hb:m.2.length≤12000)(hd:d.length≤60)(hN:names.length≤20)(hn :∀n∈names,n.length≤60):
 ∃h1 h2,hx16 h1∧hx16 h2∧sign_value m d k names=some (sgV d names h1 h2,true)∧
  ∀pre:List Fld,(valR (pre++m.1)).1=0→(∀x∈pre,∀n∈names,lower x.1≠lower n)→sign_value (pre++m.1,m.2) d k names=some (sgV d names h1 h2,true):=by
 obtain⟨b,b1,b2⟩:=cbody_tot m.2 hb;obtain⟨f,f1,f2,f3⟩:=fields_tot hv (names:=names) Om (fun n h=>by have:=hn n h;unfold Big;omega);obtain⟨x1,hx1⟩:=sum_tot k b Om;obtain⟨h1,a1,a2⟩:=hex_tot x1;have hj:=names_len hN hn;have hh:=a2.1;obtain⟨x2,hx2⟩:=sum_tot k (f++([100,61]++d++[59,32,104,61]++jn [58] names++[59,32,98,61]++h1++[59,32,115,61])) (by simp only[l01,l02,l08];omega);obtain⟨h2,c1,c2⟩:=hex_tot x2;have hh2:=c2.1;have main :∀F:List Fld,canonical_Fields F names=some (f,(0,0))→sign_value (F,m.2) d k names=some (sgV d names h1 h2,true):=fun F hF=>by
  unfold sign_value;dsimp only;rw[b1,bsome];dsimp only;rw[hF,bsome];dsimp only;rw[fail_eq,bsome,decide_eq_true rfl,if_neg Dc,bsome,bsome,if_neg Dc];unfold Y0S;rw[cat_ok (by simp only[l02,l08];omega),bsome,cat_ok (by simp only[l01,l02,l08];omega),bsome,if_pos ⟨by omega,by omega⟩,bsome,
   cat_ok (by simp only[l01,l02,l08];omega),bsome,cat_ok (by simp only[l01,l02,l08];omega),bsome,hx1,bsome,a1,bsome,
   cat_ok (by simp only[l01,l02,l08];omega),bsome,cat_ok (by simp only[l01,l02,l08];omega),bsome,
   app_ok (by simp only[l01,l02,l08];omega),bsome,hx2,bsome,c1,bsome,cat_ok (by simp only[l01,l02,l08];omega),bsome,sgV_eq]
 exact⟨h1,h2,a2,c2,main m.1 f1,fun pre hp hne=>main _ (f3 pre hp hne)⟩
theorem sg_read {d:Bt}{names:List Bt}{h1 h2:Bt}(hd:smallL d=true)(hN:names.length≤20)(hn :∀n∈names,smallL n=true)(a:hx16 h1)(b:hx16 h2):sign_Values (sgV d names h1 h2) [100,104,98,115]=some ([d,jn [58] names,h1,h2],true):=by
 have hj:=names_len hN (fun n h=>(small_facts (hn n h)).2.1);have hd60:=(small_facts hd).2.1;have e1:=a.1;have e2:=b.1;refine vals_read _ _ G Sm Dc (fun x hx=>?_) (fun x hx=>?_) Sm
 · simp only[l0v,l0o,or_false] at hx;rcases hx with rfl|rfl|rfl|rfl
   · exact fun c hc=>(sm_ne c ((small_facts hd).2.2.1 c hc)).1
   · intro c hc;rcases jn_mem _ _ c hc with h|⟨y,hy,h⟩
     · rw[List.mem_singleton.1 h];decide
     exact(sm_ne c ((small_facts (hn y hy)).2.2.1 c h)).1
   · exact fun c hc=>hx_ne c (a.2 c hc)
   exact fun c hc=>hx_ne c (b.2 c hc)
 simp only[l0v,l0o,or_false] at hx;rcases hx with rfl|rfl|rfl|rfl <;> omega
theorem names_read {names:List Bt}(hne:names≠ [])(hN:names.length≤20)(hn :∀n∈names,smallL n=true):Y0g (jn [58] names) [58]=some names:=by
 have hj:=names_len hN (fun n h=>(small_facts (hn n h)).2.1);unfold Y0g;rw[if_pos ⟨by omega,by simp⟩,split_jn 58 [] names hne (fun a ha c hc=>(sm_ne c ((small_facts (hn a ha)).2.2.1 c hc)).2)]
def passB : Bt:=[112,97,115,115]
def slV (num y r b h:Bt):Bt:=jn [59,32] (row [110,121,114,98,115] [num,y,r,b,h])
theorem slV_eq (num y r b h:Bt):[110,61]++num++[59,32,121,61]++y++[59,32,114,61]++r++[59,32,98,61]++b++[59,32,115,61]++h=slV num y r b h:=by
 unfold slV row;simp [jn,List.zipWith]
theorem cv_tot {num y r b:Bt}(k:Int){below:List Bt}(h1:num.length≤25)(h2:y.length≤60)(h3:r.length≤60)(h4:b.length=16)(h5:below.length≤60)(h6 :∀x∈below,x.length≤4000):
 ∃h,hx16 h∧custody_value num y r b k below=some (slV num y r b h):=by
 have hj:(jn [10] below).length≤300000:=by
  have:=jn_len [10] 4000 below h6;simp only[l02,l08] at this;have h7:below.length*(4000+(0+1))≤60*(4000+(0+1)):=l0B _ h5;omega
 obtain⟨x,hx⟩:=sum_tot k ([110,61]++num++[59,32,121,61]++y++[59,32,114,61]++r++[59,32,98,61]++b++[59,32,115,61]++jn [10] below) (by simp only[l01,l02,l08];omega);obtain⟨h,a1,a2⟩:=hex_tot x;have hh:=a2.1;refine⟨h,a2,?_⟩;unfold custody_value Y0S;rw[cat_ok (by simp only[l02,l08];omega),bsome,cat_ok (by simp only[l01,l02,l08];omega),bsome,cat_ok (by simp only[l01,l02,l08];omega),bsome,
  cat_ok (by simp only[l01,l02,l08];omega),bsome,cat_ok (by simp only[l01,l02,l08];omega),bsome,cat_ok (by simp only[l01,l02,l08];omega),bsome,
  cat_ok (by simp only[l01,l02,l08];omega),bsome,cat_ok (by simp only[l01,l02,l08];omega),bsome,if_pos ⟨by omega,by omega⟩,bsome,
  cat_ok (by simp only[l01,l02,l08];omega),bsome,toB_ok (by simp only[l01,l02,l08];omega),bsome,hx,bsome,a1,bsome,
  cat_ok (by simp only[l01,l02,l08];omega),bsome,slV_eq]
theorem dg_ne :∀(m n:Nat),∀c∈dgF m n,c≠59
 | 0,n,c,h=>by simp [dgF] at h
 | m+1,n,c,h=>by
   rw[dgF] at h;have hd :∀k,k<10→UInt8.ofNat (48+k)≠59:=by decide
   split at h
   · rw[List.mem_singleton.1 h];exact hd n Om
   rcases List.mem_append.1 h with h|h
   · exact dg_ne m (n / 10) c h
   rw[List.mem_singleton.1 h];exact hd _ Om
theorem dg_len :∀(m n:Nat),(dgF m n).length≤m
 | 0,n=>by simp [dgF]
 | m+1,n=>by
   rw[dgF];split
   · simp
   have:=dg_len m (n / 10);rw[l01,l1g];omega
def numB (n:Nat):Bt:=itoaP (n:Int)
theorem num_facts (n:Nat):(numB n).length≤20∧∀c∈numB n,c≠59:=by
 unfold numB itoaP;rw[if_neg Om];exact⟨dg_len _ _,dg_ne _ _⟩
theorem itoa_eq (n:Nat)(h:n≤1000000):strconv_Itoa (n:Int)=some (numB n):=by
 unfold strconv_Itoa numB;rw[if_pos ⟨by omega,by omega⟩]
theorem sl_read {n:Nat}{y b h:Bt}(hy:smallL y=true)(hb:hx16 b)(hh:hx16 h):sign_Values (slV (numB n) y passB b h) [110,121,114,98,115]=some ([numB n,y,passB,b,h],true):=by
 have h1:=num_facts n;have h2:=(small_facts hy)
 have e1:=hb.1;have e2:=hh.1;refine vals_read _ _ G Sm Dc (fun x hx=>?_) (fun x hx=>?_) Sm
 · simp only[l0v,l0o,or_false] at hx;rcases hx with rfl|rfl|rfl|rfl|rfl
   · exact h1.2
   · exact fun c hc=>(sm_ne c (h2.2.2.1 c hc)).1
   · decide
   · exact fun c hc=>hx_ne c (hb.2 c hc)
   exact fun c hc=>hx_ne c (hh.2 c hc)
 simp only[l0v,l0o,or_false] at hx;have hp:passB.length=4:=rfl;rcases hx with rfl|rfl|rfl|rfl|rfl <;> omega
theorem slV_len {n:Nat}{y b h:Bt}(hy:smallL y=true)(hb:hx16 b)(hh:hx16 h):(slV (numB n) y passB b h).length≤2000:=by
 have h1:=(num_facts n).1;have h2:=(small_facts hy).2.1;have e1:=hb.1;have e2:=hh.1;have hp:passB.length=4:=rfl;rw[←slV_eq];simp only[l01,l02,l08];omega
end Go.Ph.Sg
end
section
namespace Go.Ph.Sg
open Go.Ph.Pl Go.Ph.Pf Go.Ph.Wd Go.Ph.Hd
open Go.Ph.Chs (lowB lower)
theorem concat_eq (x:Fld)(l:List Fld)(hl:l.length≤1000):Y0L [[x],l]=some (x::l):=by
 unfold Y0L;have h1:Y08 [[x],l] FU 0 0=some (0+(1:Int)+(l.length:Int)):=by
  rw[foldI0 (L:=fun m s i=>Y08 [[x],l] m s i) [[x],l] (fun s a=>s+(a.length:Int)) id (fun i s=>0≤s∧s≤2000*(i:Int)) Sm ?_ ?_ 0 Sm]
  · rfl
  · intro m s hs;rw[Y08,if_neg Om];rfl
  intro m s i a ha hs;have hi:=(List.getElem?_eq_some_iff.1 ha).1;have hal:a.length≤1000:=by
   have:=l0r ha;simp only[l0v,l0o,or_false] at this;rcases this with rfl|rfl <;> simp <;> omega
  refine⟨by omega,?_⟩;simp only[l02,l08] at hi;rw[Y08,if_pos (by simp only[l02,l08];omega),idx_nat,ha,bsome,chk_ok Om Om,bsome,if_neg Om,chk_succ Om,bsome]
 have h2:Y09 [[x],l] FU [] 0=some (x::l):=by
  rw[foldI0 (L:=fun m s i=>Y09 [[x],l] m s i) [[x],l] (fun s a=>s++a) id (fun i s=>s.length≤2000*i) Sm ?_ ?_ [] Sm]
  · simp
  · intro m s hs;rw[Y09,if_neg Om];rfl
  intro m s i a ha hs;have hi:=(List.getElem?_eq_some_iff.1 ha).1;have hal:a.length≤1000:=by
   have:=l0r ha;simp only[l0v,l0o,or_false] at this;rcases this with rfl|rfl <;> simp <;> omega
  refine⟨by rw[l01];omega,?_⟩;simp only[l02,l08] at hi;rw[Y09,if_pos (by simp only[l02,l08];omega),idx_nat,ha,bsome,app_ok Om,bsome,chk_succ Om,bsome]
 unfold Y16;rw[h1,bsome,if_pos ⟨by omega,by omega⟩,bsome,h2,bsome]
theorem front_eq (F:List Fld)(B n v:Bt)(hl:F.length≤1000)(hB:B.length≤140737488355328):trace_Front (F,B) n v=some ((n,v)::F,B):=by
 unfold trace_Front Y17;dsimp only;rw[concat_eq _ _ hl,bsome,app_ok1 (by simp;omega),bsome,l04]
theorem sign_ok {F:List Fld}{B d:Bt}(k:Int){names:List Bt}(hb:BigF F)(hB:B.length≤140737488355328)(hd:Big d)(hn :∀n∈names,Big n):
 ∃ out a b,sign_Sign (F,B) d k names=some (out,(a,b))∧(a=0→(valR F).1=0∧B.length≤12000∧smallL d=true∧namedL names=true∧
  ∃h1 h2,hx16 h1∧hx16 h2∧out=((sigN,sgV d names h1 h2)::F,B)∧(∃b',message_Validate out=some (0,b'))∧(valR out.1).1=0∧
   (∀pre:List Fld,(valR (pre++F)).1=0→(∀x∈pre,∀n∈names,lower x.1≠lower n)→sign_value (pre++F,B) d k names=some (sgV d names h1 h2,true))):=by
 obtain⟨a0,b0,hv,hok⟩:=mvalid (F,B) hb hB;unfold sign_Sign;dsimp only;rw[hv,bsome];dsimp only;rw[fail_eq,bsome];by_cases h0:a0=0
 · obtain⟨hF,hB2⟩:=hok h0;obtain⟨hk,h60,_⟩:=okL_of hF;dsimp only at hF hB2 hk h60;rw[decide_eq_true h0,if_neg Dc,small_eq hd,bsome];by_cases hs:smallL d=true
   · rw [if_pos hs,named_eq hn,bsome];by_cases hN:namedL names=true
     · obtain⟨n1,n2,n3⟩:=named_facts hN;obtain⟨h1,h2,x1,x2,hval,hpre⟩:=sv_tot (m:=(F,B)) k hF hB2 (small_facts hs).2.1 n2 (fun n h=>(small_facts (n3 n h).1).2.1);have hlen:=sgV_len (small_facts hs).2.1 n2 (fun n h=>(small_facts (n3 n h).1).2.1) x1 x2;rw[if_pos hN,hval,bsome];dsimp only;rw[if_pos rfl,front_eq _ _ _ _ Om hB,bsome];dsimp only;have hb2:BigF ((sigN,sgV d names h1 h2)::F):=fun x hx=>by
        rcases List.mem_cons.1 hx with rfl|hx
        · exact⟨by unfold Big sigN;simp,by unfold Big;dsimp only;omega⟩
        exact hb x hx
       obtain⟨a2,b2,hv2,hok2⟩:=mvalid ((sigN,sgV d names h1 h2)::F,B) hb2 hB;rw[show ([77,97,105,108,45,83,105,103,110,97,116,117,114,101]:Bt)=sigN from rfl,hv2,bsome];dsimp only;rw[fail_eq,bsome];by_cases h2':a2=0
       · subst h2';rw[decide_eq_true rfl,if_neg Dc,none_eq,bsome];exact⟨_,_,_,G,fun _=>⟨hF,hB2,hs,hN,h1,h2,x1,x2,G,⟨_,hv2⟩,(hok2 G).1,hpre⟩⟩
       rw[decide_eq_false h2',if_pos Dc,flt_eq,bsome];exact⟨_,_,_,G,fun h=>absurd h h2'⟩
     rw[if_neg hN,flt_eq,bsome];exact⟨_,_,_,G,fun h=>absurd h Dc⟩
   rw[if_neg hs,flt_eq,bsome];exact⟨_,_,_,G,fun h=>absurd h Dc⟩
 rw[decide_eq_false h0,if_pos Dc];exact⟨_,_,_,G,fun h=>absurd h h0⟩
theorem cb_tot (B:Bt)(hB:B.length≤12000):∃sum,hx16 sum∧∀F:List Fld,custody_body (F,B)=some (sum,true):=by
 obtain⟨r,h1,h2⟩:=cbody_tot B hB;obtain⟨x,hx⟩:=sum_tot 0 r Om;obtain⟨s,h3,h4⟩:=hex_tot x;refine⟨s,h4,fun F=>?_⟩;unfold custody_body;dsimp only;rw[h1,bsome];dsimp only;rw[hx,bsome,h3,bsome,fail_eq,bsome];rfl
theorem valsN_len (l:List Fld)(n:Bt):(valsN l n).length≤l.length:=by
 unfold valsN;rw[l0d];exact List.length_filter_le _ _
theorem valsN_ok {l:List Fld}(h:okL l)(n:Bt):∀x∈valsN l n,x.length≤4000:=fun x hx=>by
 unfold valsN at hx;obtain⟨y,hy,rfl⟩:=List.mem_map.1 hx;exact(h y (List.mem_filter.1 hy).1).2
theorem valsN_cons (x:Fld)(l:List Fld)(n:Bt):valsN (x::l) n=if isN n x=true then x.2::valsN l n else valsN l n:=by
 unfold valsN;by_cases h:isN n x=true
 · rw[l1A h,if_pos h];rfl
 rw[l1B h,if_neg h]
theorem seal_ok {F:List Fld}{B y:Bt}(k:Int)(hb:BigF F)(hB:B.length≤12000)(hy:Big y){sum:Bt}(hs:hx16 sum)(hsum :∀F:List Fld,custody_body (F,B)=some (sum,true)):
 ∃ out a b,custody_Seal (F,B) y k [112,97,115,115]=some (out,(a,b))∧(a=0→(valR F).1=0∧smallL y=true∧
  ∃h,hx16 h∧custody_value (numB ((valsN F cusN).length+1)) y passB sum k (valsN F cusN)=some (slV (numB ((valsN F cusN).length+1)) y passB sum h)∧
   out=((cusN,slV (numB ((valsN F cusN).length+1)) y passB sum h)::F,B)∧(∃b',message_Validate out=some (0,b'))∧(valR out.1).1=0):=by
 obtain⟨a0,b0,hv,hok⟩:=mvalid (F,B) hb (by dsimp only;omega);unfold custody_Seal;dsimp only;rw[hv,bsome];dsimp only;rw[fail_eq,bsome];by_cases h0:a0=0
 · obtain⟨hF,hB2⟩:=hok h0;obtain⟨hk,h60,_⟩:=okL_of hF;dsimp only at hF hB2 hk h60;rw[decide_eq_true h0,if_neg Dc,hsum F,bsome];dsimp only;rw[small_eq hy,bsome];by_cases hS:smallL y=true
   · have hp:smallL ([112,97,115,115]:Bt)=true:=by decide
     have hSl:=valsN_len F cusN;rw[if_pos hS,small_eq (by unfold Big;simp),bsome,if_pos hp,if_pos rfl,seals_eq (F,B) (by dsimp only;omega) hb,bsome];dsimp only;rw[chk_succ Om,bsome,itoa_eq _ Om,bsome];have hn:=num_facts ((valsN F cusN).length+1);obtain⟨h,x1,x2⟩:=cv_tot (num:=numB ((valsN F cusN).length+1)) (y:=y) (r:=passB) (b:=sum) k (below:=valsN F cusN) Om (small_facts hS).2.1 (by unfold passB;simp) hs.1 Om (valsN_ok hk cusN);have hlen:=slV_len (n:=(valsN F cusN).length+1) hS hs x1;rw[show ([112,97,115,115]:Bt)=passB from rfl,x2,bsome,front_eq _ _ _ _ Om Om,bsome];dsimp only;have hb2:BigF ((cusN,slV (numB ((valsN F cusN).length+1)) y passB sum h)::F):=fun x hx=>by
      rcases List.mem_cons.1 hx with rfl|hx
      · exact⟨by unfold Big cusN;simp,by unfold Big;dsimp only;omega⟩
      exact hb x hx
     obtain⟨a2,b2,hv2,hok2⟩:=mvalid ((cusN,slV (numB ((valsN F cusN).length+1)) y passB sum h)::F,B) hb2 (by dsimp only;omega);rw[show ([77,97,105,108,45,67,117,115,116,111,100,121]:Bt)=cusN from rfl,hv2,bsome];dsimp only;rw[fail_eq,bsome];by_cases h2':a2=0
     · subst h2';rw[decide_eq_true rfl,if_neg Dc,none_eq,bsome];exact⟨_,_,_,G,fun _=>⟨hF,hS,h,x1,G,G,⟨_,hv2⟩,(hok2 G).1⟩⟩
     rw[decide_eq_false h2',if_pos Dc,flt_eq,bsome];exact⟨_,_,_,G,fun h=>absurd h h2'⟩
   rw[if_neg hS,flt_eq,bsome];exact⟨_,_,_,G,fun h=>absurd h Dc⟩
 rw[decide_eq_false h0,if_pos Dc];exact⟨_,_,_,G,fun h=>absurd h h0⟩
def chain (sum:Bt)(rel:List Bt):List Bt→Prop
 | []=>True
 | s::S=>(∃y h,rel[S.length]? = some y∧smallL y=true∧hx16 h∧s=slV (numB (S.length+1)) y passB sum h∧
  custody_value (numB (S.length+1)) y passB sum (IntKind.u64.wrap (S.length:Int)) S=some s)∧chain sum rel S
theorem chain_drop {sum:Bt}{rel:List Bt}:∀{S:List Bt} (j:Nat),chain sum rel S→chain sum rel (S.drop j)
 | S,0,h=>h
 | [],j+1,h=>by rw[List.drop_nil];trivial
 | s::S,j+1,h=>by rw[List.drop_succ_cons];exact chain_drop j h.2
structure Inv (sum B:Bt)(rel:List Bt)(F0:List Fld)(i:Nat)(F:List Fld)(K:List Key):Prop where
 val:(valR F).1=0
 mval :∃b,message_Validate (F,B)=some (0,b)
 pre :∃pre,F=pre++F0∧∀x∈pre,lower x.1=lower cusN∨lower x.1=lower recN
 ch:chain sum rel (valsN F cusN)
 len:(valsN F cusN).length=i
 kl:K.length=i
 ks :∀k∈K,smallL k.1=true
 kof :∀t y,t<i→rel[t]? = some y→keyOf K y=some (IntKind.u64.wrap (t:Int))
theorem keyOf_app_l {K:List Key}{y:Bt}{x:Int}(k:Key)(h:keyOf K y=some x):keyOf (K++[k]) y=some x:=by
 unfold keyOf at h ⊢;obtain⟨z,h1,h2⟩:=Option.map_eq_some_iff.1 h;rw[List.find?_append,h1];exact congrArg some h2
theorem keyOf_app_r {K:List Key}{y:Bt}{x:Int}(h:keyOf K y=none):keyOf (K++[(y,x)]) y=some x:=by
 unfold keyOf at h ⊢;rw[Option.map_eq_none_iff] at h;rw[List.find?_append,h];simp
theorem loop_ok (ex:Top_h11Fixed=some true){sum B value:Bt}{rel:List Bt}{F0:List Fld}(hs:hx16 sum)(hsum :∀F:List Fld,custody_body (F,B)=some (sum,true))(hB:B.length≤12000)(hv:Big value)(hr :∀y∈rel,Big y)(hR:rel.length≤10):
 ∀(d i m:Nat) (F:List Fld) (K:List Key),rel.length-i≤d→d<m→i≤rel.length→Inv sum B rel F0 i F K→
  Top_TopSignaturesPassRelays_L1 rel value m F B K (i:Int)=some (.inr true)∨
  ∃F' K',Top_TopSignaturesPassRelays_L1 rel value m F B K (i:Int)=some (.inl (F',B,K'))∧Inv sum B rel F0 rel.length F' K':=by
 intro d;induction d with
 | zero =>
   intro i m F K h1 h2 h3 h4;obtain⟨m,rfl⟩ :∃k,m=k+1:=⟨m-1,by omega⟩
   obtain rfl:i=rel.length:=by omega
   rw[Top_TopSignaturesPassRelays_L1,if_neg Om];exact .inr ⟨F,K,G,h4⟩
 | succ d ih =>
   intro i m F K h1 h2 h3 h4;obtain⟨m,rfl⟩ :∃k,m=k+1:=⟨m-1,by omega⟩
   rw[Top_TopSignaturesPassRelays_L1];by_cases hi:i<rel.length
   · obtain⟨hk,h60,hbF⟩:=okL_of h4.val;have hmem:=l0s hi;have hrec:isN cusN (recN,value)=false:=by
      unfold isN;rw [decide_eq_false (by show lower recN≠lower cusN;decide)]
     have hb2:BigF ((recN,value)::F):=fun x hx=>by
      rcases List.mem_cons.1 hx with rfl|hx
      · exact⟨by unfold Big recN;simp,hv⟩
      exact hbF x hx
     have hvs:valsN ((recN,value)::F) cusN=valsN F cusN:=by rw[valsN_cons,if_neg (by rw[hrec];decide)]
     obtain⟨out,a,b,hseal,hok⟩:=seal_ok (y:=rel[i]) (IntKind.u64.wrap (i:Int)) hb2 hB (hr _ hmem) hs hsum;rw[if_pos Om,app_ok (by simp;omega),bsome,idx_nat,List.getElem?_eq_getElem hi,bsome,show ([([82,101,99,101,105,118,101,100],value)]:List Fld)++F=(recN,value)::F from rfl,hseal,bsome];dsimp only;by_cases ha:a=0
     · obtain⟨_,hsy,h,x1,x2,rfl,⟨b',hmv⟩,hval⟩:=hok ha;rw[hvs] at x2 hmv hval ⊢;dsimp only at hval;rw[if_pos ha,bsome,rkey_eq K (by have:=h4.kl;omega),bsome];cases hko:keyOf K rel[i] with
       | some kv =>
         dsimp only;rw[if_pos rfl,ex,bsome];exact .inl rfl
       | none =>
         dsimp only;have hkl:=h4.kl;rw[if_neg l00,bsome,app_ok (by simp;omega),bsome,chk_succ Om,bsome];have hcus:isN cusN (cusN,slV (numB ((valsN F cusN).length+1)) rel[i] passB sum h)=true:=by unfold isN;exact decide_eq_true rfl
         have hlen:=h4.len;have hvs2:valsN ((cusN,slV (numB ((valsN F cusN).length+1)) rel[i] passB sum h)::(recN,value)::F) cusN=slV (numB ((valsN F cusN).length+1)) rel[i] passB sum h::valsN F cusN:=by rw[valsN_cons,if_pos hcus,hvs]
         refine ih (i+1) m _ _ Om Om Om ⟨hval,⟨b',hmv⟩,?_,?_,?_,?_,?_,?_⟩
         · obtain⟨pre,hp1,hp2⟩:=h4.pre;refine⟨(cusN,slV (numB ((valsN F cusN).length+1)) rel[i] passB sum h)::(recN,value)::pre,by rw[hp1];rfl,fun x hx=>?_⟩;rcases List.mem_cons.1 hx with rfl|hx
           · exact .inl G
           rcases List.mem_cons.1 hx with rfl|hx
           · exact .inr G
           exact hp2 x hx
         · rw[hvs2];exact⟨⟨rel[i],h,by rw[hlen];exact List.getElem?_eq_getElem hi,hsy,x1,G,by rw[hlen] at x2 ⊢;exact x2⟩,h4.ch⟩
         · rw[hvs2,l02,hlen]
         · rw[l01,hkl];rfl
         · intro k hk';rcases List.mem_append.1 hk' with hk'|hk'
           · exact h4.ks k hk'
           rw[List.mem_singleton.1 hk'];exact hsy
         intro t y ht hy;by_cases hti:t=i
         · subst hti;rw[List.getElem?_eq_getElem hi] at hy;cases hy;exact keyOf_app_r hko
         exact keyOf_app_l _ (h4.kof t y Om hy)
     rw[if_neg ha,ex,bsome];exact .inl rfl
   obtain rfl:i=rel.length:=by omega
   rw[if_neg Om];exact .inr ⟨F,K,G,h4⟩
theorem check1 {sum:Bt}{rel S:List Bt}{K:List Key}(hs:hx16 sum)(hS:S.length≤60)(hKl:K.length≤100)(hch:chain sum rel S)(hK :∀t y,t<S.length→rel[t]? = some y→keyOf K y=some (IntKind.u64.wrap (t:Int)))(j:Nat)(hj:j<S.length):custody_Check_1 (j:Int) S[j] S K sum=some true:=by
 have hd:=chain_drop j hch;rw[drop_cons hj] at hd;obtain⟨⟨y,h,e1,e2,e3,e4,e5⟩,_⟩:=hd;have hr:(S.drop (j+1)).length+1=S.length-j:=by rw[l0a];omega
 have hrd:=sl_read (n:=(S.drop (j+1)).length+1) e2 hs e3;have hk:=hK (S.drop (j+1)).length y Om e1;have hp:smallL passB=true:=by decide
 have hpB:Big passB:=by unfold Big passB;simp
 unfold custody_Check_1;rw[e4,hrd,bsome];dsimp only;rw[if_pos rfl,show idx [numB ((S.drop (j+1)).length+1),y,passB,sum,h] 0=some (numB ((S.drop (j+1)).length+1)) from rfl,bsome,show (S.length:Int)-(j:Int)=(((S.drop (j+1)).length+1:Nat):Int) by omega,chk_ok Om Om,bsome,itoa_eq _ Om,bsome,if_pos rfl,
  show idx [numB ((S.drop (j+1)).length+1),y,passB,sum,h] 1=some y from rfl,bsome,small_eq (small_big e2),bsome,if_pos e2,
  show idx [numB ((S.drop (j+1)).length+1),y,passB,sum,h] 2=some passB from rfl,bsome,small_eq hpB,bsome,if_pos hp,
  show idx [numB ((S.drop (j+1)).length+1),y,passB,sum,h] 3=some sum from rfl,bsome,ishex_eq hs,bsome,bsome,if_neg Dc,bsome,skey_eq K Om,hk,bsome]
 dsimp only;rw[if_pos rfl,bsome,bsome,bsome,bsome,chk_succ Om,bsome,cut_from rfl Om,bsome,e5,bsome,if_pos e4];by_cases h0:0<j
 · rw[if_pos Om,bsome]
 rw[if_neg Om,bsome,bsome,decide_eq_true rfl]
theorem check_ok {sum B:Bt}{rel:List Bt}{F0 F:List Fld}{K:List Key}(hs:hx16 sum)(hsum :∀F:List Fld,custody_body (F,B)=some (sum,true))(hR:rel.length≤10)(h:Inv sum B rel F0 rel.length F K):custody_Check (F,B) K=some ((rel.length:Int),true,(0,0)):=by
 obtain⟨b,hmv⟩:=h.mval;obtain⟨hk,h60,hbF⟩:=okL_of h.val;have hkl:=h.kl;have hlen:=h.len;unfold custody_Check;dsimp only;rw[hmv,bsome];dsimp only;rw[fail_eq,bsome,decide_eq_true rfl,if_neg Dc,keys_eq K Om h.ks,bsome];dsimp only;rw[fail_eq,bsome,decide_eq_true rfl,if_neg Dc,seals_eq (F,B) (by dsimp only;omega) hbF,bsome,hsum F,bsome];dsimp only;have hL :∀(d i m:Nat),(valsN F cusN).length-i≤d→d<m→i≤(valsN F cusN).length→custody_Check_L1 K (valsN F cusN) sum m true (i:Int)=some true:=by
  intro d;induction d with
  | zero =>
    intro i m h1 h2 h3;obtain⟨m,rfl⟩ :∃k,m=k+1:=⟨m-1,by omega⟩
    rw[custody_Check_L1,if_neg Om]
  | succ d ih =>
    intro i m h1 h2 h3;obtain⟨m,rfl⟩ :∃k,m=k+1:=⟨m-1,by omega⟩
    rw[custody_Check_L1];by_cases hi:i<(valsN F cusN).length
    · rw[if_pos Om,idx_nat,List.getElem?_eq_getElem hi,bsome,if_pos rfl,check1 hs Om Om h.ch (fun t y ht hy=>h.kof t y Om hy) i hi,bsome,bsome,chk_succ Om,bsome];exact ih (i+1) m Om Om Om
    rw[if_neg Om]
 have hL':custody_Check_L1 K (valsN F cusN) sum FU true 0=some true:=hL (valsN F cusN).length 0 FU Om (FU_gt Om) Om;rw[hL',bsome,if_pos rfl,none_eq,bsome];dsimp only;rw[bsome,hlen]
theorem verdict_tot {F:List Fld}{B v:Bt}{K:List Key}(hF:(valR F).1=0)(hB:B.length≤12000)(hv:v.length≤4000)(hK:K.length≤100):∃r,sign_verdict (F,B) v K=some r:=by
 obtain⟨l,b,h1,h2⟩:=vals_tot v [100,104,98,115] Om Sm;unfold sign_verdict;rw[h1,bsome];dsimp only;cases b with
 | false =>
   rw[if_neg l00,bsome,if_pos rfl];exact⟨_,G⟩
 | true =>
   obtain⟨hl,hx⟩:=h2 rfl;obtain⟨l0,l1,l2,l3,rfl⟩ :∃l0 l1 l2 l3,l=[l0,l1,l2,l3]:=by
    match l,hl with
    | [a,b,c,d],_=>exact⟨a,b,c,d,rfl⟩
   have b0:Big l0:=by have:=hx l0 Sm;unfold Big;omega
   have b1:l1.length≤4000:=by have:=hx l1 Sm;omega
   have b2:Big l2:=by have:=hx l2 Sm;unfold Big;omega
   have b3:Big l3:=by have:=hx l3 Sm;unfold Big;omega
   have hsp:Y0g l1 [58]=some (Lib.split l1 [58]):=by unfold Y0g;rw [if_pos ⟨by omega,by simp⟩]
   have hbs :∀x∈Lib.split l1 [58],Big x:=fun x hx'=>by have:=splitK_len _ _ _ x hx';unfold Big;omega
   have hih :∀x:Bt,Big x→∃b,sign_IsHex x=some b:=fun x hx'=>by
    unfold sign_IsHex;split
    · rw[Y1z x hx' _ hexC hex1_eq,bsome,bsome];exact ⟨_,rfl⟩
    rw[bsome];exact ⟨_,rfl⟩
   obtain⟨i2,hi2⟩:=hih l2 b2;obtain⟨i3,hi3⟩:=hih l3 b3;rw[if_pos rfl,show idx [l0,l1,l2,l3] 0=some l0 from rfl,bsome,small_eq b0,bsome,show idx [l0,l1,l2,l3] 1=some l1 from rfl,show idx [l0,l1,l2,l3] 2=some l2 from rfl,show idx [l0,l1,l2,l3] 3=some l3 from rfl];simp only[bsome,hsp,named_eq hbs,hi2,hi3,skey_eq K (by omega:K.length≤1000)];by_cases hs:smallL l0=true
   · rw[if_pos hs];by_cases hN:namedL (Lib.split l1 [58])=true
     · rw[if_pos hN];obtain⟨n1,n2,n3⟩:=named_facts hN;have hsv:=fun k=>sv_tot (m:=(F,B)) (d:=l0) k (names:=Lib.split l1 [58]) hF hB (small_facts hs).2.1 n2 (fun n h=>(small_facts (n3 n h).1).2.1)
       cases i2
       · rw[if_neg l00,bsome,if_pos rfl];exact ⟨_,rfl⟩
       rw[if_pos rfl,bsome];cases i3
       · exact⟨_,G⟩
       rw[if_neg Dc];cases hko:keyOf K l0 with
       | none=>exact⟨_,rfl⟩
       | some k =>
         obtain⟨q1,q2,_,_,hq,_⟩:=hsv k;dsimp only;rw[if_pos rfl,hq,bsome];dsimp only;split <;> exact⟨_,rfl⟩
     rw[if_neg hN,bsome,if_pos rfl];exact ⟨_,rfl⟩
   rw[if_neg hs,bsome,if_pos rfl];exact ⟨_,rfl⟩
theorem verdict_ok {F:List Fld}{B d h1 h2:Bt}{k:Int}{names:List Bt}(hd:smallL d=true)(hN:namedL names=true)(x1:hx16 h1)(x2:hx16 h2)(hv:sign_value (F,B) d k names=some (sgV d names h1 h2,true)):sign_verdict (F,B) (sgV d names h1 h2) [(d,k)]=some (d,1):=by
 obtain⟨n1,n2,n3⟩:=named_facts hN;have hne:names≠ []:=fun h=>by rw[h] at n1;simp at n1
 have hns :∀n∈names,smallL n=true:=fun n h=>(n3 n h).1
 have hrd:=sg_read hd n2 hns x1 x2;have hko:keyOf [(d,k)] d=some k:=by unfold keyOf;simp
 have hsk:sign_Key [(d,k)] d=some (k,true):=by rw[skey_eq _ Sm,hko]
 unfold sign_verdict;rw[hrd,bsome];dsimp only;rw[if_pos rfl,show idx [d,jn [58] names,h1,h2] 0=some d from rfl,bsome,small_eq (small_big hd),bsome,if_pos hd,show idx [d,jn [58] names,h1,h2] 1=some (jn [58] names) from rfl,bsome,names_read hne n2 hns,bsome,named_eq (fun n h=>small_big (hns n h)),bsome,if_pos hN,
  show idx [d,jn [58] names,h1,h2] 2=some h1 from rfl,bsome,ishex_eq x1,bsome,if_pos rfl,show idx [d,jn [58] names,h1,h2] 3=some h2 from rfl,bsome,ishex_eq x2,bsome,bsome,if_neg Dc,bsome,hsk,bsome]
 dsimp only;rw[if_pos rfl,bsome,bsome,bsome,names_read hne n2 hns,bsome,hv,bsome];dsimp only;rw[if_pos rfl]
theorem verify_L1 {F:List Fld}{B:Bt}{K:List Key}(hF:(valR F).1=0)(hB:B.length≤12000)(hK:K.length≤100):∀(d i m:Nat) (o:List (Bt × Int)),F.length-i≤d→d<m→i≤F.length→o.length≤i→
 ∃r,sign_Verify_L1 (F,B) K m o (i:Int)=some (o++r)∧∀(pre:List Fld) (x:Fld) (post:List Fld) (z:Bt × Int),F.drop i=pre++x::post→(∀q∈pre,isN sigN q=false)→isN sigN x=true→sign_verdict (F,B) x.2 K=some z→∃r',r=z::r':=by
 obtain⟨hk,h60,hbF⟩:=okL_of hF;have hbs:Big sigN:=by unfold Big sigN;simp
 intro d;induction d with
 | zero =>
   intro i m o h1 h2 h3 h4;obtain⟨m,rfl⟩ :∃k,m=k+1:=⟨m-1,by omega⟩
   obtain rfl:i=F.length:=by omega
   rw[sign_Verify_L1,if_neg (by dsimp only;omega)];refine⟨[],by rw[l0l],fun pre x post z hd=>?_⟩;rw[l0J] at hd;have:=congrArg List.length hd;simp at this
 | succ d ih =>
   intro i m o h1 h2 h3 h4;obtain⟨m,rfl⟩ :∃k,m=k+1:=⟨m-1,by omega⟩
   rw[sign_Verify_L1];dsimp only;by_cases hi:i<F.length
   · have hm:=l0s hi;have hsz:=hk _ hm;rw[if_pos Om,idx_nat,List.getElem?_eq_getElem hi,bsome,show ([77,97,105,108,45,83,105,103,110,97,116,117,114,101]:Bt)=sigN from rfl,same_eq (by unfold Big;omega) hbs,bsome];by_cases hsn:isN sigN F[i]=true
     · have hd':lower F[i].1=lower sigN:=by unfold isN at hsn;exact of_decide_eq_true hsn
       obtain⟨⟨u,n⟩,hr⟩:=verdict_tot (v:=F[i].2) hF hB hsz.2 hK;rw[decide_eq_true hd',if_pos rfl,hr,bsome];dsimp only;rw[app_ok (by simp;omega),bsome,chk_succ Om,bsome];obtain⟨r,hr1,_⟩:=ih (i+1) m (o++[(u,n)]) Om Om Om (by rw[l01,l1g];omega);refine⟨(u,n)::r,by rw[hr1,l0u];rfl,fun pre x post z hd hp hx hz=>?_⟩;rw[drop_cons hi] at hd;cases pre with
       | nil =>
         rw[l04] at hd;obtain⟨rfl,_⟩:=List.cons.inj hd;rw[hr] at hz;cases hz;exact⟨r,G⟩
       | cons q pre =>
         rw[l03] at hd;obtain⟨rfl,_⟩:=List.cons.inj hd;have:=hp F[i] Sm;rw[hsn] at this;cases this
     have hd' :¬lower F[i].1=lower sigN:=fun h=>hsn (by unfold isN;exact decide_eq_true h)
     rw[decide_eq_false hd',if_neg l00,chk_succ Om,bsome];obtain⟨r,hr1,hr2⟩:=ih (i+1) m o Om Om Om Om;refine⟨r,hr1,fun pre x post z hd hp hx hz=>?_⟩;rw[drop_cons hi] at hd;cases pre with
     | nil =>
       rw[l04] at hd;obtain⟨rfl,_⟩:=List.cons.inj hd;exact absurd hx hsn
     | cons q pre =>
       rw[l03] at hd;obtain⟨_,hd⟩:=List.cons.inj hd;exact hr2 pre x post z hd (fun q' hq=>hp q' (l0p _ hq)) hx hz
   obtain rfl:i=F.length:=by omega
   rw[if_neg Om];refine⟨[],by rw[l0l],fun pre x post z hd=>?_⟩;rw[l0J] at hd;have:=congrArg List.length hd;simp at this
theorem verify_ok {F:List Fld}{B:Bt}{K:List Key}{b:Int}(hF:(valR F).1=0)(hmv:message_Validate (F,B)=some (0,b))(hB:B.length≤12000)(hK:K.length≤60)(hks :∀k∈K,smallL k.1=true){pre post:List Fld}{x:Fld}{z:Bt × Int}(hd:F=pre++x::post)(hp :∀q∈pre,isN sigN q=false)(hx:isN sigN x=true)(hz:sign_verdict (F,B) x.2 K=some z):
 ∃r,sign_Verify (F,B) K=some (z::r,(0,0)):=by
 obtain⟨_,h60,_⟩:=okL_of hF;obtain⟨r,h1,h2⟩:=verify_L1 (K:=K) hF hB Om F.length 0 FU [] Om (FU_gt Om) Om Sm;obtain⟨r',rfl⟩:=h2 pre x post z (by rw[l1e];exact hd) hp hx hz;have h1':sign_Verify_L1 (F,B) K FU [] 0=some ([]++(z::r')):=h1;unfold sign_Verify;dsimp only;rw[hmv,bsome];dsimp only;rw[fail_eq,bsome,decide_eq_true rfl,if_neg Dc,keys_eq K hK hks,bsome];dsimp only;rw[fail_eq,bsome,decide_eq_true rfl,if_neg Dc,h1',bsome,none_eq,bsome];exact⟨r',G⟩
theorem h11 : Top_h11Fixed=some true:=by decide +kernel
theorem signs_law (F:List Fld)(B d:Bt)(k:Int)(names rel:List Bt)(value:Bt)(hb:BigF F)(hB:B.length≤140737488355328)(hd:Big d)(hn :∀n∈names,Big n)(hr :∀y∈rel,Big y)(hv:Big value):
 Top_TopSignaturesPassRelays (F,B) d k names rel value=some true:=by
 unfold Top_TopSignaturesPassRelays;dsimp only;obtain⟨out,a,b,hS,hok⟩:=sign_ok k hb hB hd hn;rw[hS,bsome];dsimp only;by_cases ha:a=0
 · obtain⟨hF,hB2,hsm,hN,h1,h2,x1,x2,rfl,⟨b',hmv⟩,hval,hpre⟩:=hok ha;obtain⟨n1,n2,n3⟩:=named_facts hN;obtain⟨_,h60,_⟩:=okL_of hF;rw[if_pos ha,has_eq names Om,bsome];by_cases hA:names.any (fun x=>decide (x=[114,101,99,101,105,118,101,100]))=true
   · rw[if_pos hA,bsome,if_pos rfl,h11,bsome]
   rw[if_neg hA,has_eq names Om,bsome];by_cases hC:names.any (fun x=>decide (x=[109,97,105,108,45,99,117,115,116,111,100,121]))=true
   · rw[if_pos hC,bsome,if_pos rfl,h11,bsome]
   rw[if_neg hC];by_cases hR:rel.length≤10
   · rw [if_neg Om,values_eq (F,B) _ (by dsimp only;omega) hb (by unfold Big;simp),bsome,bsome];dsimp only;by_cases hV:0<(valsN F [109,97,105,108,45,99,117,115,116,111,100,121]).length
     · rw[decide_eq_true Om,if_pos rfl,h11,bsome]
     rw[decide_eq_false Om,if_neg l00];obtain⟨sum,hs,hsum⟩:=cb_tot B hB2;have hvals:valsN F cusN=[]:=by
      have:valsN F cusN=valsN F [109,97,105,108,45,99,117,115,116,111,100,121]:=by
       unfold valsN isN;have hl:lower cusN=lower [109,97,105,108,45,99,117,115,116,111,100,121]:=by decide
       rw[hl]
      rw[this];exact l05 Om
     have hv0:valsN ((sigN,sgV d names h1 h2)::F) cusN=[]:=by
      rw[valsN_cons,if_neg (by unfold isN;rw [decide_eq_false (by show lower sigN≠lower cusN;decide)];decide),hvals]
     have hinv:Inv sum B rel ((sigN,sgV d names h1 h2)::F) 0 ((sigN,sgV d names h1 h2)::F) [] :=
      ⟨hval,⟨b',hmv⟩,⟨[],rfl,fun x hx=>by cases hx⟩,by rw[hv0];trivial,by rw[hv0];rfl,rfl,(fun k hk=>by cases hk),(fun t y ht=>by omega)⟩
     rcases loop_ok h11 (F0:=(sigN,sgV d names h1 h2)::F) hs hsum hB2 hv hr hR rel.length 0 FU _ [] Om (FU_gt Om) Om hinv with hl|⟨F',K',hl,hI⟩
     · have hl':Top_TopSignaturesPassRelays_L1 rel value FU ((sigN,sgV d names h1 h2)::F) B [] 0=some (.inr true):=hl;rw[hl',bsome]
     have hl':Top_TopSignaturesPassRelays_L1 rel value FU ((sigN,sgV d names h1 h2)::F) B [] 0=some (.inl (F',B,K')):=hl;rw[hl',bsome];dsimp only;rw[check_ok hs hsum hR hI,bsome];dsimp only;obtain⟨pre,hp1,hp2⟩:=hI.pre;obtain⟨b2,hmv2⟩:=hI.mval;have e1:lower cusN=[109,97,105,108,45,99,117,115,116,111,100,121]:=by decide
     have e2:lower recN=[114,101,99,101,105,118,101,100]:=by decide
     have hnot :∀x∈pre++[(sigN,sgV d names h1 h2)],∀n∈names,lower x.1≠lower n:=fun x hx n hn'=>by
      have hnl:=(small_facts (n3 n hn').1).2.2.2;rw[hnl];rcases List.mem_append.1 hx with hx|hx
      · rcases hp2 x hx with h|h
        · rw[h,e1];exact fun he=>hC (List.any_eq_true.2 ⟨n,hn',decide_eq_true he.symm⟩)
        rw[h,e2];exact fun he=>hA (List.any_eq_true.2 ⟨n,hn',decide_eq_true he.symm⟩)
      rw[List.mem_singleton.1 hx];intro he;refine(n3 n hn').2 ?_;rw[hnl];exact he.symm
     have hF':F'=(pre++[(sigN,sgV d names h1 h2)])++F:=by rw[hp1,l0u];rfl
     have hsv:sign_value (F',B) d k names=some (sgV d names h1 h2,true):=by
      rw[hF'];exact hpre _ (by rw[←hF'];exact hI.val) hnot
     obtain⟨r,hver⟩:=verify_ok (K:=[(d,k)]) hI.val hmv2 hB2 Sm (fun q hq=>by rw[List.mem_singleton.1 hq];exact hsm) hp1 (fun q hq=>by
      unfold isN;rcases hp2 q hq with h|h
      · rw[h,decide_eq_false Dc]
      rw[h,decide_eq_false Dc]) (by unfold isN;exact decide_eq_true rfl) (verdict_ok hsm hN x1 x2 hsv)
     rw[hver,bsome];dsimp only;rw[if_pos rfl,if_pos rfl,if_pos rfl,if_pos rfl,if_pos Sm,show idx ((d,(1:Int))::r) 0=some (d,1) from rfl,bsome,if_pos ⟨rfl,rfl⟩,h11,bsome,bsome]
   rw[if_pos Om,bsome,if_pos rfl,h11,bsome]
 rw[if_neg ha,bsome,if_pos rfl,h11,bsome]
end Go.Ph.Sg
end
