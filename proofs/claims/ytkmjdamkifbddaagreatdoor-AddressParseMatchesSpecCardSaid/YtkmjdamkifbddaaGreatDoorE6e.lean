/-
  Pct5, Pct6, Pct7, AaP, AbP, AcP, AdP, RqP, AeP, B64Law, Wa, Wb, Wc, Wd, We: own texts of this repository (wip/tpl, wip/plans), merged and shaken by wip/tools/pack.py.
-/
import Derived.KernelRfl
import Derived.Lib.CountLaws
import Derived.Test.YtkmjdamkifbddaaGreatDoorE6d
set_option maxRecDepth 100000
set_option linter.unusedVariables false
set_option linter.unusedSimpArgs false
section
namespace Go.Proofs.YtkmjdamkifbddaaGreatDoor
open Go Go.RowKit Go.Ph Go.Ph.Pl Go.Ph.Pf
set_option maxHeartbeats 4000000 in
theorem Y4v {p0:Ls} {r:(List (UInt8 × Ls) × Bool)} (h:Y2m p0=some r):Ct Tryz.prog 50 [S p0] (fun M=>True) (fun v M =>∃x0,v=Value.tuple #[x0,Value.bool r.2]∧SlS M 2 xenc83 x0 r.1):=by
 refine Ct.of Tryz.func50 (enters Tryz.func50 Kr G) G G G ?_;intro w0 M0 H hp;unfold Y2m at h;refine SQ (RG (AS G G (AS G G (NL (TN (SQ (RG (AS G G (NL (TN (SQ (SQ (RG (AS G G (NL (TN ?_))))))))))))))));obtain⟨o1,e2,h⟩:=bnd h;refine q0j (fun e w =>∃(l4:List (UInt8 × Ls)) (v5:Value) (M:Mem),e=[(4,v5)]∧St w0 M0 M [RowS 83 2 xenc83 v5 l4] w∧some (.inl l4)=some o1) [] ?_ ?_ (trivial)
 ·
  refine BL ?_;replace H:=H.newRowS 83 2 xenc83;refine q0F (fun m e w =>∃(l7:List (UInt8 × Ls)) (v8:Value) (n9:Int) (M:Mem),e=[(0,S p0),(4,v8),(5,I n9)]∧St w0 M0 M [RowS 83 2 xenc83 v8 l7] w∧Y0c p0 m l7 n9=some o1) FU [(0,_),(4,_),(5,_)] ⟨rfl,rfl,rfl,trivial⟩ ⟨_,_,_,_,rfl,H,e2⟩ ?_;rintro m10 e w ⟨l7,v8,n9,M,rfl,H,e2⟩;rcases m10 with _|m10
  · rw[Y0c] at e2;cases e2
  rw[Y0c] at e2;refine SQ (SQ (RG (MV G G (MV G G (ST (q0i Tu9 G) G (ST (q0q G G) G (NL (TN ?_))))))));refine CB (p:=n9<(p0.length:Int)) G (fun hk12=>?_) fun hk12=>?_
  ·
   rw[if_pos hk12] at e2;refine SK (TN (BL (SQ ?_)));obtain⟨c13,hxc13,e2⟩:=bnd e2;refine RG (MV G G (MV G G (ST (q0x Tu9 G G hxc13) G (AS G G (NL (TN (BL (SQ ?_))))))));obtain⟨b14,hx15,e2⟩:=bnd e2;refine RG (MV G G (q05 H (Y4Z hx15) G trivial (q00 G) G ?_));intro v19 M w H hle hR;obtain rfl:=hR;refine AS G G (NL (TN ?_));refine q0m G (fun hk16=>?_) (fun hk16=>?_)
   ·
    subst hk16;rw[if_pos rfl] at e2;obtain⟨n17,hxn17,e2⟩:=bnd e2;refine RG (MV G G (ST (q0l G G hxn17) G (AS G G (NL (IB (IB ?_))))));exact AG m10 ⟨_,_,_,_,G,H,e2⟩ (l0b _)
   subst hk16;rw[if_neg l06] at e2;refine SQ (RG (MV G G (ST (q0H (c:=c13) (d:=40) G G) G (AS G G (NL (TN ?_))))));refine CB (p:=c13=40) G (fun hk18=>?_) fun hk18=>?_
   ·
    rw[if_pos hk18] at e2;refine SQ (RG (AS G G (NL (TN ?_))));obtain⟨o19,e20,e2⟩:=bnd e2;refine q0j (fun e w =>∃(n21:Int) (M:Mem),e=[(0,S p0),(4,v8),(5,I n21)]∧St w0 M0 M [RowS 83 2 xenc83 v8 l7] w∧some (.inl n21)=some o19) [] ?_ ?_ (trivial)
    ·
     refine BL (q0F (fun m e w =>∃(n22:Int) (n23:Int) (M:Mem),e=[(0,S p0),(4,v8),(5,I n22),(7,I n23)]∧St w0 M0 M [RowS 83 2 xenc83 v8 l7] w∧Y0b p0 m n22 n23=some o19) FU [(0,_),(4,_),(5,_),(7,_)] ⟨rfl,rfl,rfl,rfl,trivial⟩ ⟨_,_,_,rfl,H,e20⟩ ?_);rintro m24 e w ⟨n22,n23,M,rfl,H,e20⟩;rcases m24 with _|m24
     · rw[Y0b] at e20;cases e20
     rw[Y0b] at e20;refine BL (SQ (SQ (RG (MV G G (MV G G (ST (q0i Tu9 G) G (ST (q0X G G) G (NL (TN ?_)))))))));refine CB (p:=(p0.length:Int)≤n22) G (fun hk25=>?_) fun hk25=>?_
     ·
      rw[if_pos hk25] at e20;refine SQ (RG (AS G G (AS G G (NL (TN (RT ?_))))));obtain rfl:=oI e20;try dsimp only at e2
      obtain rfl:=oI e2;try dsimp only at h
      obtain rfl:=oI h;exact q0w G G G H.ext (⟨_,G,(SlS.nil _ _ (fun _=>G))⟩)
     rw[if_neg hk25] at e20;refine SK (TN (SQ (SQ ?_)));obtain⟨c26,hxc26,e20⟩:=bnd e20;refine RG (MV G G (MV G G (ST (q0x Tu9 G G hxc26) G (ST (q0H (c:=c26) (d:=40) G G) G (NL (TN ?_))))));obtain⟨o27,e28,e20⟩:=bnd e20;refine q0j (fun e w =>∃(n29:Int) (M:Mem),e=[(0,S p0),(4,v8),(5,I n22),(7,I n29)]∧St w0 M0 M [RowS 83 2 xenc83 v8 l7] w∧some n29=some o27) [] ?_ ?_ (trivial)
     ·
      refine CB (p:=c26=40) G (fun hk30=>?_) fun hk30=>?_
      ·
       rw[if_pos hk30] at e28;obtain⟨n31,hxn31,e28⟩:=bnd e28;refine RG (MV G G (ST (q0l G G hxn31) G (AS G G (NL ?_))));exact MN ⟨_,_,G,H,e28⟩
      rw[if_neg hk30] at e28;refine SK ?_;exact MN ⟨_,_,G,H,e28⟩
     rintro e w ⟨n29,M,rfl,H,q32⟩;obtain rfl:=oI q32;refine TN (SQ (SQ ?_));obtain⟨c33,hxc33,e20⟩:=bnd e20;refine RG (MV G G (MV G G (ST (q0x Tu9 G G hxc33) G (ST (q0H (c:=c33) (d:=41) G G) G (NL (TN ?_))))));obtain⟨o34,e35,e20⟩:=bnd e20;refine q0j (fun e w =>∃(n36:Int) (M:Mem),e=[(0,S p0),(4,v8),(5,I n22),(7,I n36)]∧St w0 M0 M [RowS 83 2 xenc83 v8 l7] w∧some n36=some o34) [] ?_ ?_ (trivial)
     ·
      refine CB (p:=c33=41) G (fun hk37=>?_) fun hk37=>?_
      ·
       rw[if_pos hk37] at e35;obtain⟨n38,hxn38,e35⟩:=bnd e35;refine RG (MV G G (ST (q1I G G hxn38) G (AS G G (NL ?_))));exact MN ⟨_,_,G,H,e35⟩
      rw[if_neg hk37] at e35;refine SK ?_;exact MN ⟨_,_,G,H,e35⟩
     rintro e w ⟨n36,M,rfl,H,q39⟩;obtain rfl:=oI q39;refine TN (SQ (SQ ?_));obtain⟨c40,hxc40,e20⟩:=bnd e20;refine RG (MV G G (MV G G (ST (q0x Tu9 G G hxc40) G (ST (q0H (c:=c40) (d:=92) G G) G (NL (TN ?_))))));obtain⟨o41,e42,e20⟩:=bnd e20;refine q0j (fun e w =>∃(n43:Int) (M:Mem),e=[(0,S p0),(4,v8),(5,I n43),(7,I n36)]∧St w0 M0 M [RowS 83 2 xenc83 v8 l7] w∧some n43=some o41) [] ?_ ?_ (trivial)
     ·
      refine CB (p:=c40=92) G (fun hk44=>?_) fun hk44=>?_
      ·
       rw[if_pos hk44] at e42;obtain⟨n45,hxn45,e42⟩:=bnd e42;refine RG (MV G G (ST (q0l G G hxn45) G (AS G G (NL ?_))));exact MN ⟨_,_,G,H,e42⟩
      rw[if_neg hk44] at e42;refine SK ?_;exact MN ⟨_,_,G,H,e42⟩
     rintro e w ⟨n43,M,rfl,H,q46⟩;obtain rfl:=oI q46;refine TN (SQ ?_);obtain⟨n47,hxn47,e20⟩:=bnd e20;refine RG (MV G G (ST (q0l G G hxn47) G (AS G G (NL (TN (SQ (RG (MV G G (ST (q0e G G) G (NL (TN ?_)))))))))));refine CB (p:=n36=(0:Int)) G (fun hk48=>?_) fun hk48=>?_
     ·
      rw[if_pos hk48] at e20;refine q0r (WQ.exitOut G (q06 (q0f ?_)));exact MN ⟨_,_,G,H,e20⟩
     rw[if_neg hk48] at e20;refine SK (IB ?_);exact AG m24 ⟨_,_,_,G,H,e20⟩ (l0b _)
    rintro e w ⟨n21,M,rfl,H,q49⟩;obtain rfl:=oI q49;try dsimp only at e2
    refine IB (IB ?_);exact AG m10 ⟨_,_,_,_,G,H,e2⟩ (l0b _)
   rw[if_neg hk18] at e2;refine SQ (RG (MV G G (ST (q0H (c:=c13) (d:=34) G G) G (AS G G (NL (TN ?_))))));refine CB (p:=c13=34) G (fun hk52=>?_) fun hk52=>?_
   ·
    rw[if_pos hk52] at e2;refine SQ (RG (AS G G (NL (TN (SQ ?_)))));obtain⟨n53,hxn53,e2⟩:=bnd e2;refine RG (MV G G (ST (q0l G G hxn53) G (AS G G (NL (TN (SQ ?_))))));obtain⟨o54,e55,e2⟩:=bnd e2;refine q0j (fun e w =>∃(n56:Int) (s57:Ls) (M:Mem),e=[(0,S p0),(4,v8),(5,I n56),(8,S s57)]∧St w0 M0 M [RowS 83 2 xenc83 v8 l7] w∧some (n56,s57)=some o54) [] ?_ ?_ (trivial)
    ·
     refine BL (q0F (fun m e w =>∃(n58:Int) (s59:Ls) (M:Mem),e=[(0,S p0),(4,v8),(5,I n58),(8,S s59)]∧St w0 M0 M [RowS 83 2 xenc83 v8 l7] w∧Y0F p0 m n58 s59=some o54) FU [(0,_),(4,_),(5,_),(8,_)] ⟨rfl,rfl,rfl,rfl,trivial⟩ ⟨_,_,_,rfl,H,e55⟩ ?_);rintro m60 e w ⟨n58,s59,M,rfl,H,e55⟩;rcases m60 with _|m60
     · rw[Y0F] at e55;cases e55
     rw[Y0F] at e55;refine SQ (SQ ?_);obtain⟨o61,e62,e55⟩:=bnd e55;refine q0j (fun e w =>∃(b63:Bool) (M:Mem),e=[(0,S p0),(4,v8),(5,I n58),(8,S s59),(65,Value.bool b63)]∧St w0 M0 M [RowS 83 2 xenc83 v8 l7] w∧some b63=some o61) [] ?_ ?_ (trivial)
     ·
      refine RG (MV G G (MV G G (ST (q0i Tu9 G) G ?_)));by_cases hk64:n58<(p0.length:Int)
      ·
       rw[if_pos hk64] at e62;obtain⟨c65,hxc65,e62⟩:=bnd e62;refine DT hk64 (q0q G G) G (MV G G (SG (q01 G) G G G (SG (q01 G) G G G (SG (q0x Tu9 G G hxc65) G G G (SG (q1E (c:=c65) (d:=34) G G) G G G (PT G G G (NL ?_)))))));exact MN ⟨_,_,G,H,e62⟩
      rw[if_neg hk64] at e62;refine DF hk64 (q0q G G) G (MV G G (q0d 4 G G (PF G G G (NL ?_))));exact MN ⟨_,_,G,H,e62⟩
     rintro e w ⟨b63,M,rfl,H,q66⟩;obtain rfl:=oI q66;refine TN ?_;refine q0m G (fun hk67=>?_) (fun hk67=>?_)
     ·
      subst hk67;rw[if_pos rfl] at e55;refine SK (TN (BL (SQ (SQ ?_))));obtain⟨o68,e69,e55⟩:=bnd e55;refine q0j (fun e w =>∃(b70:Bool) (M:Mem),e=[(0,S p0),(4,v8),(5,I n58),(8,S s59),(76,Value.bool b70)]∧St w0 M0 M [RowS 83 2 xenc83 v8 l7] w∧some b70=some o68) [] ?_ ?_ (trivial)
      ·
       obtain⟨c71,hxc71,e69⟩:=bnd e69;refine RG (MV G G (MV G G (ST (q0x Tu9 G G hxc71) G ?_)));by_cases hk72:c71=92
       ·
        rw[if_pos hk72] at e69;obtain⟨n73,hxn73,e69⟩:=bnd e69;refine DT hk72 (q0H (c:=c71) (d:=92) G G) G (MV G G (SG (q01 G) G G G (SG (q0l G G hxn73) G G G (SG (q01 G) G G G (SG (q0i Tu9 G) G G G (SG (q0q G G) G G G (PT G G G (NL ?_))))))));exact MN ⟨_,_,G,H,e69⟩
       rw[if_neg hk72] at e69;refine DF hk72 (q0H (c:=c71) (d:=92) G G) G (MV G G (q0d 5 G G (PF G G G (NL ?_))));exact MN ⟨_,_,G,H,e69⟩
      rintro e w ⟨b70,M,rfl,H,q74⟩;obtain rfl:=oI q74;refine TN ?_;obtain⟨o75,e76,e55⟩:=bnd e55;refine q0j (fun e w =>∃(n77:Int) (M:Mem),e=[(0,S p0),(4,v8),(5,I n77),(8,S s59)]∧St w0 M0 M [RowS 83 2 xenc83 v8 l7] w∧some n77=some o75) [] ?_ ?_ (trivial)
      ·
       refine q0m G (fun hk78=>?_) (fun hk78=>?_)
       ·
        subst hk78;rw[if_pos rfl] at e76;obtain⟨n79,hxn79,e76⟩:=bnd e76;refine RG (MV G G (ST (q0l G G hxn79) G (AS G G (NL ?_))));exact MN ⟨_,_,G,H,e76⟩
       subst hk78;rw[if_neg l06] at e76;refine SK ?_;exact MN ⟨_,_,G,H,e76⟩
      rintro e w ⟨n77,M,rfl,H,q80⟩;obtain rfl:=oI q80;refine TN (SQ ?_);obtain⟨n81,hxn81,e55⟩:=bnd e55;obtain⟨s82,hxs82,e55⟩:=bnd e55;obtain⟨s83,hxs83,e55⟩:=bnd e55;refine RG (MV G G (MV G G (MV G G (MV G G (ST (q0l G G hxn81) G (ST (q1W Tu9 G G G hxs82) G (ST (q0S G G hxs83) G (AS G G (NL (TN ?_))))))))));obtain⟨n84,hxn84,e55⟩:=bnd e55;refine RG (MV G G (ST (q0l G G hxn84) G (AS G G (NL (IB ?_)))));exact AG m60 ⟨_,_,_,G,H,e55⟩ (l0b _)
     subst hk67;rw[if_neg l06] at e55;refine q0r (q06 (q06 (q0f ?_)));exact MN ⟨_,_,_,G,H,e55⟩
    rintro e w ⟨n56,s57,M,rfl,H,q85⟩;obtain rfl:=oI q85;try dsimp only at e2
    refine TN (SQ (SQ (RG (MV G G (MV G G (ST (q0i Tu9 G) G (ST (q0X G G) G (NL (TN ?_)))))))));refine CB (p:=(p0.length:Int)≤n56) G (fun hk86=>?_) fun hk86=>?_
    ·
     rw[if_pos hk86] at e2;refine SQ (RG (AS G G (AS G G (NL (TN (RT ?_))))));obtain rfl:=oI e2;try dsimp only at h
     obtain rfl:=oI h;exact q0w G G G H.ext (⟨_,G,(SlS.nil _ _ (fun _=>G))⟩)
    rw[if_neg hk86] at e2;refine SK (TN (SQ ?_));obtain⟨n87,hxn87,e2⟩:=bnd e2;refine RG (MV G G (ST (q0l G G hxn87) G (AS G G (NL (TN ?_)))));obtain⟨l88,hxl88,e2⟩:=bnd e2;refine RG (MV G G (MV G G (ST (q0B [encB 113,S s57] Tu83 Tz83 (xplaces83 Tu83) G G) G (q1q (enc:=xenc83) xty77 ([(113,s57)]:List (UInt8 × Ls)) H (fun _=>G) G Kr G G G (q00 G) G ?_))));intro v97 M w H hle hs97;refine q1P (l:=l7) xty77 G xone83 H G (fun _=>by repeat first|exact .head|apply Upd.tail) G (hs97) hxl88 (q00 G) G ?_;intro v98 w H;refine AS G G (NL (IB (IB ?_)));exact AG m10 ⟨_,_,_,_,G,H,e2⟩ (l0b _)
   rw[if_neg hk52] at e2;refine SQ ?_;obtain⟨o89,e90,e2⟩:=bnd e2;refine q0j (fun e w =>∃(b91:Bool) (M:Mem),e=[(0,S p0),(4,v8),(5,I n9),(6,encB c13),(99,Value.bool b91)]∧St w0 M0 M [RowS 83 2 xenc83 v8 l7] w∧some b91=some o89) [] ?_ ?_ (trivial)
   ·
    obtain⟨b92,hx93,e90⟩:=bnd e90;refine RG (MV G G (q05 H (Y3m hx93) G trivial (q00 G) G ?_));intro v101 M w H hle hR;obtain rfl:=hR;refine MV G G ?_;rcases b92 with _|_
    ·
     rw[if_neg l06] at e90;refine SG (q01 G) G G G (SG (q0H (c:=c13) (d:=46) G G) G G G (PF G G G (AS G G (NL ?_))));exact MN ⟨_,_,G,H,e90⟩
    rw[if_pos rfl] at e90;refine GT G G G (GT G G G (PT G G G (AS G G (NL ?_))));exact MN ⟨_,_,G,H,e90⟩
   rintro e w ⟨b91,M,rfl,H,q94⟩;obtain rfl:=oI q94;refine TN ?_;refine q0m G (fun hk95=>?_) (fun hk95=>?_)
   ·
    subst hk95;rw[if_pos rfl] at e2;refine SQ (RG (AS G G (NL (TN (SQ ?_)))));obtain⟨o96,e97,e2⟩:=bnd e2;refine q0j (fun e w =>∃(n98:Int) (s99:Ls) (M:Mem),e=[(0,S p0),(4,v8),(5,I n98),(9,S s99)]∧St w0 M0 M [RowS 83 2 xenc83 v8 l7] w∧some (n98,s99)=some o96) [] ?_ ?_ (trivial)
    ·
     refine BL (q0F (fun m e w =>∃(n100:Int) (s101:Ls) (M:Mem),e=[(0,S p0),(4,v8),(5,I n100),(9,S s101)]∧St w0 M0 M [RowS 83 2 xenc83 v8 l7] w∧Y0G p0 m n100 s101=some o96) FU [(0,_),(4,_),(5,_),(9,_)] ⟨rfl,rfl,rfl,rfl,trivial⟩ ⟨_,_,_,rfl,H,e97⟩ ?_);rintro m102 e w ⟨n100,s101,M,rfl,H,e97⟩;rcases m102 with _|m102
     · rw[Y0G] at e97;cases e97
     rw[Y0G] at e97;refine SQ (SQ ?_);obtain⟨o103,e104,e97⟩:=bnd e97;refine q0j (fun e w =>∃(b105:Bool) (M:Mem),e=[(0,S p0),(4,v8),(5,I n100),(9,S s101),(121,Value.bool b105)]∧St w0 M0 M [RowS 83 2 xenc83 v8 l7] w∧some b105=some o103) [] ?_ ?_ (trivial)
     ·
      refine RG (MV G G (MV G G (ST (q0i Tu9 G) G ?_)));by_cases hk106:n100<(p0.length:Int)
      ·
       rw[if_pos hk106] at e104;obtain⟨c107,hxc107,e104⟩:=bnd e104;obtain⟨b108,hx109,e104⟩:=bnd e104;rcases b108 with _|_
       ·
        rw[if_neg l06] at e104;obtain⟨c110,hxc110,e104⟩:=bnd e104;refine DT hk106 (q0q G G) G (MV G G (SG (q01 G) G G G (SG (q01 G) G G G (SG (q0x Tu9 G G hxc107) G G G (q05 H (Y3m hx109) G trivial (q04 G G G) G ?_)))));intro v114 M w H hle hR;obtain rfl:=hR;refine SG (q01 G) G G G (SG (q01 G) G G G (SG (q01 G) G G G (SG (q0x Tu9 G G hxc110) G G G (SG (q0H (c:=c110) (d:=46) G G) G G G (SG (q0o G G) G G G (PT G G G (NL ?_)))))));exact MN ⟨_,_,G,H,e104⟩
       rw[if_pos rfl] at e104;refine DT hk106 (q0q G G) G (MV G G (SG (q01 G) G G G (SG (q01 G) G G G (SG (q0x Tu9 G G hxc107) G G G (q05 H (Y3m hx109) G trivial (q04 G G G) G ?_)))));intro v114 M w H hle hR;obtain rfl:=hR;refine SG (q01 G) G G G (q0d 4 G G (SG (q0p G G) G G G (PT G G G (NL ?_))));exact MN ⟨_,_,G,H,e104⟩
      rw[if_neg hk106] at e104;refine DF hk106 (q0q G G) G (MV G G (q0d 10 G G (PF G G G (NL ?_))));exact MN ⟨_,_,G,H,e104⟩
     rintro e w ⟨b105,M,rfl,H,q111⟩;obtain rfl:=oI q111;refine TN ?_;refine q0m G (fun hk112=>?_) (fun hk112=>?_)
     ·
      subst hk112;rw[if_pos rfl] at e97;refine SK (TN (BL (SQ ?_)));obtain⟨n113,hxn113,e97⟩:=bnd e97;obtain⟨s114,hxs114,e97⟩:=bnd e97;obtain⟨s115,hxs115,e97⟩:=bnd e97;refine RG (MV G G (MV G G (MV G G (MV G G (ST (q0l G G hxn113) G (ST (q1W Tu9 G G G hxs114) G (ST (q0S G G hxs115) G (AS G G (NL (TN ?_))))))))));obtain⟨n116,hxn116,e97⟩:=bnd e97;refine RG (MV G G (ST (q0l G G hxn116) G (AS G G (NL (IB ?_)))));exact AG m102 ⟨_,_,_,G,H,e97⟩ (l0b _)
     subst hk112;rw[if_neg l06] at e97;refine q0r (q06 (q06 (q0f ?_)));exact MN ⟨_,_,_,G,H,e97⟩
    rintro e w ⟨n98,s99,M,rfl,H,q117⟩;obtain rfl:=oI q117;try dsimp only at e2
    refine TN ?_;obtain⟨l118,hxl118,e2⟩:=bnd e2;refine RG (MV G G (MV G G (ST (q0B [encB 119,S s99] Tu83 Tz83 (xplaces83 Tu83) G G) G (q1q (enc:=xenc83) xty77 ([(119,s99)]:List (UInt8 × Ls)) H (fun _=>G) G Kr G G G (q00 G) G ?_))));intro v134 M w H hle hs134;refine q1P (l:=l7) xty77 G xone83 H G (fun _=>by repeat first|exact .head|apply Upd.tail) G (hs134) hxl118 (q00 G) G ?_;intro v135 w H;refine AS G G (NL (IB (IB ?_)));exact AG m10 ⟨_,_,_,_,G,H,e2⟩ (l0b _)
   subst hk95;rw[if_neg l06] at e2;refine SQ ?_;obtain⟨b119,hx120,e2⟩:=bnd e2;refine RG (MV G G (q05 H (Y50 hx120) G trivial (q00 G) G ?_));intro v138 M w H hle hR;obtain rfl:=hR;refine AS G G (NL (TN ?_));refine q0m G (fun hk121=>?_) (fun hk121=>?_)
   ·
    subst hk121;rw[if_pos rfl] at e2;refine SQ ?_;obtain⟨l122,hxl122,e2⟩:=bnd e2;refine RG (MV G G (MV G G (ST (q0B [encB c13,S []] Tu83 Tz83 (xplaces83 Tu83) G G) G (q1q (enc:=xenc83) xty77 ([(c13,[])]:List (UInt8 × Ls)) H (fun _=>G) G Kr G G G (q00 G) G ?_))));intro v142 M w H hle hs142;refine q1P (l:=l7) xty77 G xone83 H G (fun _=>by repeat first|exact .head|apply Upd.tail) G (hs142) hxl122 (q00 G) G ?_;intro v143 w H;refine AS G G (NL (TN ?_));obtain⟨n123,hxn123,e2⟩:=bnd e2;refine RG (MV G G (ST (q0l G G hxn123) G (AS G G (NL (IB (IB ?_))))));exact AG m10 ⟨_,_,_,_,G,H,e2⟩ (l0b _)
   subst hk121;rw[if_neg l06] at e2;refine SQ (RG (AS G G (AS G G (NL (TN (RT ?_))))));obtain rfl:=oI e2;try dsimp only at h
   obtain rfl:=oI h;exact q0w G G G H.ext (⟨_,G,(SlS.nil _ _ (fun _=>G))⟩)
  rw[if_neg hk12] at e2;refine q0r (q06 (q06 (q0f ?_)));exact MN ⟨_,_,_,G,H,e2⟩
 rintro e w ⟨l4,v5,M,rfl,H,q124⟩;obtain rfl:=oI q124;try dsimp only at h
 refine TN (SQ (RG (MV G G (AS G G (AS G G (NL (TN (RT ?_))))))));obtain⟨M,hle,hs125,H⟩:=H.freezeRowS (v:=v5) (enc:=xenc83) (t:=83) Kv (fun _=>rfl);obtain rfl:=oI h;exact q0w G G G H.ext (⟨_,G,hs125⟩)
theorem Y5h {p0:List (UInt8 × Ls)}{p1:Bool}{vp0:Value}{r:List (List (UInt8 × Ls))}(h:R_cut p0 p1=some r):Ct Tryz.prog 51 [vp0,Value.bool p1] (fun M=>SlS M 2 xenc83 vp0 p0) (fun v M=>SlR xrl77 M v r):=by
 refine Ct.of Tryz.func51 (enters Tryz.func51 Kr G) G G G ?_;intro w0 M0 H hp;have hp0:=hp;unfold R_cut at h;refine SQ (RG (AS G G (NL (TN (SQ (RG (AS G G (NL (TN (SQ (RG (AS G G (NL (TN (SQ (RG (AS G G (NL (TN (SQ (SQ (RG (AS G G (NL (TN ?_)))))))))))))))))))))))));obtain⟨o1,e2,h⟩:=bnd h;refine q0j (fun e w =>∃(l4:List (List (UInt8 × Ls))) (v5:Value) (g6:List Hd) (l9:List (UInt8 × Ls)) (v10:Value) (M:Mem),e=[(5,v5),(6,v10)]∧St w0 M0 M [RowS 77 xrl77.k xrl77.enc v5 g6,RowS 83 2 xenc83 v10 l9] w∧RelL xrl77 M g6 l4∧some (l4,l9)=some o1) [] ?_ ?_ (trivial)
 ·
  refine BL ?_;replace H:=H.newRowS 77 xrl77.k xrl77.enc;first|have hr23:RelL xrl77 M [] []:=q1Z|have hr23:RelL xrl77 M0 [] []:=q1Z
  replace H:=H.newRowS 83 2 xenc83;refine q0F (fun m e w =>∃(l12:List (List (UInt8 × Ls))) (v13:Value) (g14:List Hd) (l17:List (UInt8 × Ls)) (v18:Value) (b19:Bool) (n20:Int) (M:Mem),e=[(0,vp0),(1,Value.bool p1),(5,v13),(6,v18),(7,Value.bool b19),(8,I n20)]∧St w0 M0 M [RowS 77 xrl77.k xrl77.enc v13 g14,RowS 83 2 xenc83 v18 l17] w∧SlS M 2 xenc83 vp0 p0∧RelL xrl77 M g14 l12∧Y2P p0 p1 m l12 l17 b19 n20=some o1) FU [(0,_),(1,_),(5,_),(6,_),(7,_),(8,_)] ⟨rfl,rfl,rfl,rfl,rfl,rfl,trivial⟩ ⟨_,_,_,_,_,_,_,_,rfl,(H.pick (L':=[RowS 77 xrl77.k xrl77.enc (Value.slice none 0 0) ([]:List Hd),RowS 83 2 xenc83 (Value.slice none 0 0) []]) Kp),hp0,hr23,e2⟩ ?_;rintro m21 e w ⟨l12,v13,g14,l17,v18,b19,n20,M,rfl,H,hp0,hs15,e2⟩;rcases m21 with _|m21
  · rw[Y2P] at e2;cases e2
  rw[Y2P] at e2;refine SQ (SQ (RG (MV G G (MV G G (ST (q0U Tu77 hp0 G) G (ST (q0q G G) G (NL (TN ?_))))))));refine CB (p:=n20<(p0.length:Int)) G (fun hk25=>?_) fun hk25=>?_
  ·
   rw[if_pos hk25] at e2;refine SK (TN (SQ (BL (SQ (SQ ?_)))));obtain⟨o26,e27,e2⟩:=bnd e2;refine q0j (fun e w =>∃(b28:Bool) (M:Mem),e=[(0,vp0),(1,Value.bool p1),(5,v13),(6,v18),(7,Value.bool b19),(8,I n20),(24,Value.bool b28)]∧St w0 M0 M [RowS 77 xrl77.k xrl77.enc v13 g14,RowS 83 2 xenc83 v18 l17] w∧SlS M 2 xenc83 vp0 p0∧RelL xrl77 M g14 l12∧some b28=some o26) [] ?_ ?_ (trivial)
   ·
    obtain⟨a29,hxa29,e27⟩:=bnd e27;obtain⟨bk17,o17,ha17,hc17⟩:=hp0.atC hxa29;refine RG (MV G G (MV G G (ST (q0t ha17 Tu77 Ts83 G G) G (ST (q02 Tu83 G Ts5 Dc G) G (ST (q07 H G (hc17.at (j:=0) G) Ta5) G ?_)))));by_cases hk30:a29.1=58
    ·
     rw[if_pos hk30] at e27;refine DT hk30 (q0H (c:=a29.1) (d:=58) G G) G (MV G G (SG (q01 G) G G G (SG (q0P G) G G G (PT G G G (NL ?_)))));exact MN ⟨_,_,G,H,hp0,hs15,e27⟩
    rw[if_neg hk30] at e27;refine DF hk30 (q0H (c:=a29.1) (d:=58) G G) G (MV G G (GF G G G (GF G G G (PF G G G (NL ?_)))));exact MN ⟨_,_,G,H,hp0,hs15,e27⟩
   rintro e w ⟨b28,M,rfl,H,hp0,hs15,q31⟩;obtain rfl:=oI q31;refine TN ?_;obtain⟨o32,e33,e2⟩:=bnd e2;refine q0j (fun e w =>∃(b34:Bool) (M:Mem),e=[(0,vp0),(1,Value.bool p1),(5,v13),(6,v18),(7,Value.bool b34),(8,I n20)]∧St w0 M0 M [RowS 77 xrl77.k xrl77.enc v13 g14,RowS 83 2 xenc83 v18 l17] w∧SlS M 2 xenc83 vp0 p0∧RelL xrl77 M g14 l12∧some b34=some o32) [] ?_ ?_ (trivial)
   ·
    refine q0m G (fun hk35=>?_) (fun hk35=>?_)
    ·
     subst hk35;rw[if_pos rfl] at e33;refine RG (AS G G (NL ?_));exact MN ⟨_,_,G,H,hp0,hs15,e33⟩
    subst hk35;rw[if_neg l06] at e33;refine SK ?_;exact MN ⟨_,_,G,H,hp0,hs15,e33⟩
   rintro e w ⟨b34,M,rfl,H,hp0,hs15,q36⟩;obtain rfl:=oI q36;refine TN (SQ (SQ ?_));obtain⟨a37,hxa37,e2⟩:=bnd e2;obtain⟨bk27,o27,ha27,hc27⟩:=hp0.atC hxa37;refine RG (MV G G (MV G G (ST (q0t ha27 Tu77 Ts83 G G) G (ST (q02 Tu83 G Ts5 Dc G) G (ST (q07 H G (hc27.at (j:=0) G) Ta5) G (ST (q0H (c:=a37.1) (d:=59) G G) G (NL (TN ?_))))))));obtain⟨o38,e39,e2⟩:=bnd e2;refine q0j (fun e w =>∃(b40:Bool) (M:Mem),e=[(0,vp0),(1,Value.bool p1),(5,v13),(6,v18),(7,Value.bool b40),(8,I n20)]∧St w0 M0 M [RowS 77 xrl77.k xrl77.enc v13 g14,RowS 83 2 xenc83 v18 l17] w∧SlS M 2 xenc83 vp0 p0∧RelL xrl77 M g14 l12∧some b40=some o38) [] ?_ ?_ (trivial)
   ·
    refine CB (p:=a37.1=59) G (fun hk41=>?_) fun hk41=>?_
    ·
     rw[if_pos hk41] at e39;refine RG (AS G G (NL ?_));exact MN ⟨_,_,G,H,hp0,hs15,e39⟩
    rw[if_neg hk41] at e39;refine SK ?_;exact MN ⟨_,_,G,H,hp0,hs15,e39⟩
   rintro e w ⟨b40,M,rfl,H,hp0,hs15,q42⟩;obtain rfl:=oI q42;refine TN (SQ (SQ ?_));obtain⟨o43,e44,e2⟩:=bnd e2;refine q0j (fun e w =>∃(b45:Bool) (M:Mem),e=[(0,vp0),(1,Value.bool p1),(5,v13),(6,v18),(7,Value.bool b40),(8,I n20),(40,Value.bool b45)]∧St w0 M0 M [RowS 77 xrl77.k xrl77.enc v13 g14,RowS 83 2 xenc83 v18 l17] w∧SlS M 2 xenc83 vp0 p0∧RelL xrl77 M g14 l12∧some b45=some o43) [] ?_ ?_ (trivial)
   ·
    obtain⟨a46,hxa46,e44⟩:=bnd e44;obtain⟨bk33,o33,ha33,hc33⟩:=hp0.atC hxa46;refine RG (MV G G (MV G G (ST (q0t ha33 Tu77 Ts83 G G) G (ST (q02 Tu83 G Ts5 Dc G) G (ST (q07 H G (hc33.at (j:=0) G) Ta5) G ?_)))));by_cases hk47:a46.1=44
    ·
     rw[if_pos hk47] at e44;refine DT hk47 (q0H (c:=a46.1) (d:=44) G G) G (MV G G (SG (q01 G) G G G (SG (q0P G) G G G (PT G G G (NL ?_)))));exact MN ⟨_,_,G,H,hp0,hs15,e44⟩
    rw[if_neg hk47] at e44;refine DF hk47 (q0H (c:=a46.1) (d:=44) G G) G (MV G G (GF G G G (GF G G G (PF G G G (NL ?_)))));exact MN ⟨_,_,G,H,hp0,hs15,e44⟩
   rintro e w ⟨b45,M,rfl,H,hp0,hs15,q48⟩;obtain rfl:=oI q48;refine TN ?_;refine q0m G (fun hk49=>?_) (fun hk49=>?_)
   ·
    subst hk49;rw[if_pos rfl] at e2;refine SQ ?_;obtain⟨l52,hxl52,e2⟩:=bnd e2;refine RG (MV G G (MV G G ?_));obtain⟨M,hle,hs50,H⟩:=H.freezeRowS (v:=v18) (enc:=xenc83) (t:=83) Kv (fun _=>rfl);replace hs15:=hs15.mono hle;replace hp0:=hp0.mono hle;have Hn:=H;obtain⟨q51,rfl⟩:=hs50.hd;have H:=Hn;refine q1q (enc:=xrl77.enc) xty80 ([q51]:List Hd) H (fun _=>G) G Kr G G G (q00 G) G ?_;intro v43 M w H hle hs43;replace hs15:=hs15.mono hle;replace hp0:=hp0.mono hle;replace hs50:=hs50.mono hle;replace hs43:=q2c (R:=xrl77) (l:=([l17]:List (List (UInt8 × Ls)))) hs43 ⟨hs50,trivial⟩;refine q2l (R:=xrl77) (l:=l12) xty80 G H hs15 G (fun _=>by repeat first|exact .head|apply Upd.tail) G (hs43) hxl52 (q00 G) G ?_;intro v44 g44 w hr44 H;refine AS G G (NL (TN (SQ (RG (AS G G (NL (TN (q0r (q06 (q0f (TN ?_)))))))))));obtain⟨n53,hxn53,e2⟩:=bnd e2;refine RG (MV G G (ST (q0l G G hxn53) G (AS G G (NL ?_))));replace H:=H.newRowS 83 2 xenc83;exact AG m21 ⟨_,_,_,_,_,_,_,_,G,(H.pick (L':=[RowS 77 xrl77.k xrl77.enc v44 g44,RowS 83 2 xenc83 (Value.slice none 0 0) []]) Kp),hp0,hr44,e2⟩ (l0b _)
   subst hk49;rw[if_neg l06] at e2;refine SK (TN ?_);obtain⟨a55,hxa55,e2⟩:=bnd e2;obtain⟨bk48,o48,ha48,hc48⟩:=hp0.atC hxa55;obtain⟨l56,hxl56,e2⟩:=bnd e2;refine RG (MV G G (MV G G (MV G G (ST (q0t ha48 Tu77 Ts83 G G) G (ST (q1j H G hc48 Tryz.isAgg83 Ts83 Kf) G ?_)))));refine q1q (enc:=xenc83) xty77 ([(a55.1,a55.2)]:List (UInt8 × Ls)) H (fun _=>G) G Kr G G G (q00 G) G ?_;intro v50 M w H hle hs50;replace hs15:=hs15.mono hle;replace hp0:=hp0.mono hle;replace hc48:=hc48.mono hle;refine q1P (l:=l17) xty77 G xone83 H G (fun _=>by repeat first|exact .head|apply Upd.tail) G (hs50) hxl56 (q00 G) G ?_;intro v51 w H;refine AS G G (NL (IB (TN ?_)));obtain⟨n57,hxn57,e2⟩:=bnd e2;refine RG (MV G G (ST (q0l G G hxn57) G (AS G G (NL ?_))));exact AG m21 ⟨_,_,_,_,_,_,_,_,G,H,hp0,hs15,e2⟩ (l0b _)
  rw[if_neg hk25] at e2;refine q0r (q06 (q06 (q0f ?_)));exact MN ⟨_,_,_,_,_,_,G,H,hs15,e2⟩
 rintro e w ⟨l4,v5,g6,l9,v10,M,rfl,H,hs7,q58⟩;obtain rfl:=oI q58;try dsimp only at h
 refine TN (SQ ?_);obtain⟨l61,hxl61,h⟩:=bnd h;refine RG (MV G G (MV G G ?_));obtain⟨M,hle,hs59,H⟩:=H.freezeRowS (v:=v10) (enc:=xenc83) (t:=83) Kv (fun _=>rfl);replace hs7:=hs7.mono hle;have Hn:=H;obtain⟨q60,rfl⟩:=hs59.hd;have H:=Hn;refine q1q (enc:=xrl77.enc) xty80 ([q60]:List Hd) H (fun _=>G) G Kr G G G (q00 G) G ?_;intro v54 M w H hle hs54;replace hs7:=hs7.mono hle;replace hs59:=hs59.mono hle;replace hs54:=q2c (R:=xrl77) (l:=([l9]:List (List (UInt8 × Ls)))) hs54 ⟨hs59,trivial⟩;refine q2l (R:=xrl77) (l:=l4) xty80 G H hs7 G (fun _=>by repeat first|exact .head|apply Upd.tail) G (hs54) hxl61 (q00 G) G ?_;intro v55 g55 w hr55 H;refine AS G G (NL (TN (RT ?_)));obtain⟨M,hle,hs62,H⟩:=H.freezeRowS (v:=v55) (enc:=xrl77.enc) (t:=77) Kv (fun _=>rfl);replace hr55:=hr55.mono hle;replace hs59:=hs59.mono hle;replace hs54:=hs54.mono hle;replace hs62:=q2c (R:=xrl77) hs62 hr55;obtain rfl:=oI h;exact q08 G G H.ext hs62
theorem Y51 {p0:List (UInt8 × Ls)}{vp0:Value}{r:Bool}(h:R_words p0=some r):Ct Tryz.prog 54 [vp0] (fun M=>SlS M 2 xenc83 vp0 p0) (fun v M=>v=Value.bool r):=by
 refine Ct.of Tryz.func54 (enters Tryz.func54 Kr G) G G G ?_;intro w0 M0 H hp;have hp0:=hp;unfold R_words at h;refine SQ (RG (AS G G (NL (TN (SQ (SQ (RG (AS G G (NL (TN ?_))))))))));obtain⟨o1,e2,h⟩:=bnd h;refine q0j (fun e w =>∃  (M:Mem),e=[]∧St w0 M0 M [] w∧some (.inl ())=some o1) [] ?_ ?_ (trivial)
 ·
  refine BL (q0F (fun m e w =>∃(n3:Int) (M:Mem),e=[(0,vp0),(3,I n3)]∧St w0 M0 M [] w∧SlS M 2 xenc83 vp0 p0∧Y2p p0 m n3=some o1) FU [(0,_),(3,_)] ⟨rfl,rfl,trivial⟩ ⟨_,_,rfl,H,hp0,e2⟩ ?_);rintro m4 e w ⟨n3,M,rfl,H,hp0,e2⟩;rcases m4 with _|m4
  · rw[Y2p] at e2;cases e2
  rw[Y2p] at e2;refine SQ (SQ (RG (MV G G (MV G G (ST (q0U Tu77 hp0 G) G (ST (q0q G G) G (NL (TN ?_))))))));refine CB (p:=n3<(p0.length:Int)) G (fun hk5=>?_) fun hk5=>?_
  ·
   rw[if_pos hk5] at e2;refine SK (TN (SQ (BL (SQ ?_))));obtain⟨o6,e7,e2⟩:=bnd e2;refine q0j (fun e w =>∃(b8:Bool) (M:Mem),e=[(0,vp0),(3,I n3),(23,Value.bool b8)]∧St w0 M0 M [] w∧SlS M 2 xenc83 vp0 p0∧some b8=some o6) [] ?_ ?_ (trivial)
   ·
    obtain⟨a9,hxa9,e7⟩:=bnd e7;obtain⟨bk12,o12,ha12,hc12⟩:=hp0.atC hxa9;refine RG (MV G G (MV G G (ST (q0t ha12 Tu77 Ts83 G G) G (ST (q02 Tu83 G Ts5 Dc G) G (ST (q07 H G (hc12.at (j:=0) G) Ta5) G ?_)))));by_cases hk10:a9.1=119
    ·
     rw[if_pos hk10] at e7;refine q09 (v' := .bool false) (q1E (c:=a9.1) (d:=119) G G) (congrArg Value.bool (by rw[decide_eq_true hk10];rfl)) (q00 G) G G ?_;refine MV G G (q0d 6 G G (PF G G G (NL ?_)));exact MN ⟨_,_,G,H,hp0,e7⟩
    rw[if_neg hk10] at e7;obtain⟨a11,hxa11,e7⟩:=bnd e7;obtain⟨bk19,o19,ha19,hc19⟩:=hp0.atC hxa11;refine q09 (v' := .bool true) (q1E (c:=a9.1) (d:=119) G G) (congrArg Value.bool (by rw[decide_eq_false hk10];rfl)) (q00 G) G G ?_;refine MV G G (SG (q01 G) G G G (SG (q01 G) G G G (SG (q0t ha19 Tu77 Ts83 G G) G G G (SG (q02 Tu83 G Ts5 Dc G) G G G (SG (q07 H G (hc19.at (j:=0) G) Ta5) G G G (SG (q1E (c:=a11.1) (d:=113) G G) G G G (PT G G G (NL ?_))))))));exact MN ⟨_,_,G,H,hp0,e7⟩
   rintro e w ⟨b8,M,rfl,H,hp0,q12⟩;obtain rfl:=oI q12;refine TN ?_;refine q0m G (fun hk13=>?_) (fun hk13=>?_)
   ·
    subst hk13;rw[if_pos rfl] at e2;refine SQ (RG (AS G G (NL (TN (RT ?_)))));obtain rfl:=oI e2;try dsimp only at h
    obtain rfl:=oI h;exact q08 G G H.ext G
   subst hk13;rw[if_neg l06] at e2;refine SK (IB (TN ?_));obtain⟨n14,hxn14,e2⟩:=bnd e2;refine RG (MV G G (ST (q0l G G hxn14) G (AS G G (NL ?_))));exact AG m4 ⟨_,_,G,H,hp0,e2⟩ (l0b _)
  rw[if_neg hk5] at e2;refine q0r (q06 (q06 (q0f ?_)));exact MN ⟨_,G,H,e2⟩
 rintro e w ⟨M,rfl,H,q15⟩;obtain rfl:=oI q15;try dsimp only at h
 refine TN (SQ (RG (AS G G (NL (TN (RT ?_))))));obtain rfl:=oI h;exact q08 G G H.ext G
theorem Y0C {p0:Ls}{r:Bool}(h:Y32 p0=some r):Ct Tryz.prog 35 [S p0] (fun M=>True) (fun v M=>v=Value.bool r):=by
 refine Ct.of Tryz.func35 (enters Tryz.func35 Kr G) G G G ?_;intro w0 M0 H hp;unfold Y32 at h;refine SQ (RG (AS G G (NL (TN (SQ (SQ (RG (AS G G (NL (TN ?_))))))))));obtain⟨o1,e2,h⟩:=bnd h;refine q0j (fun e w =>∃  (M:Mem),e=[(0,S p0)]∧St w0 M0 M [] w∧some (.inl ())=some o1) [] ?_ ?_ (trivial)
 ·
  refine BL (q0F (fun m e w =>∃(n3:Int) (M:Mem),e=[(0,S p0),(3,I n3)]∧St w0 M0 M [] w∧Y1F p0 m n3=some o1) FU [(0,_),(3,_)] ⟨rfl,rfl,trivial⟩ ⟨_,_,rfl,H,e2⟩ ?_);rintro m4 e w ⟨n3,M,rfl,H,e2⟩;rcases m4 with _|m4
  · rw[Y1F] at e2;cases e2
  rw[Y1F] at e2;refine SQ (SQ (RG (MV G G (MV G G (ST (q0i Tu9 G) G (ST (q0q G G) G (NL (TN ?_))))))));refine CB (p:=n3<(p0.length:Int)) G (fun hk5=>?_) fun hk5=>?_
  ·
   rw[if_pos hk5] at e2;refine SK (TN (SQ (BL (SQ ?_))));obtain⟨c6,hxc6,e2⟩:=bnd e2;obtain⟨b7,hx8,e2⟩:=bnd e2;refine RG (MV G G (MV G G (ST (q0x Tu9 G G hxc6) G (ST (q1r Tu5 Tu3 G) G (q05 H (R_In_ct hx8) G trivial (q00 G) G ?_)))));intro v14 M w H hle hR;obtain rfl:=hR;refine ST (q0P G) G (NL (TN ?_));refine q0m G (fun hk9=>?_) (fun hk9=>?_)
   ·
    replace hk9:b7=false:=by simpa using hk9
    subst hk9;rw[if_neg l06] at e2;refine SQ (RG (AS G G (NL (TN (RT ?_)))));obtain rfl:=oI e2;try dsimp only at h
    obtain rfl:=oI h;exact q08 G G H.ext G
   replace hk9:b7=true:=by simpa using hk9
   subst hk9;rw[if_pos rfl] at e2;refine SK (IB (TN ?_));obtain⟨n10,hxn10,e2⟩:=bnd e2;refine RG (MV G G (ST (q0l G G hxn10) G (AS G G (NL ?_))));exact AG m4 ⟨_,_,G,H,e2⟩ (l0b _)
  rw[if_neg hk5] at e2;refine q0r (q06 (q06 (q0f ?_)));exact MN ⟨_,G,H,e2⟩
 rintro e w ⟨M,rfl,H,q11⟩;obtain rfl:=oI q11;try dsimp only at h
 refine TN (SQ ?_);obtain⟨b12,hx13,h⟩:=bnd h;refine RG (MV G G (ST (q0i Tu9 G) G (q05 H (R_In_ct hx13) G trivial (q00 G) G ?_)));intro v18 M w H hle hR;obtain rfl:=hR;refine AS G G (NL (TN (RT ?_)));obtain rfl:=oI h;exact q08 G G H.ext G
theorem Y0x {p0:Ls}{p1:Bool}{r:Bool}(h:Y2y p0 p1=some r):Ct Tryz.prog 36 [S p0,Value.bool p1] (fun M=>True) (fun v M=>v=Value.bool r):=by
 refine Ct.of Tryz.func36 (enters Tryz.func36 Kr G) G G G ?_;intro w0 M0 H hp;unfold Y2y at h;refine SQ (RG (AS G G (NL (TN (SQ (RG (AS G G (NL (TN (SQ (SQ (RG (AS G G (NL (TN ?_)))))))))))))));obtain⟨o1,e2,h⟩:=bnd h;refine q0j (fun e w =>∃(b3:Bool) (M:Mem),e=[(5,Value.bool b3)]∧St w0 M0 M [] w∧some (.inl b3)=some o1) [] ?_ ?_ (trivial)
 ·
  refine BL (q0F (fun m e w =>∃(b4:Bool) (n5:Int) (M:Mem),e=[(0,S p0),(1,Value.bool p1),(5,Value.bool b4),(6,I n5)]∧St w0 M0 M [] w∧Y1X p0 p1 m b4 n5=some o1) FU [(0,_),(1,_),(5,_),(6,_)] ⟨rfl,rfl,rfl,rfl,trivial⟩ ⟨_,_,_,rfl,H,e2⟩ ?_);rintro m6 e w ⟨b4,n5,M,rfl,H,e2⟩;rcases m6 with _|m6
  · rw[Y1X] at e2;cases e2
  rw[Y1X] at e2;refine SQ (SQ (RG (MV G G (MV G G (ST (q0i Tu9 G) G (ST (q0q G G) G (NL (TN ?_))))))));refine CB (p:=n5<(p0.length:Int)) G (fun hk7=>?_) fun hk7=>?_
  ·
   rw[if_pos hk7] at e2;refine SK (TN (SQ (BL (SQ (SQ ?_)))));obtain⟨c8,hxc8,e2⟩:=bnd e2;refine RG (MV G G (MV G G (ST (q0x Tu9 G G hxc8) G (ST (q0H (c:=c8) (d:=46) G G) G (NL (TN ?_))))));refine CB (p:=c8=46) G (fun hk9=>?_) fun hk9=>?_
   ·
    rw[if_pos hk9] at e2;refine SQ (SQ (RG (MV G G (NL (TN ?_)))));refine q0m G (fun hk10=>?_) (fun hk10=>?_)
    ·
     subst hk10;rw[if_pos rfl] at e2;refine SQ (RG (AS G G (NL (TN (RT ?_)))));obtain rfl:=oI e2;try dsimp only at h
     obtain rfl:=oI h;exact q08 G G H.ext G
    subst hk10;rw[if_neg l06] at e2;refine SK (TN (SQ (RG (AS G G (NL (TN (q0r (q06 (q0f (TN ?_))))))))));obtain⟨n11,hxn11,e2⟩:=bnd e2;refine RG (MV G G (ST (q0l G G hxn11) G (AS G G (NL ?_))));exact AG m6 ⟨_,_,_,G,H,e2⟩ (l0b _)
   rw[if_neg hk9] at e2;refine SK (TN (SQ (SQ ?_)));obtain⟨o12,e13,e2⟩:=bnd e2;refine q0j (fun e w =>∃(b14:Bool) (M:Mem),e=[(0,S p0),(1,Value.bool p1),(6,I n5),(38,Value.bool b14)]∧St w0 M0 M [] w∧some b14=some o12) [] ?_ ?_ (trivial)
   ·
    obtain⟨c15,hxc15,e13⟩:=bnd e13;obtain⟨b16,hx17,e13⟩:=bnd e13;refine RG (MV G G (MV G G (ST (q0x Tu9 G G hxc15) G (q05 H (Y3m hx17) G trivial (q00 G) G ?_))));intro v21 M w H hle hR;obtain rfl:=hR;refine ST (q0P G) G (MV G G ?_);rcases b16 with _|_
    ·
     rw[if_neg l06] at e13;refine q0d 14 G G (PT G G G (NL ?_));exact MN ⟨_,_,G,H,e13⟩
    rw[if_pos rfl] at e13;refine SG (q01 G) G G G (SG (q01 G) G G G ?_);rcases p1 with _|_
    ·
     rw[if_neg l06] at e13;refine q0d 5 G G (SG (q0o G G) G G G (SG (q01 G) G G G (q0d 4 G G (SG (q0o G G) G G G (PF G G G (NL ?_))))));exact MN ⟨_,_,G,H,e13⟩
    rw[if_pos rfl] at e13;obtain⟨c18,hxc18,e13⟩:=bnd e13;obtain⟨b19,hx20,e13⟩:=bnd e13;refine SG (q01 G) G G G (SG (q01 G) G G G (SG (q0x Tu9 G G hxc18) G G G (q05 H (Y4S hx20) G trivial (q04 G G G) G ?_)));intro v29 M w H hle hR;obtain rfl:=hR;refine SG (q0P G) G G G (SG (q0p G G) G G G (SG (q01 G) G G G ?_));rcases b19 with _|_
    ·
     rw[if_neg l06] at e13;obtain⟨c21,hxc21,e13⟩:=bnd e13;refine SG (q01 G) G G G (SG (q01 G) G G G (SG (q0x Tu9 G G hxc21) G G G (SG (q1E (c:=c21) (d:=45) G G) G G G (SG (q0p G G) G G G (PF G G G (NL ?_))))));exact MN ⟨_,_,G,H,e13⟩
    rw[if_pos rfl] at e13;refine q0d 4 G G (SG (q0o G G) G G G (PF G G G (NL ?_)));exact MN ⟨_,_,G,H,e13⟩
   rintro e w ⟨b14,M,rfl,H,q22⟩;obtain rfl:=oI q22;refine TN ?_;refine q0m G (fun hk23=>?_) (fun hk23=>?_)
   ·
    subst hk23;rw[if_pos rfl] at e2;refine SQ (RG (AS G G (NL (TN (RT ?_)))));obtain rfl:=oI e2;try dsimp only at h
    obtain rfl:=oI h;exact q08 G G H.ext G
   subst hk23;rw[if_neg l06] at e2;refine SK (TN (RG (AS G G (NL (IB (TN ?_))))));obtain⟨n24,hxn24,e2⟩:=bnd e2;refine RG (MV G G (ST (q0l G G hxn24) G (AS G G (NL ?_))));exact AG m6 ⟨_,_,_,G,H,e2⟩ (l0b _)
  rw[if_neg hk7] at e2;refine q0r (q06 (q06 (q0f ?_)));exact MN ⟨_,_,G,H,e2⟩
 rintro e w ⟨b3,M,rfl,H,q25⟩;obtain rfl:=oI q25;try dsimp only at h
 refine TN (SQ (RG (MV G G (ST (q0P G) G (AS G G (NL (TN (RT ?_))))))));obtain rfl:=oI h;exact q08 G G H.ext G
set_option maxHeartbeats 4000000 in
theorem Y3C {p0:List (UInt8 × Ls)} {vp0:Value} {r:((Ls × Ls × Ls) × Bool)} (h:Y13 p0=some r):Ct Tryz.prog 90 [vp0] (fun M=>SlS M 2 xenc83 vp0 p0) (fun v M=>v=Value.tuple #[Value.agg #[S r.1.1,S r.1.2.1,S r.1.2.2],Value.bool r.2]):=by
 refine Ct.of Tryz.func90 (enters Tryz.func90 Kr G) G G G ?_;intro w0 M0 H hp;have hp0:=hp;unfold Y13 at h;refine SQ (RG (q0k [_,_,_] H Tz24 G (q00 G) G ?_));intro bk2 w H;refine AS G G (NL (TN (SQ (SQ ?_))));obtain⟨o1,e2,h⟩:=bnd h;refine q0j (fun e w =>∃(b3:Bool) (M:Mem),e=[(0,vp0),(2,ptr bk2 0),(35,Value.bool b3)]∧St w0 M0 M [.blk bk2 (.cells #[S [],S [],S []] 24)] w∧SlS M 2 xenc83 vp0 p0∧some b3=some o1) [] ?_ ?_ (trivial)
 ·
  refine RG (MV G G (ST (q0U Tu77 hp0 G) G ?_));by_cases hk4:(p0.length:Int)=(3:Int)
  ·
   rw[if_pos hk4] at e2;obtain⟨a5,hxa5,e2⟩:=bnd e2;obtain⟨bk10,o10,ha10,hc10⟩:=hp0.atC hxa5;by_cases hk6:a5.1=64
   ·
    rw[if_pos hk6] at e2;obtain⟨a7,hxa7,e2⟩:=bnd e2;obtain⟨bk17,o17,ha17,hc17⟩:=hp0.atC hxa7;by_cases hk8:a7.1=119
    ·
     rw[if_pos hk8] at e2;obtain⟨a9,hxa9,e2⟩:=bnd e2;obtain⟨bk24,o24,ha24,hc24⟩:=hp0.atC hxa9;by_cases hk10:a9.1=119
     ·
      rw[if_pos hk10] at e2;refine q09 (v' := .bool false) (q1n G G) (congrArg Value.bool (by rw[decide_eq_true hk4];rfl)) (q00 G) G G ?_;refine MV G G (SG (q01 G) G G G (SG (q0t ha10 Tu77 Ts83 G G) G G G (SG (q02 Tu83 G Ts5 Dc G) G G G (SG (q07 H G (hc10.at (j:=0) G) Ta5) G G G (q09 (v' := .bool false) (q1E (c:=a5.1) (d:=64) G G) (congrArg Value.bool (by rw[decide_eq_true hk6];rfl)) (q04 G G G) G G ?_)))));refine PF G G G (MV G G (SG (q01 G) G G G (SG (q0t ha17 Tu77 Ts83 G G) G G G (SG (q02 Tu83 G Ts5 Dc G) G G G (SG (q07 H G (hc17.at (j:=0) G) Ta5) G G G (q09 (v' := .bool false) (q1E (c:=a7.1) (d:=119) G G) (congrArg Value.bool (by rw[decide_eq_true hk8];rfl)) (q04 G G G) G G ?_))))));refine PF G G G (MV G G (SG (q01 G) G G G (SG (q0t ha24 Tu77 Ts83 G G) G G G (SG (q02 Tu83 G Ts5 Dc G) G G G (SG (q07 H G (hc24.at (j:=0) G) Ta5) G G G (q09 (v' := .bool false) (q1E (c:=a9.1) (d:=119) G G) (congrArg Value.bool (by rw[decide_eq_true hk10];rfl)) (q04 G G G) G G ?_))))));refine SG (q01 G) G G G (q0d 5 G G (SG (q0o G G) G G G (PF G G G (NL ?_))));exact MN ⟨_,_,G,H,hp0,e2⟩
     rw[if_neg hk10] at e2;obtain⟨a11,hxa11,e2⟩:=bnd e2;obtain⟨bk30,o30,ha30,hc30⟩:=hp0.atC hxa11;refine q09 (v' := .bool false) (q1n G G) (congrArg Value.bool (by rw[decide_eq_true hk4];rfl)) (q00 G) G G ?_;refine MV G G (SG (q01 G) G G G (SG (q0t ha10 Tu77 Ts83 G G) G G G (SG (q02 Tu83 G Ts5 Dc G) G G G (SG (q07 H G (hc10.at (j:=0) G) Ta5) G G G (q09 (v' := .bool false) (q1E (c:=a5.1) (d:=64) G G) (congrArg Value.bool (by rw[decide_eq_true hk6];rfl)) (q04 G G G) G G ?_)))));refine PF G G G (MV G G (SG (q01 G) G G G (SG (q0t ha17 Tu77 Ts83 G G) G G G (SG (q02 Tu83 G Ts5 Dc G) G G G (SG (q07 H G (hc17.at (j:=0) G) Ta5) G G G (q09 (v' := .bool false) (q1E (c:=a7.1) (d:=119) G G) (congrArg Value.bool (by rw[decide_eq_true hk8];rfl)) (q04 G G G) G G ?_))))));refine PF G G G (MV G G (SG (q01 G) G G G (SG (q0t ha24 Tu77 Ts83 G G) G G G (SG (q02 Tu83 G Ts5 Dc G) G G G (SG (q07 H G (hc24.at (j:=0) G) Ta5) G G G (q09 (v' := .bool true) (q1E (c:=a9.1) (d:=119) G G) (congrArg Value.bool (by rw[decide_eq_false hk10];rfl)) (q04 G G G) G G ?_))))));refine SG (q01 G) G G G (SG (q01 G) G G G (SG (q0t ha30 Tu77 Ts83 G G) G G G (SG (q02 Tu83 G Ts5 Dc G) G G G (SG (q07 H G (hc30.at (j:=0) G) Ta5) G G G (SG (q1E (c:=a11.1) (d:=113) G G) G G G (SG (q0p G G) G G G (PF G G G (NL ?_))))))));exact MN ⟨_,_,G,H,hp0,e2⟩
    rw[if_neg hk8] at e2;refine q09 (v' := .bool false) (q1n G G) (congrArg Value.bool (by rw[decide_eq_true hk4];rfl)) (q00 G) G G ?_;refine MV G G (SG (q01 G) G G G (SG (q0t ha10 Tu77 Ts83 G G) G G G (SG (q02 Tu83 G Ts5 Dc G) G G G (SG (q07 H G (hc10.at (j:=0) G) Ta5) G G G (q09 (v' := .bool false) (q1E (c:=a5.1) (d:=64) G G) (congrArg Value.bool (by rw[decide_eq_true hk6];rfl)) (q04 G G G) G G ?_)))));refine PF G G G (MV G G (SG (q01 G) G G G (SG (q0t ha17 Tu77 Ts83 G G) G G G (SG (q02 Tu83 G Ts5 Dc G) G G G (SG (q07 H G (hc17.at (j:=0) G) Ta5) G G G (q09 (v' := .bool true) (q1E (c:=a7.1) (d:=119) G G) (congrArg Value.bool (by rw[decide_eq_false hk8];rfl)) (q04 G G G) G G ?_))))));refine PF G G G (MV G G (q0d 12 G G (PT G G G (NL ?_))));exact MN ⟨_,_,G,H,hp0,e2⟩
   rw[if_neg hk6] at e2;refine q09 (v' := .bool false) (q1n G G) (congrArg Value.bool (by rw[decide_eq_true hk4];rfl)) (q00 G) G G ?_;refine MV G G (SG (q01 G) G G G (SG (q0t ha10 Tu77 Ts83 G G) G G G (SG (q02 Tu83 G Ts5 Dc G) G G G (SG (q07 H G (hc10.at (j:=0) G) Ta5) G G G (q09 (v' := .bool true) (q1E (c:=a5.1) (d:=64) G G) (congrArg Value.bool (by rw[decide_eq_false hk6];rfl)) (q04 G G G) G G ?_)))));refine PF G G G (MV G G (q0d 5 G G (PT G G G (MV G G (q0d 12 G G (PT G G G (NL ?_)))))));exact MN ⟨_,_,G,H,hp0,e2⟩
  rw[if_neg hk4] at e2;refine q09 (v' := .bool true) (q1n G G) (congrArg Value.bool (by rw[decide_eq_false hk4];rfl)) (q00 G) G G ?_;refine MV G G (q0d 5 G G (PT G G G (MV G G (q0d 5 G G (PT G G G (MV G G (q0d 12 G G (PT G G G (NL ?_)))))))));exact MN ⟨_,_,G,H,hp0,e2⟩
 rintro e w ⟨b3,M,rfl,H,hp0,q12⟩;obtain rfl:=oI q12;refine TN ?_;refine q0m G (fun hk13=>?_) (fun hk13=>?_)
 ·
  subst hk13;rw[if_pos rfl] at h;refine SQ (RG (ST (q0B [S [],S [],S []] Tu24 Tz24 (xplaces24 Tu24) G G) G (q0b [_,_,_] H G G G Ku Ts24 G Kf Kf (q00 G) ?_)));intro w H;refine AS G G (NL (TN (RT ?_)));obtain rfl:=oI h;exact q0w G ⟨_,G,H.loadAgg Km Ta24 Ts24 Kf⟩ G H.ext G
 subst hk13;rw[if_neg l06] at h;refine SK (TN (SQ ?_));obtain⟨a14,hxa14,h⟩:=bnd h;obtain⟨bk38,o38,ha38,hc38⟩:=hp0.atC hxa14;obtain⟨a15,hxa15,h⟩:=bnd h;obtain⟨bk42,o42,ha42,hc42⟩:=hp0.atC hxa15;refine WC.cutP (fun e w =>∃(b16:Nat) (M:Mem),e=[(0,vp0),(2,ptr bk2 0),(4,ptr b16 0)]∧St w0 M0 M [.blk bk2 (.cells #[S [],S [],S []] 24), .blk b16 (.cells #[S [],S a14.2,S a15.2] 24)] w∧SlS M 2 xenc83 vp0 p0) ?_ ?_
 ·
  refine q0E (m:=11) G G H ?_;intro w H;refine TK 0 G (fun _=>q01 G) G (TK 1 G (fun _=>q0t ha38 Tu77 Ts83 G G) G (TK 2 G (fun _=>q02 Tu83 G Ts9 Dc G) G (TK 4 G (fun _=>q01 G) G (TK 5 G (fun _=>q0t ha42 Tu77 Ts83 G G) G (TK 6 G (fun _=>q02 Tu83 G Ts9 Dc G) G ?_)))));refine WA.three (i:=3) (j:=7) (k:=9) Kr G G G ?_ ?_ ?_
  ·
   refine ST (q07 H G (hc38.at (j:=1) G) Ta9) G (NA ?_);refine q0G (i:=7) (j:=9) Kr G G ?_ ?_
   ·
    refine ST (q07 H G (hc42.at (j:=1) G) Ta9) G (NA (TK 8 G (fun _=>q0B [S [],S a14.2,S a15.2] Tu24 Tz24 (xplaces24 Tu24) G G) G (q0s (fuel:=0) [9,10] G Kr (q0k [_,_,_] H Tz24 G (q00 G) G ?_))));intro bk4 w H;refine q0b [_,_,_] H G G G Ku Ts24 G Kf Kf (q00 G) ?_;intro w H;refine NA (q0h Kr ?_);exact MP ⟨_,_,G,(H.pick (L':=[.blk bk2 (.cells #[S [],S [],S []] 24), .blk bk4 (.cells #[S [],S a14.2,S a15.2] 24)]) Kp),hp0⟩
   refine q0k [_,_,_] H Tz24 G (q00 G) G ?_;intro bk4 w H;refine NA (q0s (fuel:=0) [7,8,10] G Kr (ST (q07 H G (hc42.at (j:=1) G) Ta9) G (ST (q0B [S [],S a14.2,S a15.2] Tu24 Tz24 (xplaces24 Tu24) G G) G (q0b [_,_,_] H G G G Ku Ts24 G Kf Kf (q00 G) ?_))));intro w H;refine NA (q0h Kr ?_);exact MP ⟨_,_,G,(H.pick (L':=[.blk bk2 (.cells #[S [],S [],S []] 24), .blk bk4 (.cells #[S [],S a14.2,S a15.2] 24)]) Kp),hp0⟩
  ·
   refine ST (q07 H G (hc42.at (j:=1) G) Ta9) G (NA ?_);refine q0G (i:=3) (j:=9) Kr G G ?_ ?_
   ·
    refine ST (q07 H G (hc38.at (j:=1) G) Ta9) G (NA (TK 8 G (fun _=>q0B [S [],S a14.2,S a15.2] Tu24 Tz24 (xplaces24 Tu24) G G) G (q0s (fuel:=0) [9,10] G Kr (q0k [_,_,_] H Tz24 G (q00 G) G ?_))));intro bk4 w H;refine q0b [_,_,_] H G G G Ku Ts24 G Kf Kf (q00 G) ?_;intro w H;refine NA (q0h Kr ?_);exact MP ⟨_,_,G,(H.pick (L':=[.blk bk2 (.cells #[S [],S [],S []] 24), .blk bk4 (.cells #[S [],S a14.2,S a15.2] 24)]) Kp),hp0⟩
   refine q0k [_,_,_] H Tz24 G (q00 G) G ?_;intro bk4 w H;refine NA (q0s (fuel:=0) [3,8,10] G Kr (ST (q07 H G (hc38.at (j:=1) G) Ta9) G (ST (q0B [S [],S a14.2,S a15.2] Tu24 Tz24 (xplaces24 Tu24) G G) G (q0b [_,_,_] H G G G Ku Ts24 G Kf Kf (q00 G) ?_))));intro w H;refine NA (q0h Kr ?_);exact MP ⟨_,_,G,(H.pick (L':=[.blk bk2 (.cells #[S [],S [],S []] 24), .blk bk4 (.cells #[S [],S a14.2,S a15.2] 24)]) Kp),hp0⟩
  refine q0k [_,_,_] H Tz24 G (q00 G) G ?_;intro bk4 w H;refine NA (q0Q (i:=3) [7] G Kr Kr Kr (q07 H G (hc38.at (j:=1) G) Ta9) (q00 G) G G (fun _ _=>G) (q0s (fuel:=0) [7,8,10] G Kr (ST (q07 H G (hc42.at (j:=1) G) Ta9) G (ST (q0B [S [],S a14.2,S a15.2] Tu24 Tz24 (xplaces24 Tu24) G G) G (q0b [_,_,_] H G G G Ku Ts24 G Kf Kf (q00 G) ?_)))));intro w H;refine NA (q0h Kr ?_);exact MP ⟨_,_,G,(H.pick (L':=[.blk bk2 (.cells #[S [],S [],S []] 24), .blk bk4 (.cells #[S [],S a14.2,S a15.2] 24)]) Kp),hp0⟩
 rintro e w ⟨b16,M,rfl,H,hp0⟩;refine TN (SQ ?_);obtain⟨o17,e18,h⟩:=bnd h;refine q0j (fun e w =>∃(s19:Ls) (s20:Ls) (s21:Ls) (b22:Bool) (M:Mem),e=[(2,ptr bk2 0),(3,Value.bool b22)]∧St w0 M0 M [.blk bk2 (.cells #[S s19,S s20,S s21] 24)] w∧some (s19,s20,s21,b22)=some o17) [] ?_ ?_ (trivial)
 ·
  obtain⟨b23,hx24,e18⟩:=bnd e18;refine q0E (m:=29) G G H ?_;intro w H;refine TK 1 G (fun _=>q02 Tu24 G Ts9 Dc G) G (q0Q (i:=2) [0] G Kr Kr Kr (XL H Ta9) (q00 G) G G (fun _ _=>G) ?_);rcases b23 with _|_
  ·
   rw[if_neg l06] at e18;refine q0G (i:=0) (j:=3) Kr G G ?_ ?_
   ·
    refine ST (q0n H G Km Ta24 Ts24 Kf) G ?_;refine NA (q0s (fuel:=3) [3,4,5,6,7,8,9,10,11,12,13,14,15,16,17,18,19,20,21,22,23,24,25] G Kr (q05 H (Y0C hx24) G trivial (q00 G) G ?_));intro v49 M w H hle hR;replace hp0:=hp0.mono hle;obtain rfl:=hR;refine MV G G (q0d 10 G G (PF G G G (MV G G (q0d 4 G G (PF G G G (MV G G (q0d 3 G G (NA (TK 26 G (fun _=>q0o G G) G (q0s (fuel:=0) [27,28] G Kr (q0b [_,_,_] H G G G Ku Ts24 G Kf Kf (q00 G) ?_)))))))))));intro w H;refine AS G G (NA (q0h Kr ?_));exact MN ⟨_,_,_,_,_,G,(H.pick (L':=[.blk bk2 (.cells #[S [],S a14.2,S a15.2] 24)]) Kp),e18⟩
   refine q05 H (Y0C hx24) G trivial (q00 G) G ?_;intro v49 M w H hle hR;replace hp0:=hp0.mono hle;obtain rfl:=hR;refine NA (TK 4 G (fun _=>q01 G) G (q1B (fuel:=17) [5,6,7,8,9,10,11,12] G Kr Kr G ?_));refine q0G (i:=0) (j:=13) Kr G G ?_ ?_
   ·
    refine ST (q0n H G Km Ta24 Ts24 Kf) G ?_;refine NA (q0s (fuel:=3) [13,14,15,16,17,18,19,20,21,22,23,24,25] G Kr (GU G G G (GF G G G (PF G G G (MV G G (q0d 4 G G (PF G G G (MV G G (q0d 3 G G (NA (TK 26 G (fun _=>q0o G G) G (q0s (fuel:=0) [27,28] G Kr (q0b [_,_,_] H G G G Ku Ts24 G Kf Kf (q00 G) ?_)))))))))))));intro w H;refine AS G G (NA (q0h Kr ?_));exact MN ⟨_,_,_,_,_,G,(H.pick (L':=[.blk bk2 (.cells #[S [],S a14.2,S a15.2] 24)]) Kp),e18⟩
   refine GU G G G (NA (q1b (i:=14) G Kr Kr Kr (wanted_g (b:=false) G G G) G G (fun _ _=>G) (TK 15 G (fun _=>q0o G G) G (TK 16 G (fun _=>q01 G) G (q1B (fuel:=11) [17,18] G Kr Kr G ?_)))));refine q0G (i:=0) (j:=19) Kr G G ?_ ?_
   ·
    refine ST (q0n H G Km Ta24 Ts24 Kf) G ?_;refine NA (q0s (fuel:=3) [19,20,21,22,23,24,25] G Kr (GF G G G (GF G G G (PF G G G (MV G G (q0d 3 G G (NA (TK 26 G (fun _=>q0o G G) G (q0s (fuel:=0) [27,28] G Kr (q0b [_,_,_] H G G G Ku Ts24 G Kf Kf (q00 G) ?_))))))))));intro w H;refine AS G G (NA (q0h Kr ?_));exact MN ⟨_,_,_,_,_,G,(H.pick (L':=[.blk bk2 (.cells #[S [],S a14.2,S a15.2] 24)]) Kp),e18⟩
   refine GF G G G (NA (q1b (i:=20) G Kr Kr Kr (wanted_g (b:=false) G G G) G G (fun _ _=>G) (TK 21 G (fun _=>q0o G G) G (TK 22 G (fun _=>q01 G) G (q1B (fuel:=5) [23,24] G Kr Kr G ?_)))));refine q0G (i:=0) (j:=25) Kr G G ?_ ?_
   ·
    refine ST (q0n H G Km Ta24 Ts24 Kf) G ?_;refine NA (ON 25 Kr G (GF G G G (NA (TK 26 G (fun _=>q0o G G) G (q0s (fuel:=0) [27,28] G Kr (q0b [_,_,_] H G G G Ku Ts24 G Kf Kf (q00 G) ?_))))));intro w H;refine AS G G (NA (q0h Kr ?_));exact MN ⟨_,_,_,_,_,G,(H.pick (L':=[.blk bk2 (.cells #[S [],S a14.2,S a15.2] 24)]) Kp),e18⟩
   refine GF G G G (NA (TK 26 G (fun _=>q0o G G) G (q0s (fuel:=0) [0,27,28] G Kr (ST (q0n H G Km Ta24 Ts24 Kf) G ?_))));refine q0b [_,_,_] H G G G Ku Ts24 G Kf Kf (q00 G) ?_;intro w H;refine AS G G (NA (q0h Kr ?_));exact MN ⟨_,_,_,_,_,G,(H.pick (L':=[.blk bk2 (.cells #[S [],S a14.2,S a15.2] 24)]) Kp),e18⟩
  rw[if_pos rfl] at e18;obtain⟨a25,hxa25,e18⟩:=bnd e18;obtain⟨bk52,o52,ha52,hc52⟩:=hp0.atC hxa25;by_cases hk26:a25.1=113
  ·
   rw[if_pos hk26] at e18;by_cases hk27:(a15.2.length:Int)≤(60:Int)
   ·
    rw[if_pos hk27] at e18;obtain⟨b28,hx29,e18⟩:=bnd e18;refine q0G (i:=0) (j:=3) Kr G G ?_ ?_
    ·
     refine ST (q0n H G Km Ta24 Ts24 Kf) G ?_;refine NA (q0s (fuel:=3) [3,4,5,6,7,8,9,10,11,12,13,14,15,16,17,18,19,20,21,22,23,24,25] G Kr (q05 H (Y0C hx24) G trivial (q00 G) G ?_));intro v49 M w H hle hR;replace hp0:=hp0.mono hle;replace hc52:=hc52.mono hle;obtain rfl:=hR;refine MV G G (SG (q01 G) G G G (SG (q0t ha52 Tu77 Ts83 G G) G G G (SG (q02 Tu83 G Ts5 Dc G) G G G (SG (q07 H G (hc52.at (j:=0) G) Ta5) G G G (DU hk26 (q0H (c:=a25.1) (d:=113) G G) G G G (SG (q01 G) G G G (q0d 3 G G (SG (q0p G G) G G G (PT G G G (MV G G (SG (q02 Tu24 G Ts9 Dc G) G G G (SG (XL H Ta9) G G G ?_))))))))))));refine SG (q0i Tu9 G) G G G (DU hk27 (q1y G G) G G G (PT G G G (MV G G (SG (q02 Tu24 G Ts9 Dc G) G G G (SG (XL H Ta9) G G G ?_)))));refine q05 H (Y0x hx29) G trivial (q04 G G G) G ?_;intro v71 M w H hle hR;replace hp0:=hp0.mono hle;replace hc52:=hc52.mono hle;obtain rfl:=hR;refine NA (TK 26 G (fun _=>q0p G G) G (q0s (fuel:=0) [27,28] G Kr (q0b [_,_,_] H G G G Ku Ts24 G Kf Kf (q00 G) ?_)));intro w H;refine AS G G (NA (q0h Kr ?_));exact MN ⟨_,_,_,_,_,G,(H.pick (L':=[.blk bk2 (.cells #[S [],S a14.2,S a15.2] 24)]) Kp),e18⟩
    refine q05 H (Y0C hx24) G trivial (q00 G) G ?_;intro v49 M w H hle hR;replace hp0:=hp0.mono hle;replace hc52:=hc52.mono hle;obtain rfl:=hR;refine NA (TK 4 G (fun _=>q01 G) G (q0v (i:=5) G Kr Kr Kr (fun _=>q01 G) (q04 G G G) G G (fun _ _=>G) (q0v (i:=6) G Kr Kr Kr (fun _=>q0t ha52 Tu77 Ts83 G G) (q04 G G G) G G (fun _ _=>G) (q0v (i:=7) G Kr Kr Kr (fun _=>q02 Tu83 G Ts5 Dc G) (q04 G G G) G G (fun _ _=>G) (q0Q (i:=8) [0] G Kr Kr Kr (q07 H G (hc52.at (j:=0) G) Ta5) (q04 G G G) G G (fun _ _=>G) (q0T (v' := .bool true) (i:=9) G Kr Kr Kr (fun _=>q0H (c:=a25.1) (d:=113) G G) (congrArg Value.bool (decide_eq_true hk26)) (q04 G G G) G G (fun _ _=>G) ?_))))));refine q0v (i:=10) G Kr Kr Kr (fun _=>q01 G) (q04 G G G) G G (fun _ _=>G) (q1B (fuel:=17) [11,12] G Kr Kr G ?_);refine q0G (i:=0) (j:=13) Kr G G ?_ ?_
    ·
     refine ST (q0n H G Km Ta24 Ts24 Kf) G ?_;refine NA (q0s (fuel:=3) [13,14,15,16,17,18,19,20,21,22,23,24,25] G Kr (GT G G G (SG (q0p G G) G G G (PT G G G (MV G G (SG (q02 Tu24 G Ts9 Dc G) G G G (SG (XL H Ta9) G G G ?_)))))));refine SG (q0i Tu9 G) G G G (DU hk27 (q1y G G) G G G (PT G G G (MV G G (SG (q02 Tu24 G Ts9 Dc G) G G G (SG (XL H Ta9) G G G ?_)))));refine q05 H (Y0x hx29) G trivial (q04 G G G) G ?_;intro v71 M w H hle hR;replace hp0:=hp0.mono hle;replace hc52:=hc52.mono hle;obtain rfl:=hR;refine NA (TK 26 G (fun _=>q0p G G) G (q0s (fuel:=0) [27,28] G Kr (q0b [_,_,_] H G G G Ku Ts24 G Kf Kf (q00 G) ?_)));intro w H;refine AS G G (NA (q0h Kr ?_));exact MN ⟨_,_,_,_,_,G,(H.pick (L':=[.blk bk2 (.cells #[S [],S a14.2,S a15.2] 24)]) Kp),e18⟩
    refine GT G G G (NA (q0v (i:=14) G Kr Kr Kr (fun _=>q0p G G) (q04 G G G) G G (fun _ _=>G) (TK 15 G (fun _=>q0p G G) G (TK 16 G (fun _=>q01 G) G (q0v (i:=17) G Kr Kr Kr (fun _=>q02 Tu24 G Ts9 Dc G) (q04 G G G) G G (fun _ _=>G) (q0Q (i:=18) [0] G Kr Kr Kr (XL H Ta9) (q04 G G G) G G (fun _ _=>G) ?_))))));refine q0v (i:=19) G Kr Kr Kr (fun _=>q0i Tu9 G) (q04 G G G) G G (fun _ _=>G) (q0T (v' := .bool true) (i:=20) G Kr Kr Kr (fun _=>q1y G G) (congrArg Value.bool (decide_eq_true hk27)) (q04 G G G) G G (fun _ _=>G) (TK 21 G (fun _=>q0p G G) G (TK 22 G (fun _=>q01 G) G (q0v (i:=23) G Kr Kr Kr (fun _=>q02 Tu24 G Ts9 Dc G) (q04 G G G) G G (fun _ _=>G) (q0Q (i:=24) [0] G Kr Kr Kr (XL H Ta9) (q04 G G G) G G (fun _ _=>G) ?_)))));refine q0G (i:=0) (j:=25) Kr G G ?_ ?_
    ·
     refine ST (q0n H G Km Ta24 Ts24 Kf) G ?_;refine NA (ON 25 Kr G (q05 H (Y0x hx29) G trivial (q04 G G G) G ?_));intro v71 M w H hle hR;replace hp0:=hp0.mono hle;replace hc52:=hc52.mono hle;obtain rfl:=hR;refine NA (TK 26 G (fun _=>q0p G G) G (q0s (fuel:=0) [27,28] G Kr (q0b [_,_,_] H G G G Ku Ts24 G Kf Kf (q00 G) ?_)));intro w H;refine AS G G (NA (q0h Kr ?_));exact MN ⟨_,_,_,_,_,G,(H.pick (L':=[.blk bk2 (.cells #[S [],S a14.2,S a15.2] 24)]) Kp),e18⟩
    refine q05 H (Y0x hx29) G trivial (q04 G G G) G ?_;intro v71 M w H hle hR;replace hp0:=hp0.mono hle;replace hc52:=hc52.mono hle;obtain rfl:=hR;refine NA (TK 26 G (fun _=>q0p G G) G (q0s (fuel:=0) [0,27,28] G Kr (ST (q0n H G Km Ta24 Ts24 Kf) G ?_)));refine q0b [_,_,_] H G G G Ku Ts24 G Kf Kf (q00 G) ?_;intro w H;refine AS G G (NA (q0h Kr ?_));exact MN ⟨_,_,_,_,_,G,(H.pick (L':=[.blk bk2 (.cells #[S [],S a14.2,S a15.2] 24)]) Kp),e18⟩
   rw[if_neg hk27] at e18;refine q0G (i:=0) (j:=3) Kr G G ?_ ?_
   ·
    refine ST (q0n H G Km Ta24 Ts24 Kf) G ?_;refine NA (q0s (fuel:=3) [3,4,5,6,7,8,9,10,11,12,13,14,15,16,17,18,19,20,21,22,23,24,25] G Kr (q05 H (Y0C hx24) G trivial (q00 G) G ?_));intro v49 M w H hle hR;replace hp0:=hp0.mono hle;replace hc52:=hc52.mono hle;obtain rfl:=hR;refine MV G G (SG (q01 G) G G G (SG (q0t ha52 Tu77 Ts83 G G) G G G (SG (q02 Tu83 G Ts5 Dc G) G G G (SG (q07 H G (hc52.at (j:=0) G) Ta5) G G G (DU hk26 (q0H (c:=a25.1) (d:=113) G G) G G G (SG (q01 G) G G G (q0d 3 G G (SG (q0p G G) G G G (PT G G G (MV G G (SG (q02 Tu24 G Ts9 Dc G) G G G (SG (XL H Ta9) G G G ?_))))))))))));refine SG (q0i Tu9 G) G G G (DG hk27 (q1y G G) G G G (PT G G G (MV G G (q0d 3 G G (NA (TK 26 G (fun _=>q0o G G) G (q0s (fuel:=0) [27,28] G Kr (q0b [_,_,_] H G G G Ku Ts24 G Kf Kf (q00 G) ?_))))))));intro w H;refine AS G G (NA (q0h Kr ?_));exact MN ⟨_,_,_,_,_,G,(H.pick (L':=[.blk bk2 (.cells #[S [],S a14.2,S a15.2] 24)]) Kp),e18⟩
   refine q05 H (Y0C hx24) G trivial (q00 G) G ?_;intro v49 M w H hle hR;replace hp0:=hp0.mono hle;replace hc52:=hc52.mono hle;obtain rfl:=hR;refine NA (TK 4 G (fun _=>q01 G) G (q0v (i:=5) G Kr Kr Kr (fun _=>q01 G) (q04 G G G) G G (fun _ _=>G) (q0v (i:=6) G Kr Kr Kr (fun _=>q0t ha52 Tu77 Ts83 G G) (q04 G G G) G G (fun _ _=>G) (q0v (i:=7) G Kr Kr Kr (fun _=>q02 Tu83 G Ts5 Dc G) (q04 G G G) G G (fun _ _=>G) (q0Q (i:=8) [0] G Kr Kr Kr (q07 H G (hc52.at (j:=0) G) Ta5) (q04 G G G) G G (fun _ _=>G) (q0T (v' := .bool true) (i:=9) G Kr Kr Kr (fun _=>q0H (c:=a25.1) (d:=113) G G) (congrArg Value.bool (decide_eq_true hk26)) (q04 G G G) G G (fun _ _=>G) ?_))))));refine q0v (i:=10) G Kr Kr Kr (fun _=>q01 G) (q04 G G G) G G (fun _ _=>G) (q1B (fuel:=17) [11,12] G Kr Kr G ?_);refine q0G (i:=0) (j:=13) Kr G G ?_ ?_
   ·
    refine ST (q0n H G Km Ta24 Ts24 Kf) G ?_;refine NA (q0s (fuel:=3) [13,14,15,16,17,18,19,20,21,22,23,24,25] G Kr (GT G G G (SG (q0p G G) G G G (PT G G G (MV G G (SG (q02 Tu24 G Ts9 Dc G) G G G (SG (XL H Ta9) G G G ?_)))))));refine SG (q0i Tu9 G) G G G (DG hk27 (q1y G G) G G G (PT G G G (MV G G (q0d 3 G G (NA (TK 26 G (fun _=>q0o G G) G (q0s (fuel:=0) [27,28] G Kr (q0b [_,_,_] H G G G Ku Ts24 G Kf Kf (q00 G) ?_))))))));intro w H;refine AS G G (NA (q0h Kr ?_));exact MN ⟨_,_,_,_,_,G,(H.pick (L':=[.blk bk2 (.cells #[S [],S a14.2,S a15.2] 24)]) Kp),e18⟩
   refine GT G G G (NA (q0v (i:=14) G Kr Kr Kr (fun _=>q0p G G) (q04 G G G) G G (fun _ _=>G) (TK 15 G (fun _=>q0p G G) G (TK 16 G (fun _=>q01 G) G (q0v (i:=17) G Kr Kr Kr (fun _=>q02 Tu24 G Ts9 Dc G) (q04 G G G) G G (fun _ _=>G) (q0Q (i:=18) [0] G Kr Kr Kr (XL H Ta9) (q04 G G G) G G (fun _ _=>G) ?_))))));refine q0v (i:=19) G Kr Kr Kr (fun _=>q0i Tu9 G) (q04 G G G) G G (fun _ _=>G) (q0T (v' := .bool false) (i:=20) G Kr Kr Kr (fun _=>q1y G G) (congrArg Value.bool (decide_eq_false hk27)) (q04 G G G) G G (fun _ _=>G) (TK 21 G (fun _=>q0p G G) G (TK 22 G (fun _=>q01 G) G (q1B (fuel:=5) [23,24] G Kr Kr G ?_))));refine q0G (i:=0) (j:=25) Kr G G ?_ ?_
   ·
    refine ST (q0n H G Km Ta24 Ts24 Kf) G ?_;refine NA (ON 25 Kr G (GF G G G (NA (TK 26 G (fun _=>q0o G G) G (q0s (fuel:=0) [27,28] G Kr (q0b [_,_,_] H G G G Ku Ts24 G Kf Kf (q00 G) ?_))))));intro w H;refine AS G G (NA (q0h Kr ?_));exact MN ⟨_,_,_,_,_,G,(H.pick (L':=[.blk bk2 (.cells #[S [],S a14.2,S a15.2] 24)]) Kp),e18⟩
   refine GF G G G (NA (TK 26 G (fun _=>q0o G G) G (q0s (fuel:=0) [0,27,28] G Kr (ST (q0n H G Km Ta24 Ts24 Kf) G ?_))));refine q0b [_,_,_] H G G G Ku Ts24 G Kf Kf (q00 G) ?_;intro w H;refine AS G G (NA (q0h Kr ?_));exact MN ⟨_,_,_,_,_,G,(H.pick (L':=[.blk bk2 (.cells #[S [],S a14.2,S a15.2] 24)]) Kp),e18⟩
  rw[if_neg hk26] at e18;obtain⟨b30,hx31,e18⟩:=bnd e18;rcases b30 with _|_
  ·
   rw[if_neg l06] at e18;refine q0G (i:=0) (j:=3) Kr G G ?_ ?_
   ·
    refine ST (q0n H G Km Ta24 Ts24 Kf) G ?_;refine NA (q0s (fuel:=3) [3,4,5,6,7,8,9,10,11,12,13,14,15,16,17,18,19,20,21,22,23,24,25] G Kr (q05 H (Y0C hx24) G trivial (q00 G) G ?_));intro v49 M w H hle hR;replace hp0:=hp0.mono hle;replace hc52:=hc52.mono hle;obtain rfl:=hR;refine MV G G (SG (q01 G) G G G (SG (q0t ha52 Tu77 Ts83 G G) G G G (SG (q02 Tu83 G Ts5 Dc G) G G G (SG (q07 H G (hc52.at (j:=0) G) Ta5) G G G (DG hk26 (q0H (c:=a25.1) (d:=113) G G) G G G (SG (q01 G) G G G (SG (q02 Tu24 G Ts9 Dc G) G G G (SG (XL H Ta9) G G G ?_))))))));refine q05 H (Y0x hx31) G trivial (q04 G G G) G ?_;intro v59 M w H hle hR;replace hp0:=hp0.mono hle;replace hc52:=hc52.mono hle;obtain rfl:=hR;refine SG (q0o G G) G G G (PT G G G (MV G G (q0d 4 G G (PF G G G (MV G G (q0d 3 G G (NA (TK 26 G (fun _=>q0o G G) G (q0s (fuel:=0) [27,28] G Kr (q0b [_,_,_] H G G G Ku Ts24 G Kf Kf (q00 G) ?_))))))))));intro w H;refine AS G G (NA (q0h Kr ?_));exact MN ⟨_,_,_,_,_,G,(H.pick (L':=[.blk bk2 (.cells #[S [],S a14.2,S a15.2] 24)]) Kp),e18⟩
   refine q05 H (Y0C hx24) G trivial (q00 G) G ?_;intro v49 M w H hle hR;replace hp0:=hp0.mono hle;replace hc52:=hc52.mono hle;obtain rfl:=hR;refine NA (TK 4 G (fun _=>q01 G) G (q0v (i:=5) G Kr Kr Kr (fun _=>q01 G) (q04 G G G) G G (fun _ _=>G) (q0v (i:=6) G Kr Kr Kr (fun _=>q0t ha52 Tu77 Ts83 G G) (q04 G G G) G G (fun _ _=>G) (q0v (i:=7) G Kr Kr Kr (fun _=>q02 Tu83 G Ts5 Dc G) (q04 G G G) G G (fun _ _=>G) (q0Q (i:=8) [0] G Kr Kr Kr (q07 H G (hc52.at (j:=0) G) Ta5) (q04 G G G) G G (fun _ _=>G) (q0T (v' := .bool false) (i:=9) G Kr Kr Kr (fun _=>q0H (c:=a25.1) (d:=113) G G) (congrArg Value.bool (decide_eq_false hk26)) (q04 G G G) G G (fun _ _=>G) ?_))))));refine q0v (i:=10) G Kr Kr Kr (fun _=>q01 G) (q04 G G G) G G (fun _ _=>G) (q0v (i:=11) G Kr Kr Kr (fun _=>q02 Tu24 G Ts9 Dc G) (q04 G G G) G G (fun _ _=>G) (q0Q (i:=12) [0] G Kr Kr Kr (XL H Ta9) (q04 G G G) G G (fun _ _=>G) ?_));refine q0G (i:=0) (j:=13) Kr G G ?_ ?_
   ·
    refine ST (q0n H G Km Ta24 Ts24 Kf) G ?_;refine NA (q0s (fuel:=3) [13,14,15,16,17,18,19,20,21,22,23,24,25] G Kr (q05 H (Y0x hx31) G trivial (q04 G G G) G ?_));intro v59 M w H hle hR;replace hp0:=hp0.mono hle;replace hc52:=hc52.mono hle;obtain rfl:=hR;refine SG (q0o G G) G G G (PT G G G (MV G G (q0d 4 G G (PF G G G (MV G G (q0d 3 G G (NA (TK 26 G (fun _=>q0o G G) G (q0s (fuel:=0) [27,28] G Kr (q0b [_,_,_] H G G G Ku Ts24 G Kf Kf (q00 G) ?_))))))))));intro w H;refine AS G G (NA (q0h Kr ?_));exact MN ⟨_,_,_,_,_,G,(H.pick (L':=[.blk bk2 (.cells #[S [],S a14.2,S a15.2] 24)]) Kp),e18⟩
   refine q05 H (Y0x hx31) G trivial (q04 G G G) G ?_;intro v59 M w H hle hR;replace hp0:=hp0.mono hle;replace hc52:=hc52.mono hle;obtain rfl:=hR;refine NA (q0v (i:=14) G Kr Kr Kr (fun _=>q0o G G) (q04 G G G) G G (fun _ _=>G) (TK 15 G (fun _=>q0p G G) G (TK 16 G (fun _=>q01 G) G (q1B (fuel:=11) [17,18] G Kr Kr G ?_))));refine q0G (i:=0) (j:=19) Kr G G ?_ ?_
   ·
    refine ST (q0n H G Km Ta24 Ts24 Kf) G ?_;refine NA (q0s (fuel:=3) [19,20,21,22,23,24,25] G Kr (GF G G G (GF G G G (PF G G G (MV G G (q0d 3 G G (NA (TK 26 G (fun _=>q0o G G) G (q0s (fuel:=0) [27,28] G Kr (q0b [_,_,_] H G G G Ku Ts24 G Kf Kf (q00 G) ?_))))))))));intro w H;refine AS G G (NA (q0h Kr ?_));exact MN ⟨_,_,_,_,_,G,(H.pick (L':=[.blk bk2 (.cells #[S [],S a14.2,S a15.2] 24)]) Kp),e18⟩
   refine GF G G G (NA (q1b (i:=20) G Kr Kr Kr (wanted_g (b:=false) G G G) G G (fun _ _=>G) (TK 21 G (fun _=>q0o G G) G (TK 22 G (fun _=>q01 G) G (q1B (fuel:=5) [23,24] G Kr Kr G ?_)))));refine q0G (i:=0) (j:=25) Kr G G ?_ ?_
   ·
    refine ST (q0n H G Km Ta24 Ts24 Kf) G ?_;refine NA (ON 25 Kr G (GF G G G (NA (TK 26 G (fun _=>q0o G G) G (q0s (fuel:=0) [27,28] G Kr (q0b [_,_,_] H G G G Ku Ts24 G Kf Kf (q00 G) ?_))))));intro w H;refine AS G G (NA (q0h Kr ?_));exact MN ⟨_,_,_,_,_,G,(H.pick (L':=[.blk bk2 (.cells #[S [],S a14.2,S a15.2] 24)]) Kp),e18⟩
   refine GF G G G (NA (TK 26 G (fun _=>q0o G G) G (q0s (fuel:=0) [0,27,28] G Kr (ST (q0n H G Km Ta24 Ts24 Kf) G ?_))));refine q0b [_,_,_] H G G G Ku Ts24 G Kf Kf (q00 G) ?_;intro w H;refine AS G G (NA (q0h Kr ?_));exact MN ⟨_,_,_,_,_,G,(H.pick (L':=[.blk bk2 (.cells #[S [],S a14.2,S a15.2] 24)]) Kp),e18⟩
  rw[if_pos rfl] at e18;by_cases hk32:(a15.2.length:Int)≤(60:Int)
  ·
   rw[if_pos hk32] at e18;obtain⟨b33,hx34,e18⟩:=bnd e18;refine q0G (i:=0) (j:=3) Kr G G ?_ ?_
   ·
    refine ST (q0n H G Km Ta24 Ts24 Kf) G ?_;refine NA (q0s (fuel:=3) [3,4,5,6,7,8,9,10,11,12,13,14,15,16,17,18,19,20,21,22,23,24,25] G Kr (q05 H (Y0C hx24) G trivial (q00 G) G ?_));intro v49 M w H hle hR;replace hp0:=hp0.mono hle;replace hc52:=hc52.mono hle;obtain rfl:=hR;refine MV G G (SG (q01 G) G G G (SG (q0t ha52 Tu77 Ts83 G G) G G G (SG (q02 Tu83 G Ts5 Dc G) G G G (SG (q07 H G (hc52.at (j:=0) G) Ta5) G G G (DG hk26 (q0H (c:=a25.1) (d:=113) G G) G G G (SG (q01 G) G G G (SG (q02 Tu24 G Ts9 Dc G) G G G (SG (XL H Ta9) G G G ?_))))))));refine q05 H (Y0x hx31) G trivial (q04 G G G) G ?_;intro v59 M w H hle hR;replace hp0:=hp0.mono hle;replace hc52:=hc52.mono hle;obtain rfl:=hR;refine SG (q0o G G) G G G (PT G G G (MV G G (SG (q02 Tu24 G Ts9 Dc G) G G G (SG (XL H Ta9) G G G ?_))));refine SG (q0i Tu9 G) G G G (DU hk32 (q1y G G) G G G (PT G G G (MV G G (SG (q02 Tu24 G Ts9 Dc G) G G G (SG (XL H Ta9) G G G ?_)))));refine q05 H (Y0x hx34) G trivial (q04 G G G) G ?_;intro v71 M w H hle hR;replace hp0:=hp0.mono hle;replace hc52:=hc52.mono hle;obtain rfl:=hR;refine NA (TK 26 G (fun _=>q0p G G) G (q0s (fuel:=0) [27,28] G Kr (q0b [_,_,_] H G G G Ku Ts24 G Kf Kf (q00 G) ?_)));intro w H;refine AS G G (NA (q0h Kr ?_));exact MN ⟨_,_,_,_,_,G,(H.pick (L':=[.blk bk2 (.cells #[S [],S a14.2,S a15.2] 24)]) Kp),e18⟩
   refine q05 H (Y0C hx24) G trivial (q00 G) G ?_;intro v49 M w H hle hR;replace hp0:=hp0.mono hle;replace hc52:=hc52.mono hle;obtain rfl:=hR;refine NA (TK 4 G (fun _=>q01 G) G (q0v (i:=5) G Kr Kr Kr (fun _=>q01 G) (q04 G G G) G G (fun _ _=>G) (q0v (i:=6) G Kr Kr Kr (fun _=>q0t ha52 Tu77 Ts83 G G) (q04 G G G) G G (fun _ _=>G) (q0v (i:=7) G Kr Kr Kr (fun _=>q02 Tu83 G Ts5 Dc G) (q04 G G G) G G (fun _ _=>G) (q0Q (i:=8) [0] G Kr Kr Kr (q07 H G (hc52.at (j:=0) G) Ta5) (q04 G G G) G G (fun _ _=>G) (q0T (v' := .bool false) (i:=9) G Kr Kr Kr (fun _=>q0H (c:=a25.1) (d:=113) G G) (congrArg Value.bool (decide_eq_false hk26)) (q04 G G G) G G (fun _ _=>G) ?_))))));refine q0v (i:=10) G Kr Kr Kr (fun _=>q01 G) (q04 G G G) G G (fun _ _=>G) (q0v (i:=11) G Kr Kr Kr (fun _=>q02 Tu24 G Ts9 Dc G) (q04 G G G) G G (fun _ _=>G) (q0Q (i:=12) [0] G Kr Kr Kr (XL H Ta9) (q04 G G G) G G (fun _ _=>G) ?_));refine q0G (i:=0) (j:=13) Kr G G ?_ ?_
   ·
    refine ST (q0n H G Km Ta24 Ts24 Kf) G ?_;refine NA (q0s (fuel:=3) [13,14,15,16,17,18,19,20,21,22,23,24,25] G Kr (q05 H (Y0x hx31) G trivial (q04 G G G) G ?_));intro v59 M w H hle hR;replace hp0:=hp0.mono hle;replace hc52:=hc52.mono hle;obtain rfl:=hR;refine SG (q0o G G) G G G (PT G G G (MV G G (SG (q02 Tu24 G Ts9 Dc G) G G G (SG (XL H Ta9) G G G ?_))));refine SG (q0i Tu9 G) G G G (DU hk32 (q1y G G) G G G (PT G G G (MV G G (SG (q02 Tu24 G Ts9 Dc G) G G G (SG (XL H Ta9) G G G ?_)))));refine q05 H (Y0x hx34) G trivial (q04 G G G) G ?_;intro v71 M w H hle hR;replace hp0:=hp0.mono hle;replace hc52:=hc52.mono hle;obtain rfl:=hR;refine NA (TK 26 G (fun _=>q0p G G) G (q0s (fuel:=0) [27,28] G Kr (q0b [_,_,_] H G G G Ku Ts24 G Kf Kf (q00 G) ?_)));intro w H;refine AS G G (NA (q0h Kr ?_));exact MN ⟨_,_,_,_,_,G,(H.pick (L':=[.blk bk2 (.cells #[S [],S a14.2,S a15.2] 24)]) Kp),e18⟩
   refine q05 H (Y0x hx31) G trivial (q04 G G G) G ?_;intro v59 M w H hle hR;replace hp0:=hp0.mono hle;replace hc52:=hc52.mono hle;obtain rfl:=hR;refine NA (q0v (i:=14) G Kr Kr Kr (fun _=>q0o G G) (q04 G G G) G G (fun _ _=>G) (TK 15 G (fun _=>q0p G G) G (TK 16 G (fun _=>q01 G) G (q0v (i:=17) G Kr Kr Kr (fun _=>q02 Tu24 G Ts9 Dc G) (q04 G G G) G G (fun _ _=>G) (q0Q (i:=18) [0] G Kr Kr Kr (XL H Ta9) (q04 G G G) G G (fun _ _=>G) ?_)))));refine q0v (i:=19) G Kr Kr Kr (fun _=>q0i Tu9 G) (q04 G G G) G G (fun _ _=>G) (q0T (v' := .bool true) (i:=20) G Kr Kr Kr (fun _=>q1y G G) (congrArg Value.bool (decide_eq_true hk32)) (q04 G G G) G G (fun _ _=>G) (TK 21 G (fun _=>q0p G G) G (TK 22 G (fun _=>q01 G) G (q0v (i:=23) G Kr Kr Kr (fun _=>q02 Tu24 G Ts9 Dc G) (q04 G G G) G G (fun _ _=>G) (q0Q (i:=24) [0] G Kr Kr Kr (XL H Ta9) (q04 G G G) G G (fun _ _=>G) ?_)))));refine q0G (i:=0) (j:=25) Kr G G ?_ ?_
   ·
    refine ST (q0n H G Km Ta24 Ts24 Kf) G ?_;refine NA (ON 25 Kr G (q05 H (Y0x hx34) G trivial (q04 G G G) G ?_));intro v71 M w H hle hR;replace hp0:=hp0.mono hle;replace hc52:=hc52.mono hle;obtain rfl:=hR;refine NA (TK 26 G (fun _=>q0p G G) G (q0s (fuel:=0) [27,28] G Kr (q0b [_,_,_] H G G G Ku Ts24 G Kf Kf (q00 G) ?_)));intro w H;refine AS G G (NA (q0h Kr ?_));exact MN ⟨_,_,_,_,_,G,(H.pick (L':=[.blk bk2 (.cells #[S [],S a14.2,S a15.2] 24)]) Kp),e18⟩
   refine q05 H (Y0x hx34) G trivial (q04 G G G) G ?_;intro v71 M w H hle hR;replace hp0:=hp0.mono hle;replace hc52:=hc52.mono hle;obtain rfl:=hR;refine NA (TK 26 G (fun _=>q0p G G) G (q0s (fuel:=0) [0,27,28] G Kr (ST (q0n H G Km Ta24 Ts24 Kf) G ?_)));refine q0b [_,_,_] H G G G Ku Ts24 G Kf Kf (q00 G) ?_;intro w H;refine AS G G (NA (q0h Kr ?_));exact MN ⟨_,_,_,_,_,G,(H.pick (L':=[.blk bk2 (.cells #[S [],S a14.2,S a15.2] 24)]) Kp),e18⟩
  rw[if_neg hk32] at e18;refine q0G (i:=0) (j:=3) Kr G G ?_ ?_
  ·
   refine ST (q0n H G Km Ta24 Ts24 Kf) G ?_;refine NA (q0s (fuel:=3) [3,4,5,6,7,8,9,10,11,12,13,14,15,16,17,18,19,20,21,22,23,24,25] G Kr (q05 H (Y0C hx24) G trivial (q00 G) G ?_));intro v49 M w H hle hR;replace hp0:=hp0.mono hle;replace hc52:=hc52.mono hle;obtain rfl:=hR;refine MV G G (SG (q01 G) G G G (SG (q0t ha52 Tu77 Ts83 G G) G G G (SG (q02 Tu83 G Ts5 Dc G) G G G (SG (q07 H G (hc52.at (j:=0) G) Ta5) G G G (DG hk26 (q0H (c:=a25.1) (d:=113) G G) G G G (SG (q01 G) G G G (SG (q02 Tu24 G Ts9 Dc G) G G G (SG (XL H Ta9) G G G ?_))))))));refine q05 H (Y0x hx31) G trivial (q04 G G G) G ?_;intro v59 M w H hle hR;replace hp0:=hp0.mono hle;replace hc52:=hc52.mono hle;obtain rfl:=hR;refine SG (q0o G G) G G G (PT G G G (MV G G (SG (q02 Tu24 G Ts9 Dc G) G G G (SG (XL H Ta9) G G G ?_))));refine SG (q0i Tu9 G) G G G (DG hk32 (q1y G G) G G G (PT G G G (MV G G (q0d 3 G G (NA (TK 26 G (fun _=>q0o G G) G (q0s (fuel:=0) [27,28] G Kr (q0b [_,_,_] H G G G Ku Ts24 G Kf Kf (q00 G) ?_))))))));intro w H;refine AS G G (NA (q0h Kr ?_));exact MN ⟨_,_,_,_,_,G,(H.pick (L':=[.blk bk2 (.cells #[S [],S a14.2,S a15.2] 24)]) Kp),e18⟩
  refine q05 H (Y0C hx24) G trivial (q00 G) G ?_;intro v49 M w H hle hR;replace hp0:=hp0.mono hle;replace hc52:=hc52.mono hle;obtain rfl:=hR;refine NA (TK 4 G (fun _=>q01 G) G (q0v (i:=5) G Kr Kr Kr (fun _=>q01 G) (q04 G G G) G G (fun _ _=>G) (q0v (i:=6) G Kr Kr Kr (fun _=>q0t ha52 Tu77 Ts83 G G) (q04 G G G) G G (fun _ _=>G) (q0v (i:=7) G Kr Kr Kr (fun _=>q02 Tu83 G Ts5 Dc G) (q04 G G G) G G (fun _ _=>G) (q0Q (i:=8) [0] G Kr Kr Kr (q07 H G (hc52.at (j:=0) G) Ta5) (q04 G G G) G G (fun _ _=>G) (q0T (v' := .bool false) (i:=9) G Kr Kr Kr (fun _=>q0H (c:=a25.1) (d:=113) G G) (congrArg Value.bool (decide_eq_false hk26)) (q04 G G G) G G (fun _ _=>G) ?_))))));refine q0v (i:=10) G Kr Kr Kr (fun _=>q01 G) (q04 G G G) G G (fun _ _=>G) (q0v (i:=11) G Kr Kr Kr (fun _=>q02 Tu24 G Ts9 Dc G) (q04 G G G) G G (fun _ _=>G) (q0Q (i:=12) [0] G Kr Kr Kr (XL H Ta9) (q04 G G G) G G (fun _ _=>G) ?_));refine q0G (i:=0) (j:=13) Kr G G ?_ ?_
  ·
   refine ST (q0n H G Km Ta24 Ts24 Kf) G ?_;refine NA (q0s (fuel:=3) [13,14,15,16,17,18,19,20,21,22,23,24,25] G Kr (q05 H (Y0x hx31) G trivial (q04 G G G) G ?_));intro v59 M w H hle hR;replace hp0:=hp0.mono hle;replace hc52:=hc52.mono hle;obtain rfl:=hR;refine SG (q0o G G) G G G (PT G G G (MV G G (SG (q02 Tu24 G Ts9 Dc G) G G G (SG (XL H Ta9) G G G ?_))));refine SG (q0i Tu9 G) G G G (DG hk32 (q1y G G) G G G (PT G G G (MV G G (q0d 3 G G (NA (TK 26 G (fun _=>q0o G G) G (q0s (fuel:=0) [27,28] G Kr (q0b [_,_,_] H G G G Ku Ts24 G Kf Kf (q00 G) ?_))))))));intro w H;refine AS G G (NA (q0h Kr ?_));exact MN ⟨_,_,_,_,_,G,(H.pick (L':=[.blk bk2 (.cells #[S [],S a14.2,S a15.2] 24)]) Kp),e18⟩
  refine q05 H (Y0x hx31) G trivial (q04 G G G) G ?_;intro v59 M w H hle hR;replace hp0:=hp0.mono hle;replace hc52:=hc52.mono hle;obtain rfl:=hR;refine NA (q0v (i:=14) G Kr Kr Kr (fun _=>q0o G G) (q04 G G G) G G (fun _ _=>G) (TK 15 G (fun _=>q0p G G) G (TK 16 G (fun _=>q01 G) G (q0v (i:=17) G Kr Kr Kr (fun _=>q02 Tu24 G Ts9 Dc G) (q04 G G G) G G (fun _ _=>G) (q0Q (i:=18) [0] G Kr Kr Kr (XL H Ta9) (q04 G G G) G G (fun _ _=>G) ?_)))));refine q0v (i:=19) G Kr Kr Kr (fun _=>q0i Tu9 G) (q04 G G G) G G (fun _ _=>G) (q0T (v' := .bool false) (i:=20) G Kr Kr Kr (fun _=>q1y G G) (congrArg Value.bool (decide_eq_false hk32)) (q04 G G G) G G (fun _ _=>G) (TK 21 G (fun _=>q0p G G) G (TK 22 G (fun _=>q01 G) G (q1B (fuel:=5) [23,24] G Kr Kr G ?_))));refine q0G (i:=0) (j:=25) Kr G G ?_ ?_
  ·
   refine ST (q0n H G Km Ta24 Ts24 Kf) G ?_;refine NA (ON 25 Kr G (GF G G G (NA (TK 26 G (fun _=>q0o G G) G (q0s (fuel:=0) [27,28] G Kr (q0b [_,_,_] H G G G Ku Ts24 G Kf Kf (q00 G) ?_))))));intro w H;refine AS G G (NA (q0h Kr ?_));exact MN ⟨_,_,_,_,_,G,(H.pick (L':=[.blk bk2 (.cells #[S [],S a14.2,S a15.2] 24)]) Kp),e18⟩
  refine GF G G G (NA (TK 26 G (fun _=>q0o G G) G (q0s (fuel:=0) [0,27,28] G Kr (ST (q0n H G Km Ta24 Ts24 Kf) G ?_))));refine q0b [_,_,_] H G G G Ku Ts24 G Kf Kf (q00 G) ?_;intro w H;refine AS G G (NA (q0h Kr ?_));exact MN ⟨_,_,_,_,_,G,(H.pick (L':=[.blk bk2 (.cells #[S [],S a14.2,S a15.2] 24)]) Kp),e18⟩
 rintro e w ⟨s19,s20,s21,b22,M,rfl,H,q35⟩;obtain rfl:=oI q35;try dsimp only at h
 refine TN (RT ?_);obtain rfl:=oI h;exact q0w G ⟨_,G,H.loadAgg Km Ta24 Ts24 Kf⟩ G H.ext G
theorem Y4w {p0:Ls}{p1:Ls}{p2:Int}{r:Int}(h:R_Find p0 p1 p2=some r):Ct Tryz.prog 117 [S p0,S p1,I p2] (fun M=>True) (fun v M=>v=I r):=by
 refine Ct.of Tryz.func117 (enters Tryz.func117 Kr G) G G G ?_;intro w0 M0 H hp;unfold R_Find at h;refine SQ (RG (AS G G (NL (TN (SQ (SQ (RG (MV G G (AS G G (NL (TN ?_)))))))))));obtain⟨o1,e2,h⟩:=bnd h;refine q0j (fun e w =>∃  (M:Mem),e=[]∧St w0 M0 M [] w∧some (.inl ())=some o1) [] ?_ ?_ (trivial)
 ·
  refine BL (q0F (fun m e w =>∃(n3:Int) (M:Mem),e=[(0,S p0),(1,S p1),(7,I n3)]∧St w0 M0 M [] w∧Y39 p0 p1 m n3=some o1) FU [(0,_),(1,_),(7,_)] ⟨rfl,rfl,rfl,trivial⟩ ⟨_,_,rfl,H,e2⟩ ?_);rintro m4 e w ⟨n3,M,rfl,H,e2⟩;rcases m4 with _|m4
  · rw[Y39] at e2;cases e2
  rw[Y39] at e2;refine SQ (SQ ?_);obtain⟨n5,hxn5,e2⟩:=bnd e2;refine RG (MV G G (MV G G (ST (q0i Tu9 G) G (ST (q0l G G hxn5) G (MV G G (ST (q0i Tu9 G) G (ST (q1y G G) G (NL (TN ?_)))))))));refine CB (p:=n5≤(p0.length:Int)) G (fun hk6=>?_) fun hk6=>?_
  ·
   rw[if_pos hk6] at e2;refine SK (TN (SQ (BL (SQ ?_))));obtain⟨n7,hxn7,e2⟩:=bnd e2;obtain⟨s8,hxs8,e2⟩:=bnd e2;refine RG (MV G G (MV G G (MV G G (MV G G (ST (q0i Tu9 G) G (ST (q0l G G hxn7) G (ST (q1W Tu9 G G G hxs8) G (MV G G (ST (q0L G G) G (NL (TN ?_)))))))))));refine CB (p:=s8=p1) G (fun hk9=>?_) fun hk9=>?_
   ·
    rw[if_pos hk9] at e2;refine SQ (RG (MV G G (AS G G (NL (TN (RT ?_))))));obtain rfl:=oI e2;try dsimp only at h
    obtain rfl:=oI h;exact q08 G G H.ext G
   rw[if_neg hk9] at e2;refine SK (IB (TN ?_));obtain⟨n10,hxn10,e2⟩:=bnd e2;refine RG (MV G G (ST (q0l G G hxn10) G (AS G G (NL ?_))));exact AG m4 ⟨_,_,G,H,e2⟩ (l0b _)
  rw[if_neg hk6] at e2;refine q0r (q06 (q06 (q0f ?_)));exact MN ⟨_,G,H,e2⟩
 rintro e w ⟨M,rfl,H,q11⟩;obtain rfl:=oI q11;try dsimp only at h
 refine TN (SQ (RG (AS G G (NL (TN (RT ?_))))));obtain rfl:=oI h;exact q08 G G H.ext G
theorem Y4x {p0:UInt8}{r:Int}(h:R_Hex p0=some r):Ct Tryz.prog 159 [encB p0] (fun M=>True) (fun v M=>v=I r):=by
 refine Ct.of Tryz.func159 (enters Tryz.func159 Kr G) G G G ?_;intro w0 M0 H hp;unfold R_Hex at h;refine SQ (RG (AS G G (NL (TN (SQ (SQ (RG (AS G G (NL (TN ?_))))))))));obtain⟨o1,e2,h⟩:=bnd h;refine q0j (fun e w =>∃  (M:Mem),e=[]∧St w0 M0 M [] w∧some (.inl ())=some o1) [] ?_ ?_ (trivial)
 ·
  refine BL (q0F (fun m e w =>∃(n3:Int) (M:Mem),e=[(0,encB p0),(3,I n3)]∧St w0 M0 M [] w∧Y4s p0 m n3=some o1) FU [(0,_),(3,_)] ⟨rfl,rfl,trivial⟩ ⟨_,_,rfl,H,e2⟩ ?_);rintro m4 e w ⟨n3,M,rfl,H,e2⟩;rcases m4 with _|m4
  · rw[Y4s] at e2;cases e2
  rw[Y4s] at e2;refine SQ (SQ (RG (MV G G (ST (q0q G G) G (NL (TN ?_))))));refine CB (p:=n3<(16:Int)) G (fun hk5=>?_) fun hk5=>?_
  ·
   rw[if_pos hk5] at e2;refine SK (TN (SQ (BL (SQ ?_))));obtain⟨o6,e7,e2⟩:=bnd e2;refine q0j (fun e w =>∃(b8:Bool) (M:Mem),e=[(0,encB p0),(3,I n3),(18,Value.bool b8)]∧St w0 M0 M [] w∧some b8=some o6) [] ?_ ?_ (trivial)
   ·
    obtain⟨c9,hxc9,e7⟩:=bnd e7;refine RG (MV G G (ST (q0x Tu9 G G hxc9) G (MV G G ?_)));by_cases hk10:c9=p0
    ·
     rw[if_pos hk10] at e7;refine DT hk10 (q0H (c:=c9) (d:=p0) G G) G (MV G G (q0d 5 G G (PT G G G (NL ?_))));exact MN ⟨_,_,G,H,e7⟩
    rw[if_neg hk10] at e7;obtain⟨s11,hx12,e7⟩:=bnd e7;obtain⟨c13,hxc13,e7⟩:=bnd e7;refine DF hk10 (q0H (c:=c9) (d:=p0) G G) G (MV G G (q05 H (Y4A hx12) G trivial (q04 G G G) G ?_));intro v13 M w H hle hR;obtain rfl:=hR;refine SG (q01 G) G G G (SG (q0x Tu9 G G hxc13) G G G (SG (q01 G) G G G (SG (q0H (c:=c13) (d:=p0) G G) G G G (PF G G G (NL ?_)))));exact MN ⟨_,_,G,H,e7⟩
   rintro e w ⟨b8,M,rfl,H,q14⟩;obtain rfl:=oI q14;refine TN ?_;refine q0m G (fun hk15=>?_) (fun hk15=>?_)
   ·
    subst hk15;rw[if_pos rfl] at e2;refine SQ (RG (MV G G (AS G G (NL (TN (RT ?_))))));obtain rfl:=oI e2;try dsimp only at h
    obtain rfl:=oI h;exact q08 G G H.ext G
   subst hk15;rw[if_neg l06] at e2;refine SK (IB (TN ?_));obtain⟨n16,hxn16,e2⟩:=bnd e2;refine RG (MV G G (ST (q0l G G hxn16) G (AS G G (NL ?_))));exact AG m4 ⟨_,_,G,H,e2⟩ (l0b _)
  rw[if_neg hk5] at e2;refine q0r (q06 (q06 (q0f ?_)));exact MN ⟨_,G,H,e2⟩
 rintro e w ⟨M,rfl,H,q17⟩;obtain rfl:=oI q17;try dsimp only at h
 refine TN (SQ (RG (AS G G (NL (TN (RT ?_))))));obtain rfl:=oI h;exact q08 G G H.ext G
end Go.Proofs.YtkmjdamkifbddaaGreatDoor
end
section
namespace Go.Proofs.YtkmjdamkifbddaaGreatDoor
open Go Go.RowKit Go.Ph Go.Ph.Pl Go.Ph.Pf
set_option maxHeartbeats 4000000 in
theorem Y4T {p0:Ls} {p1:Int} {r:(Ls × Int)} (h:Y4c p0 p1=some r):Ct Tryz.prog 126 [S p0,I p1] (fun M=>True) (fun v M=>v=Value.tuple #[S r.1,I r.2]):=by
 refine Ct.of Tryz.func126 (enters Tryz.func126 Kr G) G G G ?_;intro w0 M0 H hp;unfold Y4c at h;refine SQ (RG (AS G G (AS G G (NL (TN (SQ (SQ ?_)))))));obtain⟨n1,hx2,h⟩:=bnd h;refine RG (MV G G (MV G G (q05 H (Y4w hx2) G trivial (q00 G) G ?_)));intro v17 M w H hle hR;obtain rfl:=hR;refine MV G G (ST (q1n G G) G (NL (TN ?_)));refine q0m G (fun hk3=>?_) (fun hk3=>?_)
 ·
  replace hk3 :¬(n1=p1):=of_not_decide hk3;rw[if_neg hk3] at h;refine SQ (RG (AS G G (AS G G (NL (TN (RT ?_))))));obtain rfl:=oI h;exact q0w G G G H.ext G
 replace hk3:n1=p1:=of_not_decide' hk3;rw[if_pos hk3] at h;refine SK (TN (SQ ?_));obtain⟨n4,hxn4,h⟩:=bnd h;obtain⟨n5,hx6,h⟩:=bnd h;refine RG (MV G G (MV G G (ST (q0l G G hxn4) G (q05 H (Y4w hx6) G trivial (q00 G) G ?_))));intro v23 M w H hle hR;obtain rfl:=hR;refine AS G G (NL (TN (SQ (SQ (RG (MV G G (ST (q0q G G) G (NL (TN ?_)))))))));refine CB (p:=n5<(0:Int)) G (fun hk7=>?_) fun hk7=>?_
 ·
  rw[if_pos hk7] at h;refine SQ (RG (AS G G (AS G G (NL (TN (RT ?_))))));obtain rfl:=oI h;exact q0w G G G H.ext G
 rw[if_neg hk7] at h;refine SK (TN (SQ ?_));obtain⟨n8,hxn8,h⟩:=bnd h;obtain⟨n9,hx10,h⟩:=bnd h;refine RG (MV G G (MV G G (ST (q0l G G hxn8) G (q05 H (Y4w hx10) G trivial (q00 G) G ?_))));intro v29 M w H hle hR;obtain rfl:=hR;refine AS G G (NL (TN (SQ (SQ (RG (MV G G (ST (q0q G G) G (NL (TN ?_)))))))));refine CB (p:=n9<(0:Int)) G (fun hk11=>?_) fun hk11=>?_
 ·
  rw[if_pos hk11] at h;refine SQ (RG (AS G G (AS G G (NL (TN (RT ?_))))));obtain rfl:=oI h;exact q0w G G G H.ext G
 rw[if_neg hk11] at h;refine SK (TN (SQ ?_));obtain⟨n12,hxn12,h⟩:=bnd h;obtain⟨n13,hx14,h⟩:=bnd h;refine RG (MV G G (MV G G (ST (q0l G G hxn12) G (q05 H (Y4w hx14) G trivial (q00 G) G ?_))));intro v35 M w H hle hR;obtain rfl:=hR;refine AS G G (NL (TN (SQ (SQ ?_))));obtain⟨o15,e16,h⟩:=bnd h;refine q0j (fun e w =>∃(b17:Bool) (M:Mem),e=[(0,S p0),(1,I p1),(6,I n5),(7,I n9),(8,I n13),(58,Value.bool b17)]∧St w0 M0 M [] w∧some b17=some o15) [] ?_ ?_ (trivial)
 ·
  by_cases hk18:n13<(0:Int)
  ·
   rw[if_pos hk18] at e16;refine RG (MV G G (DT hk18 (q0q G G) G (MV G G (q0d 5 G G (PT G G G (MV G G (q0d 5 G G (PT G G G (MV G G (q0d 5 G G (PT G G G (NL ?_))))))))))));exact MN ⟨_,_,G,H,e16⟩
  rw[if_neg hk18] at e16;obtain⟨n19,hxn19,e16⟩:=bnd e16;refine RG (MV G G (DF hk18 (q0q G G) G ?_));by_cases hk20:(p0.length:Int)≤n19
  ·
   rw[if_pos hk20] at e16;refine MV G G (SG (q01 G) G G G (SG (q0l G G hxn19) G G G (SG (q01 G) G G G (SG (q0i Tu9 G) G G G (DU hk20 (q0X G G) G G G (PF G G G (MV G G (q0d 5 G G (PT G G G (MV G G (q0d 5 G G (PT G G G (NL ?_)))))))))))));exact MN ⟨_,_,G,H,e16⟩
  rw[if_neg hk20] at e16;obtain⟨n21,hxn21,e16⟩:=bnd e16;obtain⟨c22,hxc22,e16⟩:=bnd e16;by_cases hk23:c22=61
  ·
   rw[if_pos hk23] at e16;obtain⟨n24,hxn24,e16⟩:=bnd e16;obtain⟨n25,hxn25,e16⟩:=bnd e16;refine MV G G (SG (q01 G) G G G (SG (q0l G G hxn19) G G G (SG (q01 G) G G G (SG (q0i Tu9 G) G G G (DG hk20 (q0X G G) G G G (PF G G G (MV G G (SG (q01 G) G G G (SG (q01 G) G G G (SG (q0l G G hxn21) G G G (SG (q0x Tu9 G G hxc22) G G G (q09 (v' := .bool false) (q1E (c:=c22) (d:=61) G G) (congrArg Value.bool (by rw[decide_eq_true hk23];rfl)) (q04 G G G) G G ?_))))))))))));refine PF G G G (MV G G (SG (q01 G) G G G (SG (q0l G G hxn24) G G G (SG (q01 G) G G G (SG (q1I G G hxn25) G G G (SG (q0J G G) G G G (PF G G G (NL ?_))))))));exact MN ⟨_,_,G,H,e16⟩
  rw[if_neg hk23] at e16;refine MV G G (SG (q01 G) G G G (SG (q0l G G hxn19) G G G (SG (q01 G) G G G (SG (q0i Tu9 G) G G G (DG hk20 (q0X G G) G G G (PF G G G (MV G G (SG (q01 G) G G G (SG (q01 G) G G G (SG (q0l G G hxn21) G G G (SG (q0x Tu9 G G hxc22) G G G (q09 (v' := .bool true) (q1E (c:=c22) (d:=61) G G) (congrArg Value.bool (by rw[decide_eq_false hk23];rfl)) (q04 G G G) G G ?_))))))))))));refine PF G G G (MV G G (q0d 5 G G (PT G G G (NL ?_))));exact MN ⟨_,_,G,H,e16⟩
 rintro e w ⟨b17,M,rfl,H,q26⟩;obtain rfl:=oI q26;refine TN ?_;refine q0m G (fun hk27=>?_) (fun hk27=>?_)
 ·
  subst hk27;rw[if_pos rfl] at h;refine SQ (RG (AS G G (AS G G (NL (TN (RT ?_))))));obtain rfl:=oI h;exact q0w G G G H.ext G
 subst hk27;rw[if_neg l06] at h;refine SK (TN (SQ ?_));obtain⟨n28,hxn28,h⟩:=bnd h;obtain⟨s29,hxs29,h⟩:=bnd h;obtain⟨n30,hx31,h⟩:=bnd h;refine RG (MV G G (MV G G (ST (q0l G G hxn28) G (MV G G (ST (q1W Tu9 G G G hxs29) G (q05 H (Y5k hx31) G trivial (q00 G) G ?_))))));intro v64 M w H hle hR;obtain rfl:=hR;refine AS G G (NL (TN (SQ ?_)));obtain⟨n32,hxn32,h⟩:=bnd h;obtain⟨s33,hxs33,h⟩:=bnd h;obtain⟨s34,hx35,h⟩:=bnd h;refine RG (MV G G (MV G G (ST (q0l G G hxn32) G (MV G G (ST (q1W Tu9 G G G hxs33) G (q05 H (Y4A hx35) G trivial (q00 G) G ?_))))));intro v70 M w H hle hR;obtain rfl:=hR;refine AS G G (NL (TN (SQ ?_)));obtain⟨n36,hxn36,h⟩:=bnd h;obtain⟨s37,hxs37,h⟩:=bnd h;refine RG (MV G G (MV G G (ST (q0l G G hxn36) G (MV G G (ST (q1W Tu9 G G G hxs37) G (AS G G (NL (TN (SQ (SQ (RG (MV G G (ST (q0q G G) G (NL (TN ?_)))))))))))))));refine CB (p:=n30<(0:Int)) G (fun hk38=>?_) fun hk38=>?_
 ·
  rw[if_pos hk38] at h;refine SQ (RG (AS G G (AS G G (NL (TN (RT ?_))))));obtain rfl:=oI h;exact q0w G G G H.ext G
 rw[if_neg hk38] at h;refine SK (TN (SQ (RG (AS G G (NL (TN (SQ (SQ (RG (MV G G (NL (TN (BL (SQ (RG (ST (q0L G G) G (AS G G (NL (TN ?_)))))))))))))))))));obtain⟨o39,e40,h⟩:=bnd h;refine q0j (fun e w =>∃(l41:Ls) (v42:Value) (M:Mem),e=[(1,I p1),(8,I n13),(9,I n30),(12,v42)]∧St w0 M0 M [] w∧Sl M encB v42 l41∧some (.inl l41)=some o39) [] ?_ ?_ (trivial)
 ·
  refine CB (p:=s34=[98]) G (fun hk44=>?_) fun hk44=>?_
  ·
   rw[if_pos hk44] at e40;refine SQ ?_;obtain⟨l45,hxl45,e40⟩:=bnd e40;obtain⟨l46,hx47,e40⟩:=bnd e40;refine RG (MV G G (WR.bytesC H Tu9 Tu88 Tu5 G hxl45 (q00 G) G ?_));intro v82 M w H hle hs82;refine q05 H (Y5b hx47) G (hs82) (q00 G) G ?_;intro v83 M w H hle hR;replace hs82:=hs82.mono hle;have f83_0:=hR;refine AS G G (NL (TN (SQ ?_)));obtain⟨s48,hx49,e40⟩:=bnd e40;refine RG (MV G G (q05 H (Y5a hx49) G (f83_0) (q00 G) G ?_));intro v85 M w H hle hR;replace f83_0:=f83_0.mono hle;replace hs82:=hs82.mono hle;obtain rfl:=hR;refine MV G G (ST (q1A G G) G (NL (TN ?_)));refine q0m G (fun hk50=>?_) (fun hk50=>?_)
   ·
    replace hk50 :¬(s48=s37):=of_not_decide hk50;rw[if_neg hk50] at e40;refine SQ (RG (AS G G (AS G G (NL (TN (RT ?_))))));obtain rfl:=oI e40;try dsimp only at h
    obtain rfl:=oI h;exact q0w G G G H.ext G
   replace hk50:s48=s37:=of_not_decide' hk50;rw[if_pos hk50] at e40;refine SK ?_;exact MN ⟨_,_,_,G,H,f83_0,e40⟩
  rw[if_neg hk44] at e40;refine SQ (RG (ST (q0L G G) G (AS G G (NL (TN ?_)))));refine CB (p:=s34=[113]) G (fun hk51=>?_) fun hk51=>?_
  ·
   rw[if_pos hk51] at e40;refine SQ (RG (AS G G (NL (TN ?_))));obtain⟨o52,e53,e40⟩:=bnd e40;refine q0j (fun e w =>∃(l55:Ls) (v56:Value) (M:Mem),e=[(1,I p1),(8,I n13),(9,I n30),(12,v56)]∧St w0 M0 M [RowI 5 encB v56 l55] w∧some (.inl l55)=some o52) [] ?_ ?_ (trivial)
   ·
    refine BL ?_;replace H:=H.newRow 5 encB;refine q0F (fun m e w =>∃(l58:Ls) (v59:Value) (n60:Int) (M:Mem),e=[(1,I p1),(8,I n13),(9,I n30),(11,S s37),(12,v59),(13,I n60)]∧St w0 M0 M [RowI 5 encB v59 l58] w∧Y1K s37 m l58 n60=some o52) FU [(1,_),(8,_),(9,_),(11,_),(12,_),(13,_)] ⟨rfl,rfl,rfl,rfl,rfl,rfl,trivial⟩ ⟨_,_,_,_,rfl,H,e53⟩ ?_;rintro m61 e w ⟨l58,v59,n60,M,rfl,H,e53⟩;rcases m61 with _|m61
    · rw[Y1K] at e53;cases e53
    rw[Y1K] at e53;refine SQ (SQ (RG (MV G G (MV G G (ST (q0i Tu9 G) G (ST (q0q G G) G (NL (TN ?_))))))));refine CB (p:=n60<(s37.length:Int)) G (fun hk63=>?_) fun hk63=>?_
    ·
     rw[if_pos hk63] at e53;refine SK (TN (SQ (BL (SQ ?_))));obtain⟨c64,hxc64,e53⟩:=bnd e53;refine RG (MV G G (MV G G (ST (q0x Tu9 G G hxc64) G (AS G G (NL (TN (BL (SQ (RG (MV G G (ST (q0H (c:=c64) (d:=95) G G) G (AS G G (NL (TN ?_))))))))))))));refine CB (p:=c64=95) G (fun hk65=>?_) fun hk65=>?_
     ·
      rw[if_pos hk65] at e53;obtain⟨l66,hxl66,e53⟩:=bnd e53;refine RG (MV G G (q0N (enc:=encB) xty88 ([32]:Ls) H G Kf (fun _=>G) G G (q00 G) G ?_));intro v107 M w H hle hs107;refine q1N (l:=l58) xty88 G (fun _=>G) H G (fun _=>by repeat first|exact .head|apply Upd.tail) G (hs107) hxl66 (q00 G) G ?_;intro v108 w H;refine AS G G (NL (IB (IB (TN ?_))));obtain⟨n67,hxn67,e53⟩:=bnd e53;refine RG (MV G G (ST (q0l G G hxn67) G (AS G G (NL ?_))));exact AG m61 ⟨_,_,_,_,G,H,e53⟩ (l0b _)
     rw[if_neg hk65] at e53;refine SQ ?_;obtain⟨o68,e69,e53⟩:=bnd e53;refine q0j (fun e w =>∃(b70:Bool) (M:Mem),e=[(1,I p1),(8,I n13),(9,I n30),(11,S s37),(12,v59),(13,I n60),(14,encB c64),(109,Value.bool b70)]∧St w0 M0 M [RowI 5 encB v59 l58] w∧some b70=some o68) [] ?_ ?_ (trivial)
     ·
      by_cases hk71:c64=61
      ·
       rw[if_pos hk71] at e69;obtain⟨n72,hxn72,e69⟩:=bnd e69;refine RG (MV G G (DT hk71 (q0H (c:=c64) (d:=61) G G) G ?_));by_cases hk73:n72<(s37.length:Int)
       ·
        rw[if_pos hk73] at e69;obtain⟨n74,hxn74,e69⟩:=bnd e69;obtain⟨c75,hxc75,e69⟩:=bnd e69;obtain⟨n76,hx77,e69⟩:=bnd e69;by_cases hk78:(0:Int)≤n76
        ·
         rw[if_pos hk78] at e69;obtain⟨n79,hxn79,e69⟩:=bnd e69;obtain⟨c80,hxc80,e69⟩:=bnd e69;obtain⟨n81,hx82,e69⟩:=bnd e69;refine MV G G (SG (q01 G) G G G (SG (q0l G G hxn72) G G G (SG (q01 G) G G G (SG (q0i Tu9 G) G G G (DU hk73 (q0q G G) G G G (PT G G G (MV G G (SG (q01 G) G G G (SG (q01 G) G G G (SG (q0l G G hxn74) G G G (SG (q0x Tu9 G G hxc75) G G G (q05 H (Y4x hx77) G trivial (q04 G G G) G ?_))))))))))));intro v124 M w H hle hR;obtain rfl:=hR;refine DU hk78 (q0X G G) G G G (PT G G G (MV G G (SG (q01 G) G G G (SG (q01 G) G G G (SG (q0l G G hxn79) G G G (SG (q0x Tu9 G G hxc80) G G G (q05 H (Y4x hx82) G trivial (q04 G G G) G ?_)))))));intro v132 M w H hle hR;obtain rfl:=hR;refine SG (q0X G G) G G G (PT G G G (AS G G (NL ?_)));exact MN ⟨_,_,G,H,e69⟩
        rw[if_neg hk78] at e69;refine MV G G (SG (q01 G) G G G (SG (q0l G G hxn72) G G G (SG (q01 G) G G G (SG (q0i Tu9 G) G G G (DU hk73 (q0q G G) G G G (PT G G G (MV G G (SG (q01 G) G G G (SG (q01 G) G G G (SG (q0l G G hxn74) G G G (SG (q0x Tu9 G G hxc75) G G G (q05 H (Y4x hx77) G trivial (q04 G G G) G ?_))))))))))));intro v124 M w H hle hR;obtain rfl:=hR;refine DG hk78 (q0X G G) G G G (PT G G G (MV G G (q0d 6 G G (PF G G G (AS G G (NL ?_))))));exact MN ⟨_,_,G,H,e69⟩
       rw[if_neg hk73] at e69;refine MV G G (SG (q01 G) G G G (SG (q0l G G hxn72) G G G (SG (q01 G) G G G (SG (q0i Tu9 G) G G G (DG hk73 (q0q G G) G G G (PT G G G (MV G G (q0d 6 G G (PF G G G (MV G G (q0d 6 G G (PF G G G (AS G G (NL ?_))))))))))))));exact MN ⟨_,_,G,H,e69⟩
      rw[if_neg hk71] at e69;refine RG (MV G G (DF hk71 (q0H (c:=c64) (d:=61) G G) G (MV G G (q0d 5 G G (PF G G G (MV G G (q0d 6 G G (PF G G G (MV G G (q0d 6 G G (PF G G G (AS G G (NL ?_)))))))))))));exact MN ⟨_,_,G,H,e69⟩
     rintro e w ⟨b70,M,rfl,H,q83⟩;obtain rfl:=oI q83;refine TN ?_;refine q0m G (fun hk84=>?_) (fun hk84=>?_)
     ·
      subst hk84;rw[if_pos rfl] at e53;refine SQ ?_;obtain⟨n85,hxn85,e53⟩:=bnd e53;obtain⟨c86,hxc86,e53⟩:=bnd e53;obtain⟨n87,hx88,e53⟩:=bnd e53;obtain⟨n89,hxn89,e53⟩:=bnd e53;obtain⟨n90,hxn90,e53⟩:=bnd e53;obtain⟨c91,hxc91,e53⟩:=bnd e53;obtain⟨n92,hx93,e53⟩:=bnd e53;obtain⟨n94,hxn94,e53⟩:=bnd e53;obtain⟨l95,hxl95,e53⟩:=bnd e53;refine q0E (m:=17) G G H ?_;intro w H;refine TK 0 G (fun _=>q01 G) G (TK 1 G (fun _=>q01 G) G (TK 2 G (fun _=>q01 G) G (TK 3 G (fun _=>q0l G G hxn85) G (TK 4 G (fun _=>q0x Tu9 G G hxc86) G (TK 7 G (fun _=>q01 G) G (TK 8 G (fun _=>q01 G) G ?_))))));refine TK 9 G (fun _=>q0l G G hxn90) G (TK 10 G (fun _=>q0x Tu9 G G hxc91) G (ON 5 Kr G (q05 H (Y4x hx88) G trivial (q00 G) G ?_)));intro v140 M w H hle hR;obtain rfl:=hR;refine NA (TK 6 G (fun _=>Ex.mulC G G hxn89) G (q0s (fuel:=0) [11,12,13,14,15,16] G Kr (q05 H (Y4x hx93) G trivial (q00 G) G ?_)));intro v146 M w H hle hR;obtain rfl:=hR;refine ST (q0l G G hxn94) G (ST (Ex.convU8C Tu3 Tu5 G) G (q0N (enc:=encB) xty88 ([(ub8 n94)]:Ls) H G Kf (fun _=>G) G G (q00 G) G ?_));intro v149 M w H hle hs149;refine q1N (l:=l58) xty88 G (fun _=>G) H G (fun _=>by repeat first|exact .head|apply Upd.tail) G (hs149) hxl95 (q00 G) G ?_;intro v150 w H;refine AS G G (NA (q0h Kr (TN ?_)));obtain⟨n96,hxn96,e53⟩:=bnd e53;refine RG (MV G G (ST (q0l G G hxn96) G (AS G G (NL (IB (IB (TN ?_)))))));obtain⟨n97,hxn97,e53⟩:=bnd e53;refine RG (MV G G (ST (q0l G G hxn97) G (AS G G (NL ?_))));exact AG m61 ⟨_,_,_,_,G,H,e53⟩ (l0b _)
     subst hk84;rw[if_neg l06] at e53;refine SQ ?_;obtain⟨o98,e99,e53⟩:=bnd e53;refine q0j (fun e w =>∃(b100:Bool) (M:Mem),e=[(1,I p1),(8,I n13),(9,I n30),(11,S s37),(12,v59),(13,I n60),(14,encB c64),(153,Value.bool b100)]∧St w0 M0 M [RowI 5 encB v59 l58] w∧some b100=some o98) [] ?_ ?_ (trivial)
     ·
      by_cases hk101:c64=61
      ·
       rw[if_pos hk101] at e99;refine RG (MV G G (DT hk101 (q0H (c:=c64) (d:=61) G G) G (MV G G (q0d 4 G G (PT G G G (AS G G (NL ?_)))))));exact MN ⟨_,_,G,H,e99⟩
      rw[if_neg hk101] at e99;obtain⟨b102,hx103,e99⟩:=bnd e99;refine RG (MV G G (DF hk101 (q0H (c:=c64) (d:=61) G G) G (MV G G (SG (q01 G) G G G (SG (q1r Tu5 Tu3 G) G G G (q05 H (R_In_ct hx103) G trivial (q04 G G G) G ?_))))));intro v159 M w H hle hR;obtain rfl:=hR;refine SG (q0P G) G G G (PF G G G (AS G G (NL ?_)));exact MN ⟨_,_,G,H,e99⟩
     rintro e w ⟨b100,M,rfl,H,q104⟩;obtain rfl:=oI q104;refine TN ?_;refine q0m G (fun hk105=>?_) (fun hk105=>?_)
     ·
      subst hk105;rw[if_pos rfl] at e53;refine SQ (RG (AS G G (AS G G (NL (TN (RT ?_))))));obtain rfl:=oI e53;try dsimp only at e40
      obtain rfl:=oI e40;try dsimp only at h
      obtain rfl:=oI h;exact q0w G G G H.ext G
     subst hk105;rw[if_neg l06] at e53;obtain⟨l106,hxl106,e53⟩:=bnd e53;refine RG (MV G G (MV G G (q0N (enc:=encB) xty88 ([c64]:Ls) H G Kf (fun _=>G) G G (q00 G) G ?_)));intro v101 M w H hle hs101;refine q1N (l:=l58) xty88 G (fun _=>G) H G (fun _=>by repeat first|exact .head|apply Upd.tail) G (hs101) hxl106 (q00 G) G ?_;intro v102 w H;refine AS G G (NL (IB (IB (TN ?_))));obtain⟨n107,hxn107,e53⟩:=bnd e53;refine RG (MV G G (ST (q0l G G hxn107) G (AS G G (NL ?_))));exact AG m61 ⟨_,_,_,_,G,H,e53⟩ (l0b _)
    rw[if_neg hk63] at e53;refine q0r (q06 (q06 (q0f ?_)));exact MN ⟨_,_,_,G,H,e53⟩
   rintro e w ⟨l55,v56,M,rfl,H,q108⟩;obtain rfl:=oI q108;try dsimp only at e40
   obtain⟨M,hle,hs109,H⟩:=H.freezeRow (v:=v56) (enc:=encB) (t:=5) Kv;exact MN ⟨_,_,_,G,H,hs109,e40⟩
  rw[if_neg hk51] at e40;refine SQ (RG (AS G G (AS G G (NL (TN (RT ?_))))));obtain rfl:=oI e40;try dsimp only at h
  obtain rfl:=oI h;exact q0w G G G H.ext G
 rintro e w ⟨l41,v42,M,rfl,H,hs43,q112⟩;obtain rfl:=oI q112;try dsimp only at h
 refine IB (TN (SQ ?_));obtain⟨s113,hx114,h⟩:=bnd h;obtain⟨n115,hxn115,h⟩:=bnd h;obtain⟨n116,hxn116,h⟩:=bnd h;refine RG (MV G G (MV G G (q05 H (Y59 hx114) G (hs43) (q00 G) G ?_)));intro v164 M w H hle hR;replace hs43:=hs43.mono hle;obtain rfl:=hR;refine MV G G (ST (q0l G G hxn115) G (MV G G (ST (q1I G G hxn116) G (AS G G (AS G G (NL (TN (RT ?_))))))));obtain rfl:=oI h;exact q0w G G G H.ext G
theorem Y56 {p0:Ls}{r:Ls}(h:Y3p p0=some r):Ct Tryz.prog 91 [S p0] (fun M=>True) (fun v M=>v=S r):=by
 refine Ct.of Tryz.func91 (enters Tryz.func91 Kr G) G G G ?_;intro w0 M0 H hp;unfold Y3p at h;refine SQ (RG (AS G G (NL (TN (SQ (RG (AS G G (NL (TN (SQ (SQ (RG (AS G G (NL (TN ?_)))))))))))))));obtain⟨o1,e2,h⟩:=bnd h;refine q0j (fun e w =>∃(s3:Ls) (M:Mem),e=[(3,S s3)]∧St w0 M0 M [] w∧some s3=some o1) [] ?_ ?_ (trivial)
 ·
  refine BL (q0F (fun m e w =>∃(s4:Ls) (n5:Int) (M:Mem),e=[(0,S p0),(3,S s4),(4,I n5)]∧St w0 M0 M [] w∧Y11 p0 m s4 n5=some o1) FU [(0,_),(3,_),(4,_)] ⟨rfl,rfl,rfl,trivial⟩ ⟨_,_,_,rfl,H,e2⟩ ?_);rintro m6 e w ⟨s4,n5,M,rfl,H,e2⟩;rcases m6 with _|m6
  · rw[Y11] at e2;cases e2
  rw[Y11] at e2;refine SQ (SQ (RG (MV G G (MV G G (ST (q0i Tu9 G) G (ST (q0q G G) G (NL (TN ?_))))))));refine CB (p:=n5<(p0.length:Int)) G (fun hk7=>?_) fun hk7=>?_
  ·
   rw[if_pos hk7] at e2;refine SK (TN (BL (SQ ?_)));obtain⟨⟨s8,n9⟩,hx10,e2⟩:=bnd e2;try dsimp only at e2
   refine RG (MV G G (MV G G (q05 H (Y4T hx10) G trivial (q00 G) G ?_)));intro v17 M w H hle hR;try dsimp only at hR
   obtain rfl:=hR;refine MV G G (ST (q0c G G) G (ST (q0c G G) G (AS G G (AS G G (NL (TN (SQ (SQ (RG (MV G G (ST (q0e G G) G (NL (TN ?_)))))))))))));refine CB (p:=n9=(0:Int)) G (fun hk11=>?_) fun hk11=>?_
   ·
    rw[if_pos hk11] at e2;refine SQ ?_;obtain⟨n12,hxn12,e2⟩:=bnd e2;obtain⟨s13,hxs13,e2⟩:=bnd e2;obtain⟨s14,hxs14,e2⟩:=bnd e2;refine RG (MV G G (MV G G (MV G G (MV G G (ST (q0l G G hxn12) G (ST (q1W Tu9 G G G hxs13) G (ST (q0S G G hxs14) G (AS G G (NL (TN (SQ ?_)))))))))));obtain⟨n15,hxn15,e2⟩:=bnd e2;refine RG (MV G G (ST (q0l G G hxn15) G (AS G G (NL (TN (q0r (q06 (q0f ?_))))))));exact AG m6 ⟨_,_,_,G,H,e2⟩ (l0b _)
   rw[if_neg hk11] at e2;refine SK (TN (SQ ?_));obtain⟨s16,hxs16,e2⟩:=bnd e2;refine RG (MV G G (MV G G (ST (q0S G G hxs16) G (AS G G (NL (TN (SQ ?_)))))));obtain⟨n17,hxn17,e2⟩:=bnd e2;refine RG (MV G G (MV G G (ST (q0l G G hxn17) G (AS G G (NL (TN (SQ (RG (MV G G (AS G G (NL (TN (SQ ?_)))))))))))));obtain⟨o18,e19,e2⟩:=bnd e2;refine q0j (fun e w =>∃(n20:Int) (M:Mem),e=[(0,S p0),(3,S s16),(4,I n17),(7,I n20)]∧St w0 M0 M [] w∧some n20=some o18) [] ?_ ?_ (trivial)
   ·
    refine BL (q0F (fun m e w =>∃(n21:Int) (M:Mem),e=[(0,S p0),(3,S s16),(4,I n17),(7,I n21)]∧St w0 M0 M [] w∧Y1x p0 m n21=some o18) FU [(0,_),(3,_),(4,_),(7,_)] ⟨rfl,rfl,rfl,rfl,trivial⟩ ⟨_,_,rfl,H,e19⟩ ?_);rintro m22 e w ⟨n21,M,rfl,H,e19⟩;rcases m22 with _|m22
    · rw[Y1x] at e19;cases e19
    rw[Y1x] at e19;refine SQ (SQ ?_);obtain⟨o23,e24,e19⟩:=bnd e19;refine q0j (fun e w =>∃(b25:Bool) (M:Mem),e=[(0,S p0),(3,S s16),(4,I n17),(7,I n21),(47,Value.bool b25)]∧St w0 M0 M [] w∧some b25=some o23) [] ?_ ?_ (trivial)
    ·
     refine RG (MV G G (MV G G (ST (q0i Tu9 G) G ?_)));by_cases hk26:n21<(p0.length:Int)
     ·
      rw[if_pos hk26] at e24;obtain⟨c27,hxc27,e24⟩:=bnd e24;obtain⟨b28,hx29,e24⟩:=bnd e24;refine DT hk26 (q0q G G) G (MV G G (SG (q01 G) G G G (SG (q01 G) G G G (SG (q0x Tu9 G G hxc27) G G G (q05 H (Y4Z hx29) G trivial (q04 G G G) G ?_)))));intro v46 M w H hle hR;obtain rfl:=hR;refine PT G G G (NL ?_);exact MN ⟨_,_,G,H,e24⟩
     rw[if_neg hk26] at e24;refine DF hk26 (q0q G G) G (MV G G (q0d 4 G G (PF G G G (NL ?_))));exact MN ⟨_,_,G,H,e24⟩
    rintro e w ⟨b25,M,rfl,H,q30⟩;obtain rfl:=oI q30;refine TN ?_;refine q0m G (fun hk31=>?_) (fun hk31=>?_)
    ·
     subst hk31;rw[if_pos rfl] at e19;refine SK (TN (BL ?_));obtain⟨n32,hxn32,e19⟩:=bnd e19;refine RG (MV G G (ST (q0l G G hxn32) G (AS G G (NL (IB ?_)))));exact AG m22 ⟨_,_,G,H,e19⟩ (l0b _)
    subst hk31;rw[if_neg l06] at e19;refine q0r (q06 (q06 (q0f ?_)));exact MN ⟨_,_,G,H,e19⟩
   rintro e w ⟨n20,M,rfl,H,q33⟩;obtain rfl:=oI q33;refine TN (SQ ?_);obtain⟨o34,e35,e2⟩:=bnd e2;refine q0j (fun e w =>∃(b36:Bool) (M:Mem),e=[(0,S p0),(3,S s16),(4,I n17),(7,I n20),(58,Value.bool b36)]∧St w0 M0 M [] w∧some b36=some o34) [] ?_ ?_ (trivial)
   ·
    refine RG (MV G G (MV G G ?_));by_cases hk37:n17<n20
    ·
     rw[if_pos hk37] at e35;refine DT hk37 (q0J G G) G (MV G G (SG (q01 G) G G G (SG (q01 G) G G G (SG (q0i Tu9 G) G G G (SG (q0q G G) G G G (PT G G G (NL ?_)))))));exact MN ⟨_,_,G,H,e35⟩
    rw[if_neg hk37] at e35;refine DF hk37 (q0J G G) G (MV G G (q0d 4 G G (PF G G G (NL ?_))));exact MN ⟨_,_,G,H,e35⟩
   rintro e w ⟨b36,M,rfl,H,q38⟩;obtain rfl:=oI q38;refine TN ?_;refine q0m G (fun hk39=>?_) (fun hk39=>?_)
   ·
    subst hk39;rw[if_pos rfl] at e2;refine SQ ?_;obtain⟨⟨s40,n41⟩,hx42,e2⟩:=bnd e2;try dsimp only at e2
    refine RG (MV G G (MV G G (q05 H (Y4T hx42) G trivial (q00 G) G ?_)));intro v62 M w H hle hR;try dsimp only at hR
    obtain rfl:=hR;refine MV G G (ST (q0c G G) G (ST (q0c G G) G (AS G G (AS G G (NL (TN (SQ (RG (MV G G (ST (q0J G G) G (NL (TN ?_))))))))))));refine CB (p:=(0:Int)<n41) G (fun hk43=>?_) fun hk43=>?_
    ·
     rw[if_pos hk43] at e2;refine RG (MV G G (AS G G (NL (IB ?_))));exact AG m6 ⟨_,_,_,G,H,e2⟩ (l0b _)
    rw[if_neg hk43] at e2;refine SK (IB ?_);exact AG m6 ⟨_,_,_,G,H,e2⟩ (l0b _)
   subst hk39;rw[if_neg l06] at e2;refine SK (IB ?_);exact AG m6 ⟨_,_,_,G,H,e2⟩ (l0b _)
  rw[if_neg hk7] at e2;refine q0r (q06 (q06 (q0f ?_)));exact MN ⟨_,_,G,H,e2⟩
 rintro e w ⟨s3,M,rfl,H,q44⟩;obtain rfl:=oI q44;refine TN (SQ (RG (MV G G (AS G G (NL (TN (RT ?_)))))));obtain rfl:=oI h;exact q08 G G H.ext G
theorem Y5l {p0:List (UInt8 × Ls)}{p1:Int}{vp0:Value}{r:Bool}(h:R_first p0 p1=some r):Ct Tryz.prog 92 [vp0,I p1] (fun M=>SlS M 2 xenc83 vp0 p0) (fun v M=>v=Value.bool r):=by
 refine Ct.of Tryz.func92 (enters Tryz.func92 Kr G) G G G ?_;intro w0 M0 H hp;have hp0:=hp;unfold R_first at h;refine SQ (RG (AS G G (NL (TN (SQ (SQ ?_))))));obtain⟨a1,hxa1,h⟩:=bnd h;obtain⟨bk8,o8,ha8,hc8⟩:=hp0.atC hxa1;refine RG (MV G G (MV G G (ST (q0t ha8 Tu77 Ts83 G G) G (ST (q02 Tu83 G Ts5 Dc G) G (ST (q07 H G (hc8.at (j:=0) G) Ta5) G (ST (q0H (c:=a1.1) (d:=113) G G) G (NL (TN ?_))))))));refine CB (p:=a1.1=113) G (fun hk2=>?_) fun hk2=>?_
 ·
  rw[if_pos hk2] at h;refine SQ (RG (MV G G (ST (q0J G G) G (AS G G (NL (TN (RT ?_)))))));obtain rfl:=oI h;exact q08 G G H.ext G
 rw[if_neg hk2] at h;refine SK (TN (SQ (SQ (RG (MV G G (AS G G (NL (TN ?_))))))));obtain⟨o3,e4,h⟩:=bnd h;refine q0j (fun e w =>∃  (M:Mem),e=[]∧St w0 M0 M [] w∧some (.inl ())=some o3) [] ?_ ?_ (trivial)
 ·
  refine BL (q0F (fun m e w =>∃(n5:Int) (M:Mem),e=[(0,vp0),(5,I n5)]∧St w0 M0 M [] w∧SlS M 2 xenc83 vp0 p0∧Y2J p0 m n5=some o3) FU [(0,_),(5,_)] ⟨rfl,rfl,trivial⟩ ⟨_,_,rfl,H,hp0,e4⟩ ?_);rintro m6 e w ⟨n5,M,rfl,H,hp0,e4⟩;rcases m6 with _|m6
  · rw[Y2J] at e4;cases e4
  rw[Y2J] at e4;refine SQ (SQ (RG (MV G G (ST (q0X G G) G (NL (TN ?_))))));refine CB (p:=(0:Int)≤n5) G (fun hk7=>?_) fun hk7=>?_
  ·
   rw[if_pos hk7] at e4;refine SK (TN (SQ (BL (SQ ?_))));obtain⟨a8,hxa8,e4⟩:=bnd e4;obtain⟨bk21,o21,ha21,hc21⟩:=hp0.atC hxa8;refine RG (MV G G (MV G G (ST (q0t ha21 Tu77 Ts83 G G) G (ST (q02 Tu83 G Ts5 Dc G) G (ST (q07 H G (hc21.at (j:=0) G) Ta5) G (ST (q0H (c:=a8.1) (d:=113) G G) G (NL (TN ?_))))))));refine CB (p:=a8.1=113) G (fun hk9=>?_) fun hk9=>?_
   ·
    rw[if_pos hk9] at e4;refine SQ (RG (AS G G (NL (TN (RT ?_)))));obtain rfl:=oI e4;try dsimp only at h
    obtain rfl:=oI h;exact q08 G G H.ext G
   rw[if_neg hk9] at e4;refine SK (IB (TN ?_));obtain⟨n10,hxn10,e4⟩:=bnd e4;refine RG (MV G G (ST (q1I G G hxn10) G (AS G G (NL ?_))));exact AG m6 ⟨_,_,G,H,hp0,e4⟩ (l0b _)
  rw[if_neg hk7] at e4;refine q0r (q06 (q06 (q0f ?_)));exact MN ⟨_,G,H,e4⟩
 rintro e w ⟨M,rfl,H,q11⟩;obtain rfl:=oI q11;try dsimp only at h
 refine TN (SQ (RG (AS G G (NL (TN (RT ?_))))));obtain rfl:=oI h;exact q08 G G H.ext G
theorem Y4U {p0:List (UInt8 × Ls)}{vp0:Value}{r:Ls}(h:Y3X p0=some r):Ct Tryz.prog 53 [vp0] (fun M=>SlS M 2 xenc83 vp0 p0) (fun v M=>v=S r):=by
 refine Ct.of Tryz.func53 (enters Tryz.func53 Kr G) G G G ?_;intro w0 M0 H hp;have hp0:=hp;unfold Y3X at h;refine SQ (RG (AS G G (NL (TN (SQ (RG (AS G G (NL (TN (SQ (SQ (RG (AS G G (NL (TN ?_)))))))))))))));obtain⟨o1,e2,h⟩:=bnd h;refine q0j (fun e w =>∃(s3:Ls) (M:Mem),e=[(3,S s3)]∧St w0 M0 M [] w∧some s3=some o1) [] ?_ ?_ (trivial)
 ·
  refine BL (q0F (fun m e w =>∃(s4:Ls) (n5:Int) (M:Mem),e=[(0,vp0),(3,S s4),(4,I n5)]∧St w0 M0 M [] w∧SlS M 2 xenc83 vp0 p0∧Y14 p0 m s4 n5=some o1) FU [(0,_),(3,_),(4,_)] ⟨rfl,rfl,rfl,trivial⟩ ⟨_,_,_,rfl,H,hp0,e2⟩ ?_);rintro m6 e w ⟨s4,n5,M,rfl,H,hp0,e2⟩;rcases m6 with _|m6
  · rw[Y14] at e2;cases e2
  rw[Y14] at e2;refine SQ (SQ (RG (MV G G (MV G G (ST (q0U Tu77 hp0 G) G (ST (q0q G G) G (NL (TN ?_))))))));refine CB (p:=n5<(p0.length:Int)) G (fun hk7=>?_) fun hk7=>?_
  ·
   rw[if_pos hk7] at e2;refine SK (TN (BL (SQ ?_)));obtain⟨a8,hxa8,e2⟩:=bnd e2;obtain⟨bk12,o12,ha12,hc12⟩:=hp0.atC hxa8;refine RG (MV G G (MV G G (ST (q0t ha12 Tu77 Ts83 G G) G (ST (q02 Tu83 G Ts9 Dc G) G (ST (q07 H G (hc12.at (j:=1) G) Ta9) G (AS G G (NL (TN (SQ (SQ ?_))))))))));obtain⟨a9,hxa9,e2⟩:=bnd e2;obtain⟨bk17,o17,ha17,hc17⟩:=hp0.atC hxa9;refine RG (MV G G (MV G G (ST (q0t ha17 Tu77 Ts83 G G) G (ST (q02 Tu83 G Ts5 Dc G) G (ST (q07 H G (hc17.at (j:=0) G) Ta5) G (ST (q0H (c:=a9.1) (d:=119) G G) G (NL (TN ?_))))))));obtain⟨o10,e11,e2⟩:=bnd e2;refine q0j (fun e w =>∃(n12:Int) (s13:Ls) (M:Mem),e=[(0,vp0),(3,S s4),(4,I n12),(5,S s13)]∧St w0 M0 M [] w∧SlS M 2 xenc83 vp0 p0∧some (n12,s13)=some o10) [] ?_ ?_ (trivial)
   ·
    refine CB (p:=a9.1=119) G (fun hk14=>?_) fun hk14=>?_
    ·
     rw[if_pos hk14] at e11;refine SQ ?_;obtain⟨o15,e16,e11⟩:=bnd e11;refine q0j (fun e w =>∃(n17:Int) (s18:Ls) (M:Mem),e=[(0,vp0),(3,S s4),(4,I n17),(5,S s18)]∧St w0 M0 M [] w∧SlS M 2 xenc83 vp0 p0∧some (n17,s18)=some o15) [] ?_ ?_ (trivial)
     ·
      refine BL (q0F (fun m e w =>∃(n19:Int) (s20:Ls) (M:Mem),e=[(0,vp0),(3,S s4),(4,I n19),(5,S s20)]∧St w0 M0 M [] w∧SlS M 2 xenc83 vp0 p0∧Y2C p0 m n19 s20=some o15) FU [(0,_),(3,_),(4,_),(5,_)] ⟨rfl,rfl,rfl,rfl,trivial⟩ ⟨_,_,_,rfl,H,hp0,e16⟩ ?_);rintro m21 e w ⟨n19,s20,M,rfl,H,hp0,e16⟩;rcases m21 with _|m21
      · rw[Y2C] at e16;cases e16
      rw[Y2C] at e16;refine SQ (SQ ?_);obtain⟨o22,e23,e16⟩:=bnd e16;refine q0j (fun e w =>∃(b24:Bool) (M:Mem),e=[(0,vp0),(3,S s4),(4,I n19),(5,S s20),(34,Value.bool b24)]∧St w0 M0 M [] w∧SlS M 2 xenc83 vp0 p0∧some b24=some o22) [] ?_ ?_ (trivial)
      ·
       obtain⟨n25,hxn25,e23⟩:=bnd e23;refine RG (MV G G (ST (q0l G G hxn25) G (MV G G (ST (q0U Tu77 hp0 G) G ?_))));by_cases hk26:n25<(p0.length:Int)
       ·
        rw[if_pos hk26] at e23;obtain⟨n27,hxn27,e23⟩:=bnd e23;obtain⟨a28,hxa28,e23⟩:=bnd e23;obtain⟨bk30,o30,ha30,hc30⟩:=hp0.atC hxa28;refine DT hk26 (q0q G G) G (MV G G (SG (q01 G) G G G (SG (q01 G) G G G (SG (q0l G G hxn27) G G G (SG (q0t ha30 Tu77 Ts83 G G) G G G (SG (q02 Tu83 G Ts5 Dc G) G G G (SG (q07 H G (hc30.at (j:=0) G) Ta5) G G G (SG (q0H (c:=a28.1) (d:=119) G G) G G G (PT G G G (NL ?_))))))))));exact MN ⟨_,_,G,H,hp0,e23⟩
       rw[if_neg hk26] at e23;refine DF hk26 (q0q G G) G (MV G G (q0d 7 G G (PF G G G (NL ?_))));exact MN ⟨_,_,G,H,hp0,e23⟩
      rintro e w ⟨b24,M,rfl,H,hp0,q29⟩;obtain rfl:=oI q29;refine TN ?_;refine q0m G (fun hk30=>?_) (fun hk30=>?_)
      ·
       subst hk30;rw[if_pos rfl] at e16;refine SK (TN (BL (SQ ?_)));obtain⟨n31,hxn31,e16⟩:=bnd e16;refine RG (MV G G (ST (q0l G G hxn31) G (AS G G (NL (TN ?_)))));obtain⟨s32,hxs32,e16⟩:=bnd e16;obtain⟨a33,hxa33,e16⟩:=bnd e16;obtain⟨bk41,o41,ha41,hc41⟩:=hp0.atC hxa33;obtain⟨s34,hxs34,e16⟩:=bnd e16;refine RG (MV G G (ST (q0S G G hxs32) G (MV G G (MV G G (ST (q0t ha41 Tu77 Ts83 G G) G (ST (q02 Tu83 G Ts9 Dc G) G (ST (q07 H G (hc41.at (j:=1) G) Ta9) G (ST (q0S G G hxs34) G (AS G G (NL (IB ?_)))))))))));exact AG m21 ⟨_,_,_,G,H,hp0,e16⟩ (l0b _)
      subst hk30;rw[if_neg l06] at e16;refine q0r (q06 (q06 (q0f ?_)));exact MN ⟨_,_,_,G,H,hp0,e16⟩
     rintro e w ⟨n17,s18,M,rfl,H,hp0,q35⟩;obtain rfl:=oI q35;try dsimp only at e11
     refine TN ?_;obtain⟨s36,hx37,e11⟩:=bnd e11;refine RG (MV G G (q05 H (Y56 hx37) G trivial (q00 G) G ?_));intro v46 M w H hle hR;replace hp0:=hp0.mono hle;obtain rfl:=hR;refine AS G G (NL ?_);exact MN ⟨_,_,_,G,H,hp0,e11⟩
    rw[if_neg hk14] at e11;refine SK ?_;exact MN ⟨_,_,_,G,H,hp0,e11⟩
   rintro e w ⟨n12,s13,M,rfl,H,hp0,q38⟩;obtain rfl:=oI q38;try dsimp only at e2
   refine TN (SQ (SQ ?_));obtain⟨o39,e40,e2⟩:=bnd e2;refine q0j (fun e w =>∃(b41:Bool) (M:Mem),e=[(0,vp0),(3,S s4),(4,I n12),(5,S s13),(62,Value.bool b41)]∧St w0 M0 M [] w∧SlS M 2 xenc83 vp0 p0∧some b41=some o39) [] ?_ ?_ (trivial)
   ·
    by_cases hk42:s4=[]
    ·
     rw[if_pos hk42] at e40;refine RG (MV G G (q09 (v' := .bool false) (q1A G G) (congrArg Value.bool (by rw[decide_eq_true hk42];rfl)) (q00 G) G G ?_));by_cases hk43:(0:Int)<n12
     ·
      rw[if_pos hk43] at e40;by_cases hk44:(0:Int)<(p0.length:Int)
      ·
       rw[if_pos hk44] at e40;obtain⟨b45,hx46,e40⟩:=bnd e40;refine MV G G (SG (q01 G) G G G (DU hk43 (q0J G G) G G G (SG (q01 G) G G G (SG (q01 G) G G G (SG (q0U Tu77 hp0 G) G G G (DU hk44 (q0J G G) G G G (SG (q0p G G) G G G (SG (q01 G) G G G (SG (q01 G) G G G (SG (q01 G) G G G (q05 H (Y5l hx46) G (hp0) (q04 G G G) G ?_)))))))))));intro v60 M w H hle hR;replace hp0:=hp0.mono hle;obtain rfl:=hR;refine SG (q0p G G) G G G (PF G G G (NL ?_));exact MN ⟨_,_,G,H,hp0,e40⟩
      rw[if_neg hk44] at e40;refine MV G G (SG (q01 G) G G G (DU hk43 (q0J G G) G G G (SG (q01 G) G G G (SG (q01 G) G G G (SG (q0U Tu77 hp0 G) G G G (DG hk44 (q0J G G) G G G (SG (q0p G G) G G G (SG (q01 G) G G G (q0d 3 G G (SG (q0o G G) G G G (PF G G G (NL ?_))))))))))));exact MN ⟨_,_,G,H,hp0,e40⟩
     rw[if_neg hk43] at e40;refine MV G G (SG (q01 G) G G G (DG hk43 (q0J G G) G G G (SG (q01 G) G G G (q0d 3 G G (SG (q0o G G) G G G (SG (q01 G) G G G (q0d 3 G G (SG (q0o G G) G G G (PF G G G (NL ?_))))))))));exact MN ⟨_,_,G,H,hp0,e40⟩
    rw[if_neg hk42] at e40;refine RG (MV G G (q09 (v' := .bool true) (q1A G G) (congrArg Value.bool (by rw[decide_eq_false hk42];rfl)) (q00 G) G G ?_));refine MV G G (q0d 12 G G (PT G G G (NL ?_)));exact MN ⟨_,_,G,H,hp0,e40⟩
   rintro e w ⟨b41,M,rfl,H,hp0,q47⟩;obtain rfl:=oI q47;refine TN ?_;obtain⟨o48,e49,e2⟩:=bnd e2;refine q0j (fun e w =>∃(s50:Ls) (M:Mem),e=[(0,vp0),(3,S s50),(4,I n12),(5,S s13)]∧St w0 M0 M [] w∧SlS M 2 xenc83 vp0 p0∧some s50=some o48) [] ?_ ?_ (trivial)
   ·
    refine q0m G (fun hk51=>?_) (fun hk51=>?_)
    ·
     subst hk51;rw[if_pos rfl] at e49;obtain⟨s52,hxs52,e49⟩:=bnd e49;refine RG (MV G G (ST (q0S G G hxs52) G (AS G G (NL ?_))));exact MN ⟨_,_,G,H,hp0,e49⟩
    subst hk51;rw[if_neg l06] at e49;refine SK ?_;exact MN ⟨_,_,G,H,hp0,e49⟩
   rintro e w ⟨s50,M,rfl,H,hp0,q53⟩;obtain rfl:=oI q53;refine TN (SQ ?_);obtain⟨s54,hxs54,e2⟩:=bnd e2;refine RG (MV G G (MV G G (ST (q0S G G hxs54) G (AS G G (NL (TN ?_))))));obtain⟨n55,hxn55,e2⟩:=bnd e2;refine RG (MV G G (ST (q0l G G hxn55) G (AS G G (NL (IB ?_)))));exact AG m6 ⟨_,_,_,G,H,hp0,e2⟩ (l0b _)
  rw[if_neg hk7] at e2;refine q0r (q06 (q06 (q0f ?_)));exact MN ⟨_,_,G,H,e2⟩
 rintro e w ⟨s3,M,rfl,H,q56⟩;obtain rfl:=oI q56;refine TN (SQ (RG (MV G G (AS G G (NL (TN (RT ?_)))))));obtain rfl:=oI h;exact q08 G G H.ext G
theorem Y4G {p0:List (UInt8 × Ls)}{vp0:Value}{r:((Ls × Ls × Ls) × Bool)}(h:Y3P p0=some r):Ct Tryz.prog 52 [vp0] (fun M=>SlS M 2 xenc83 vp0 p0) (fun v M=>v=Value.tuple #[Value.agg #[S r.1.1,S r.1.2.1,S r.1.2.2],Value.bool r.2]):=by
 refine Ct.of Tryz.func52 (enters Tryz.func52 Kr G) G G G ?_;intro w0 M0 H hp;have hp0:=hp;unfold Y3P at h;refine SQ (RG (q0k [_,_,_] H Tz24 G (q00 G) G ?_));intro bk2 w H;refine AS G G (NL (TN (SQ (SQ (RG (AS G G (NL (TN ?_))))))));obtain⟨o1,e2,h⟩:=bnd h;refine q0j (fun e w =>∃(s3:Ls) (s4:Ls) (s5:Ls) (M:Mem),e=[(0,vp0),(2,ptr bk2 0)]∧St w0 M0 M [.blk bk2 (.cells #[S s3,S s4,S s5] 24)] w∧SlS M 2 xenc83 vp0 p0∧some (.inl (s3,s4,s5))=some o1) [] ?_ ?_ (trivial)
 ·
  refine BL (q0F (fun m e w =>∃(s6:Ls) (s7:Ls) (s8:Ls) (n9:Int) (M:Mem),e=[(0,vp0),(2,ptr bk2 0),(4,I n9)]∧St w0 M0 M [.blk bk2 (.cells #[S s6,S s7,S s8] 24)] w∧SlS M 2 xenc83 vp0 p0∧Y0g p0 m s6 s7 s8 n9=some o1) FU [(0,_),(2,_),(4,_)] ⟨rfl,rfl,rfl,trivial⟩ ⟨_,_,_,_,_,rfl,H,hp0,e2⟩ ?_);rintro m10 e w ⟨s6,s7,s8,n9,M,rfl,H,hp0,e2⟩;rcases m10 with _|m10
  · rw[Y0g] at e2;cases e2
  rw[Y0g] at e2;refine SQ (SQ (RG (MV G G (MV G G (ST (q0U Tu77 hp0 G) G (ST (q0q G G) G (NL (TN ?_))))))));refine CB (p:=n9<(p0.length:Int)) G (fun hk11=>?_) fun hk11=>?_
  ·
   rw[if_pos hk11] at e2;refine SK (TN (SQ (BL (SQ (SQ ?_)))));obtain⟨a12,hxa12,e2⟩:=bnd e2;obtain⟨bk15,o15,ha15,hc15⟩:=hp0.atC hxa12;refine RG (MV G G (MV G G (ST (q0t ha15 Tu77 Ts83 G G) G (ST (q02 Tu83 G Ts5 Dc G) G (ST (q07 H G (hc15.at (j:=0) G) Ta5) G (ST (q1E (c:=a12.1) (d:=60) G G) G (NL (TN ?_))))))));refine q0m G (fun hk13=>?_) (fun hk13=>?_)
   ·
    replace hk13 :¬(a12.1=60):=of_not_decide hk13;rw[if_neg hk13] at e2;refine q0r (q06 (q0f (TN ?_)));obtain⟨n14,hxn14,e2⟩:=bnd e2;refine RG (MV G G (ST (q0l G G hxn14) G (AS G G (NL ?_))));exact AG m10 ⟨_,_,_,_,_,G,H,hp0,e2⟩ (l0b _)
   replace hk13:a12.1=60:=of_not_decide' hk13;rw[if_pos hk13] at e2;refine SK (TN (SQ (SQ ?_)));obtain⟨o15,e16,e2⟩:=bnd e2;refine q0j (fun e w =>∃(b17:Bool) (M:Mem),e=[(0,vp0),(2,ptr bk2 0),(4,I n9),(33,Value.bool b17)]∧St w0 M0 M [.blk bk2 (.cells #[S s6,S s7,S s8] 24)] w∧SlS M 2 xenc83 vp0 p0∧some b17=some o15) [] ?_ ?_ (trivial)
   ·
    obtain⟨n18,hxn18,e16⟩:=bnd e16;obtain⟨a19,hxa19,e16⟩:=bnd e16;obtain⟨bk23,o23,ha23,hc23⟩:=hp0.atC hxa19;refine RG (MV G G (MV G G (ST (q0U Tu77 hp0 G) G (ST (q1I G G hxn18) G (ST (q0t ha23 Tu77 Ts83 G G) G (ST (q02 Tu83 G Ts5 Dc G) G (ST (q07 H G (hc23.at (j:=0) G) Ta5) G ?_)))))));by_cases hk20:a19.1=62
    ·
     rw[if_pos hk20] at e16;obtain⟨l21,hxl21,e16⟩:=bnd e16;obtain⟨b22,hx23,e16⟩:=bnd e16;refine q09 (v' := .bool false) (q1E (c:=a19.1) (d:=62) G G) (congrArg Value.bool (by rw[decide_eq_true hk20];rfl)) (q00 G) G G ?_;refine MV G G (SG (q01 G) G G G (SG (q01 G) G G G (WR.sliceSSH Tu77 Ts83 (hp0) G G hxl21 (q04 G G G) G ?_)));intro v30 hs30;refine q05 H (Y51 hx23) G (hs30) (q04 G G G) G ?_;intro v31 M w H hle hR;replace hp0:=hp0.mono hle;replace hc15:=hc15.mono hle;replace hc23:=hc23.mono hle;replace hs30:=hs30.mono hle;obtain rfl:=hR;refine SG (q0P G) G G G (PF G G G (NL ?_));exact MN ⟨_,_,G,H,hp0,e16⟩
    rw[if_neg hk20] at e16;refine q09 (v' := .bool true) (q1E (c:=a19.1) (d:=62) G G) (congrArg Value.bool (by rw[decide_eq_false hk20];rfl)) (q00 G) G G ?_;refine MV G G (q0d 5 G G (PT G G G (NL ?_)));exact MN ⟨_,_,G,H,hp0,e16⟩
   rintro e w ⟨b17,M,rfl,H,hp0,q24⟩;obtain rfl:=oI q24;refine TN ?_;refine q0m G (fun hk25=>?_) (fun hk25=>?_)
   ·
    subst hk25;rw[if_pos rfl] at e2;refine SQ (RG (ST (q0B [S [],S [],S []] Tu24 Tz24 (xplaces24 Tu24) G G) G (q0b [_,_,_] H G G G Ku Ts24 G Kf Kf (q00 G) ?_)));intro w H;refine AS G G (NL (TN (RT ?_)));obtain rfl:=oI e2;try dsimp only at h
    obtain rfl:=oI h;exact q0w G ⟨_,G,H.loadAgg Km Ta24 Ts24 Kf⟩ G H.ext G
   subst hk25;rw[if_neg l06] at e2;refine SK (TN (SQ ?_));obtain⟨n26,hxn26,e2⟩:=bnd e2;obtain⟨n27,hxn27,e2⟩:=bnd e2;obtain⟨l28,hxl28,e2⟩:=bnd e2;obtain⟨⟨⟨s29,s30,s31⟩,b32⟩,hx33,e2⟩:=bnd e2;try dsimp only at e2
   refine RG (MV G G (MV G G (ST (q0l G G hxn26) G (MV G G (ST (q0U Tu77 hp0 G) G (ST (q1I G G hxn27) G (WR.sliceSSC Tu77 Ts83 (hp0) G G G hxl28 (q00 G) G ?_)))))));intro v42 hs42;refine q05 H (Y3C hx33) G (hs42) (q00 G) G ?_;intro v43 M w H hle hR;replace hp0:=hp0.mono hle;replace hs42:=hs42.mono hle;try dsimp only at hR
   obtain rfl:=hR;refine MV G G (ST (q0c G G) G (ST (q0c G G) G (q0k [_,_,_] H Tz24 G (q00 G) G ?_)));intro bk5 w H;refine q0b [_,_,_] H G G G Ku Ts24 G Kf Kf (q00 G) ?_;intro w H;refine AS G G (NL (TN (SQ ?_)));obtain⟨l34,hxl34,e2⟩:=bnd e2;obtain⟨s35,hx36,e2⟩:=bnd e2;refine RG (MV G G (MV G G (WR.sliceSSH Tu77 Ts83 (hp0) G G hxl34 (q00 G) G ?_)));intro v48 hs48;refine q05 H (Y4U hx36) G (hs48) (q00 G) G ?_;intro v49 M w H hle hR;replace hp0:=hp0.mono hle;replace hs42:=hs42.mono hle;replace hs48:=hs48.mono hle;obtain rfl:=hR;refine ST (q02 Tu24 G Ts9 Dc G) G (q1w [_,_,_] H G G Ku Kf Ts9 (by first|decide|(simp;done)|(simp;omega)) Kf Kf (q00 G) ?_);intro w H;refine NL (TN (SQ (RG (ST (q0n H G Km Ta24 Ts24 Kf) G ?_))));refine MV G G (q0b [_,_,_] H G G G Ku Ts24 G Kf Kf (q00 G) ?_);intro w H;refine AS G G (NL (TN (RT ?_)));obtain rfl:=oI e2;try dsimp only at h
   obtain rfl:=oI h;exact q0w G ⟨_,G,H.loadAgg Km Ta24 Ts24 Kf⟩ G H.ext G
  rw[if_neg hk11] at e2;refine q0r (q06 (q06 (q0f ?_)));exact MN ⟨_,_,_,_,G,H,hp0,e2⟩
 rintro e w ⟨s3,s4,s5,M,rfl,H,hp0,q37⟩;obtain rfl:=oI q37;try dsimp only at h
 refine TN (SQ ?_);obtain⟨⟨⟨s38,s39,s40⟩,b41⟩,hx42,h⟩:=bnd h;try dsimp only at h
 refine RG (MV G G (q05 H (Y3C hx42) G (hp0) (q00 G) G ?_));intro v54 M w H hle hR;replace hp0:=hp0.mono hle;try dsimp only at hR
 obtain rfl:=hR;refine ST (q0c G G) G (ST (q0c G G) G (q0b [_,_,_] H G G G Ku Ts24 G Kf Kf (q00 G) ?_));intro w H;refine AS G G (NL (TN (RT ?_)));obtain rfl:=oI h;exact q0w G ⟨_,G,H.loadAgg Km Ta24 Ts24 Kf⟩ G H.ext G
set_option maxHeartbeats 4000000 in
theorem Y5c {p0:Ls} {r:(List (Ls × Bool × List (Ls × Ls × Ls)) × Bool)} (h:Y47 p0=some r):Ct Tryz.prog 20 [S p0] (fun M=>True) (fun v M =>∃x0,v=Value.tuple #[x0,Value.bool r.2]∧SlR xrl34 M x0 r.1):=by
 refine Ct.of Tryz.func20 (enters Tryz.func20 Kr G) G G G ?_;intro w0 M0 H hp;unfold Y47 at h;refine SQ (RG (AS G G (AS G G (NL (TN (SQ ?_))))));obtain⟨⟨l1,b2⟩,hx3,h⟩:=bnd h;try dsimp only at h
 refine RG (MV G G (q05 H (Y4v hx3) G trivial (q00 G) G ?_));intro v22 M w H hle hR;try dsimp only at hR
 obtain⟨x22_0,rfl,f22_0⟩:=hR;refine MV G G (ST (q0c G G) G (ST (q0c G G) G (AS G G (AS G G (NL (TN (SQ (SQ ?_))))))));obtain⟨o4,e5,h⟩:=bnd h;refine q0j (fun e w =>∃(b6:Bool) (M:Mem),e=[(4,x22_0),(5,Value.bool b2),(31,Value.bool b6)]∧St w0 M0 M [] w∧SlS M 2 xenc83 x22_0 l1∧some b6=some o4) [] ?_ ?_ (trivial)
 ·
  refine RG (MV G G (ST (q0P G) G (MV G G ?_)));rcases b2 with _|_
  ·
   rw[if_neg l06] at e5;refine q0d 3 G G (PT G G G (NL ?_));exact MN ⟨_,_,G,H,f22_0,e5⟩
  rw[if_pos rfl] at e5;refine SG (q01 G) G G G (SG (q0U Tu77 f22_0 G) G G G (SG (q0e G G) G G G (PF G G G (NL ?_))));exact MN ⟨_,_,G,H,f22_0,e5⟩
 rintro e w ⟨b6,M,rfl,H,f22_0,q7⟩;obtain rfl:=oI q7;refine TN ?_;refine q0m G (fun hk8=>?_) (fun hk8=>?_)
 ·
  subst hk8;rw[if_pos rfl] at h;refine SQ (RG (MV G G (AS G G (AS G G (NL (TN (RT ?_)))))));obtain rfl:=oI h;exact q0w G G G H.ext (⟨_,G,q1X⟩)
 subst hk8;rw[if_neg l06] at h;refine SK (TN (SQ (RG (AS G G (NL (TN (SQ ?_)))))));obtain⟨l9,hx10,h⟩:=bnd h;refine RG (MV G G (q05 H (Y5h hx10) G (f22_0) (q00 G) G ?_));intro v34 M w H hle hR;replace f22_0:=f22_0.mono hle;have f34_0:=hR;refine AS G G (NL (TN (SQ (SQ (RG (AS G G (NL (TN ?_))))))));obtain⟨o11,e12,h⟩:=bnd h;refine q0j (fun e w =>∃(l14:List (Ls × Bool × List (Ls × Ls × Ls))) (v15:Value) (g16:List (Ls × Bool × Hd)) (M:Mem),e=[(6,v15)]∧St w0 M0 M [RowS 34 xrl34.k xrl34.enc v15 g16] w∧RelL xrl34 M g16 l14∧some (.inl l14)=some o11) [] ?_ ?_ (trivial)
 ·
  refine BL ?_;replace H:=H.newRowS 34 xrl34.k xrl34.enc;first|have hr26:RelL xrl34 M [] []:=q1Z|have hr26:RelL xrl34 M0 [] []:=q1Z
  refine q0F (fun m e w =>∃(l19:List (Ls × Bool × List (Ls × Ls × Ls))) (v20:Value) (g21:List (Ls × Bool × Hd)) (n23:Int) (M:Mem),e=[(6,v20),(7,v34),(8,I n23)]∧St w0 M0 M [RowS 34 xrl34.k xrl34.enc v20 g21] w∧RelL xrl34 M g21 l19∧SlR xrl77 M v34 l9∧Y0w l9 m l19 n23=some o11) FU [(6,_),(7,_),(8,_)] ⟨rfl,rfl,rfl,trivial⟩ ⟨_,_,_,_,_,rfl,H,hr26,f34_0,e12⟩ ?_;rintro m24 e w ⟨l19,v20,g21,n23,M,rfl,H,hs22,f34_0,e12⟩;rcases m24 with _|m24
  · rw[Y0w] at e12;cases e12
  rw[Y0w] at e12;refine SQ (SQ (RG (MV G G (MV G G (ST (q1h Tu80 f34_0 G) G (ST (q0q G G) G (NL (TN ?_))))))));refine CB (p:=n23<(l9.length:Int)) G (fun hk27=>?_) fun hk27=>?_
  ·
   rw[if_pos hk27] at e12;refine SK (TN (SQ (BL (SQ ?_))));obtain⟨a28,hxa28,e12⟩:=bnd e12;obtain⟨bk43,o43,q43_0,ha43,hc43,hr43⟩:=f34_0.atC hxa28;replace hr43:SlS M 2 xenc83 (hv q43_0) a28:=hr43;have hs43_0:=hr43;refine RG (MV G G (MV G G (ST (q0t ha43 Tu80 Tryz.sizeOf77 G G) G (ST (q07 H G (hc43.at (j:=0) G) Tryz.isAgg77) G (AS G G (NL (TN (SQ (RG (AS G G (NL (TN (SQ (SQ ?_))))))))))))));obtain⟨n29,hxn29,e12⟩:=bnd e12;refine RG (MV G G (ST (q0U Tu77 hs43_0 G) G (ST (q1I G G hxn29) G (AS G G (NL (TN ?_))))));obtain⟨o30,e31,e12⟩:=bnd e12;refine q0j (fun e w =>∃(n32:Int) (M:Mem),e=[(6,v20),(7,v34),(8,I n23),(9,(hv q43_0)),(10,I n32)]∧St w0 M0 M [RowS 34 xrl34.k xrl34.enc v20 g21] w∧RelL xrl34 M g21 l19∧SlR xrl77 M v34 l9∧SlS M 2 xenc83 (hv q43_0) a28∧some n32=some o30) [] ?_ ?_ (trivial)
   ·
    refine BL (q0F (fun m e w =>∃(n33:Int) (n34:Int) (M:Mem),e=[(6,v20),(7,v34),(8,I n23),(9,(hv q43_0)),(10,I n33),(11,I n34)]∧St w0 M0 M [RowS 34 xrl34.k xrl34.enc v20 g21] w∧RelL xrl34 M g21 l19∧SlR xrl77 M v34 l9∧SlS M 2 xenc83 (hv q43_0) a28∧Y1G a28 m n33 n34=some o30) FU [(6,_),(7,_),(8,_),(9,_),(10,_),(11,_)] ⟨rfl,rfl,rfl,rfl,rfl,rfl,trivial⟩ ⟨_,_,_,rfl,H,hs22,f34_0,hs43_0,e31⟩ ?_);rintro m35 e w ⟨n33,n34,M,rfl,H,hs22,f34_0,hs43_0,e31⟩;rcases m35 with _|m35
    · rw[Y1G] at e31;cases e31
    rw[Y1G] at e31;refine SQ (SQ (RG (MV G G (ST (q0X G G) G (NL (TN ?_))))));refine CB (p:=(0:Int)≤n34) G (fun hk36=>?_) fun hk36=>?_
    ·
     rw[if_pos hk36] at e31;refine SK (TN (SQ (BL (SQ ?_))));obtain⟨a37,hxa37,e31⟩:=bnd e31;obtain⟨bk54,o54,ha54,hc54⟩:=hs43_0.atC hxa37;refine RG (MV G G (MV G G (ST (q0t ha54 Tu77 Ts83 G G) G (ST (q02 Tu83 G Ts5 Dc G) G (ST (q07 H G (hc54.at (j:=0) G) Ta5) G (ST (q0H (c:=a37.1) (d:=58) G G) G (NL (TN ?_))))))));refine CB (p:=a37.1=58) G (fun hk38=>?_) fun hk38=>?_
     ·
      rw[if_pos hk38] at e31;refine RG (MV G G (AS G G (NL (IB (TN ?_)))));obtain⟨n39,hxn39,e31⟩:=bnd e31;refine RG (MV G G (ST (q1I G G hxn39) G (AS G G (NL ?_))));exact AG m35 ⟨_,_,_,G,H,hs22,f34_0,hs43_0,e31⟩ (l0b _)
     rw[if_neg hk38] at e31;refine SK (IB (TN ?_));obtain⟨n40,hxn40,e31⟩:=bnd e31;refine RG (MV G G (ST (q1I G G hxn40) G (AS G G (NL ?_))));exact AG m35 ⟨_,_,_,G,H,hs22,f34_0,hs43_0,e31⟩ (l0b _)
    rw[if_neg hk36] at e31;refine q0r (q06 (q06 (q0f ?_)));exact MN ⟨_,_,G,H,hs22,f34_0,hs43_0,e31⟩
   rintro e w ⟨n32,M,rfl,H,hs22,f34_0,hs43_0,q41⟩;obtain rfl:=oI q41;refine TN (SQ (SQ (RG (MV G G (ST (q0q G G) G (NL (TN ?_)))))));refine CB (p:=n32<(0:Int)) G (fun hk42=>?_) fun hk42=>?_
   ·
    rw[if_pos hk42] at e12;refine SQ ?_;obtain⟨⟨⟨s43,s44,s45⟩,b46⟩,hx47,e12⟩:=bnd e12;try dsimp only at e12
    refine RG (MV G G (q05 H (Y4G hx47) G (hs43_0) (q00 G) G ?_));intro v63 M w H hle hR;replace hs22:=hs22.mono hle;replace f34_0:=f34_0.mono hle;replace hs43_0:=hs43_0.mono hle;try dsimp only at hR
    obtain rfl:=hR;refine MV G G (ST (q0c G G) G (ST (q0c G G) G (q0k [_,_,_] H Tz24 G (q00 G) G ?_)));intro bk12 w H;refine q0b [_,_,_] H G G G Ku Ts24 G Kf Kf (q00 G) ?_;intro w H;refine AS G G (NL (TN (SQ (SQ (RG (MV G G (ST (q0P G) G (NL (TN ?_)))))))));refine q0m G (fun hk48=>?_) (fun hk48=>?_)
    ·
     replace hk48:b46=false:=by simpa using hk48
     subst hk48;rw[if_neg l06] at e12;refine SQ (RG (AS G G (AS G G (NL (TN (RT ?_))))));obtain rfl:=oI e12;try dsimp only at h
     obtain rfl:=oI h;exact q0w G G G H.ext (⟨_,G,q1X⟩)
    replace hk48:b46=true:=by simpa using hk48
    subst hk48;rw[if_pos rfl] at e12;refine SK (TN (SQ ?_));obtain⟨l50,hxl50,e12⟩:=bnd e12;refine RG (MV G G (ST (q0n H G Km Ta24 Ts24 Kf) G ?_));refine q1q (enc:=xenc24) xty30 ([(s43,s44,s45)]:List (Ls × Ls × Ls)) H (fun _=>G) G Kr G G G (q00 G) G ?_;intro v70 M w H hle hs70;replace hs22:=hs22.mono hle;replace f34_0:=f34_0.mono hle;replace hs43_0:=hs43_0.mono hle;refine ST (q0B [S [],Value.bool false,v70] Tu34 Tz34 (xplaces34 Tu34) G (by obtain⟨_,_,_,hv,-⟩:=hs70;rw [hv];clear hv;rfl)) G ?_;have Hn:=H;obtain⟨q49,rfl⟩:=hs70.hd;have H:=Hn;refine q1q (enc:=xrl34.enc) xty22 ([([],false,q49)]:List (Ls × Bool × Hd)) H (fun _=>G) G Kr G G G (q00 G) G ?_;intro v72 M w H hle hs72;replace hs22:=hs22.mono hle;replace f34_0:=f34_0.mono hle;replace hs43_0:=hs43_0.mono hle;replace hs70:=hs70.mono hle;replace hs72:=q2c (R:=xrl34) (l:=([([],false,([(s43,s44,s45)]:List (Ls × Ls × Ls)))]:List (Ls × Bool × List (Ls × Ls × Ls)))) hs72 ⟨⟨rfl,rfl,hs70⟩,trivial⟩;refine q2l (R:=xrl34) (l:=l19) xty22 G H hs22 G (fun _=>by repeat first|exact .head|apply Upd.tail) G (hs72) hxl50 (q00 G) G ?_;intro v73 g73 w hr73 H;refine AS G G (NL (TN (q0r (q06 (q0f (TN ?_))))));obtain⟨n51,hxn51,e12⟩:=bnd e12;refine RG (MV G G (ST (q0l G G hxn51) G (AS G G (NL ?_))));exact AG m24 ⟨_,_,_,_,_,G,(H.pick (L':=[RowS 34 xrl34.k xrl34.enc v73 g73]) Kp),hr73,f34_0,e12⟩ (l0b _)
   rw[if_neg hk42] at e12;refine SK (TN (SQ ?_));obtain⟨l52,hxl52,e12⟩:=bnd e12;obtain⟨s53,hx54,e12⟩:=bnd e12;refine RG (MV G G (MV G G (WR.sliceSSH Tu77 Ts83 (hs43_0) G G hxl52 (q00 G) G ?_)));intro v76 hs76;refine q05 H (Y4U hx54) G (hs76) (q00 G) G ?_;intro v77 M w H hle hR;replace hs22:=hs22.mono hle;replace f34_0:=f34_0.mono hle;replace hs43_0:=hs43_0.mono hle;replace hs76:=hs76.mono hle;obtain rfl:=hR;refine ST (q0B [S s53,Value.bool true,Value.slice none 0 0] Tu34 Tz34 (xplaces34 Tu34) G G) G (q0k [_,_,_] H Tz34 G (q00 G) G ?_);intro bk14 w H;refine q0b [_,_,_] H G G G Ku Ts34 G Kf Kf (q00 G) ?_;intro w H;refine NL (TN (SQ (SQ ?_)));obtain⟨o55,e56,e12⟩:=bnd e12;refine q0j (fun e w =>∃(b57:Bool) (M:Mem),e=[(6,v20),(7,v34),(8,I n23),(9,(hv q43_0)),(10,I n32),(14,ptr bk14 0),(98,Value.bool b57)]∧St w0 M0 M [RowS 34 xrl34.k xrl34.enc v20 g21, .blk bk14 (.cells #[S s53,Value.bool true,Value.slice none 0 0] 34)] w∧RelL xrl34 M g21 l19∧SlR xrl77 M v34 l9∧SlS M 2 xenc83 (hv q43_0) a28∧some b57=some o55) [] ?_ ?_ (trivial)
   ·
    obtain⟨l58,hxl58,e56⟩:=bnd e56;obtain⟨b59,hx60,e56⟩:=bnd e56;refine RG (MV G G (MV G G (WR.sliceSSH Tu77 Ts83 (hs43_0) G G hxl58 (q00 G) G ?_)));intro v81 hs81;refine q05 H (Y51 hx60) G (hs81) (q00 G) G ?_;intro v82 M w H hle hR;replace hs22:=hs22.mono hle;replace f34_0:=f34_0.mono hle;replace hs43_0:=hs43_0.mono hle;replace hs76:=hs76.mono hle;replace hs81:=hs81.mono hle;obtain rfl:=hR;refine ST (q0P G) G (MV G G ?_);rcases b59 with _|_
    ·
     rw[if_neg l06] at e56;refine q0d 3 G G (PT G G G (MV G G (q0d 8 G G (PT G G G (NL ?_)))));exact MN ⟨_,_,G,(H.pick (L':=[RowS 34 xrl34.k xrl34.enc v20 g21, .blk bk14 (.cells #[S s53,Value.bool true,Value.slice none 0 0] 34)]) Kp),hs22,f34_0,hs43_0,e56⟩
    rw[if_pos rfl] at e56;refine SG (q02 Tu34 G Ts9 Dc G) G G G (SG (XL H Ta9) G G G ?_);by_cases hk61:s53=[]
    ·
     rw[if_pos hk61] at e56;refine DU hk61 (q0L G G) G G G (PF G G G (MV G G (q0d 8 G G (PT G G G (NL ?_)))));exact MN ⟨_,_,G,(H.pick (L':=[RowS 34 xrl34.k xrl34.enc v20 g21, .blk bk14 (.cells #[S s53,Value.bool true,Value.slice none 0 0] 34)]) Kp),hs22,f34_0,hs43_0,e56⟩
    rw[if_neg hk61] at e56;obtain⟨n62,hxn62,e56⟩:=bnd e56;obtain⟨a63,hxa63,e56⟩:=bnd e56;obtain⟨bk94,o94,ha94,hc94⟩:=hs43_0.atC hxa63;refine DG hk61 (q0L G G) G G G (PF G G G (MV G G (SG (q01 G) G G G (SG (q01 G) G G G (SG (q0U Tu77 hs43_0 G) G G G (SG (q1I G G hxn62) G G G (SG (q0t ha94 Tu77 Ts83 G G) G G G (SG (q02 Tu83 G Ts5 Dc G) G G G (SG (q07 H G (hc94.at (j:=0) G) Ta5) G G G (SG (q1E (c:=a63.1) (d:=59) G G) G G G (PF G G G (NL ?_))))))))))));exact MN ⟨_,_,G,(H.pick (L':=[RowS 34 xrl34.k xrl34.enc v20 g21, .blk bk14 (.cells #[S s53,Value.bool true,Value.slice none 0 0] 34)]) Kp),hs22,f34_0,hs43_0,e56⟩
   rintro e w ⟨b57,M,rfl,H,hs22,f34_0,hs43_0,q64⟩;obtain rfl:=oI q64;refine TN ?_;refine q0m G (fun hk65=>?_) (fun hk65=>?_)
   ·
    subst hk65;rw[if_pos rfl] at e12;refine SQ (RG (AS G G (AS G G (NL (TN (RT ?_))))));obtain rfl:=oI e12;try dsimp only at h
    obtain rfl:=oI h;exact q0w G G G H.ext (⟨_,G,q1X⟩)
   subst hk65;rw[if_neg l06] at e12;refine SK (TN (SQ ?_));obtain⟨n66,hxn66,e12⟩:=bnd e12;obtain⟨n67,hxn67,e12⟩:=bnd e12;obtain⟨l68,hxl68,e12⟩:=bnd e12;refine RG (MV G G (MV G G (ST (q0l G G hxn66) G (MV G G (ST (q0U Tu77 hs43_0 G) G (ST (q1I G G hxn67) G (WR.sliceSSC Tu77 Ts83 (hs43_0) G G G hxl68 (q00 G) G ?_)))))));intro v105 hs105;refine AS G G (NL (TN (SQ (SQ (RG (MV G G (ST (q0U Tu77 hs105 G) G (ST (q0J G G) G (NL (TN ?_))))))))));obtain⟨o69,e70,e12⟩:=bnd e12;refine q0j (fun e w =>∃(s71:Ls) (b72:Bool) (l74:List (Ls × Ls × Ls)) (v75:Value) (M:Mem),e=[(6,v20),(7,v34),(8,I n23),(14,ptr bk14 0)]∧St w0 M0 M [RowS 34 xrl34.k xrl34.enc v20 g21, .blk bk14 (.cells #[S s71,Value.bool b72,v75] 34),RowS 24 3 xenc24 v75 l74] w∧RelL xrl34 M g21 l19∧SlR xrl77 M v34 l9∧some (.inl (s71,b72,l74))=some o69) [] ?_ ?_ (trivial)
   ·
    refine CB (p:=(0:Int)<(l68.length:Int)) G (fun hk76=>?_) fun hk76=>?_
    ·
     rw[if_pos hk76] at e70;refine SQ ?_;obtain⟨l77,hx78,e70⟩:=bnd e70;refine RG (MV G G (q05 H (Y5h hx78) G (hs105) (q00 G) G ?_));intro v110 M w H hle hR;replace hs22:=hs22.mono hle;replace f34_0:=f34_0.mono hle;replace hs43_0:=hs43_0.mono hle;replace hs105:=hs105.mono hle;have f110_0:=hR;refine AS G G (NL (TN (SQ (RG (AS G G (NL (TN ?_)))))));obtain⟨o79,e80,e70⟩:=bnd e70;refine q0j (fun e w =>∃(s81:Ls) (b82:Bool) (l84:List (Ls × Ls × Ls)) (v85:Value) (M:Mem),e=[(6,v20),(7,v34),(8,I n23),(14,ptr bk14 0)]∧St w0 M0 M [RowS 34 xrl34.k xrl34.enc v20 g21, .blk bk14 (.cells #[S s81,Value.bool b82,v85] 34),RowS 24 3 xenc24 v85 l84] w∧RelL xrl34 M g21 l19∧SlR xrl77 M v34 l9∧some (.inl (s81,b82,l84))=some o79) [] ?_ ?_ (trivial)
     ·
      refine BL ?_;replace H:=H.newRowS 24 3 xenc24;refine q0F (fun m e w =>∃(s86:Ls) (b87:Bool) (l89:List (Ls × Ls × Ls)) (v90:Value) (n91:Int) (M:Mem),e=[(6,v20),(7,v34),(8,I n23),(14,ptr bk14 0),(16,v110),(17,I n91)]∧St w0 M0 M [RowS 34 xrl34.k xrl34.enc v20 g21, .blk bk14 (.cells #[S s86,Value.bool b87,v90] 34),RowS 24 3 xenc24 v90 l89] w∧RelL xrl34 M g21 l19∧SlR xrl77 M v34 l9∧SlR xrl77 M v110 l77∧Y1H l77 m s86 b87 l89 n91=some o79) FU [(6,_),(7,_),(8,_),(14,_),(16,_),(17,_)] ⟨rfl,rfl,rfl,rfl,rfl,rfl,trivial⟩ ⟨_,_,_,_,_,_,rfl,(H.pick (L':=[RowS 34 xrl34.k xrl34.enc v20 g21, .blk bk14 (.cells #[S s53,Value.bool true,(Value.slice none 0 0)] 34),RowS 24 3 xenc24 (Value.slice none 0 0) []]) Kp),hs22,f34_0,f110_0,e80⟩ ?_;rintro m92 e w ⟨s86,b87,l89,v90,n91,M,rfl,H,hs22,f34_0,f110_0,e80⟩;rcases m92 with _|m92
      · rw[Y1H] at e80;cases e80
      rw[Y1H] at e80;refine SQ (SQ (RG (MV G G (MV G G (ST (q1h Tu80 f110_0 G) G (ST (q0q G G) G (NL (TN ?_))))))));refine CB (p:=n91<(l77.length:Int)) G (fun hk94=>?_) fun hk94=>?_
      ·
       rw[if_pos hk94] at e80;refine SK (TN (SQ (BL (SQ ?_))));obtain⟨a95,hxa95,e80⟩:=bnd e80;obtain⟨bk120,o120,q120_0,ha120,hc120,hr120⟩:=f110_0.atC hxa95;replace hr120:SlS M 2 xenc83 (hv q120_0) a95:=hr120;have hs120_0:=hr120;obtain⟨⟨⟨s96,s97,s98⟩,b99⟩,hx100,e80⟩:=bnd e80;try dsimp only at e80
       refine RG (MV G G (MV G G (ST (q0t ha120 Tu80 Tryz.sizeOf77 G G) G (ST (q07 H G (hc120.at (j:=0) G) Tryz.isAgg77) G (q05 H (Y4G hx100) G (hs120_0) (q00 G) G ?_)))));intro v122 M w H hle hR;replace hs22:=hs22.mono hle;replace f34_0:=f34_0.mono hle;replace f110_0:=f110_0.mono hle;replace hc120:=hc120.mono hle;replace hs120_0:=hs120_0.mono hle;try dsimp only at hR
       obtain rfl:=hR;refine MV G G (ST (q0c G G) G (ST (q0c G G) G (q0k [_,_,_] H Tz24 G (q00 G) G ?_)));intro bk18 w H;refine q0b [_,_,_] H G G G Ku Ts24 G Kf Kf (q00 G) ?_;intro w H;refine AS G G (NL (TN (SQ (SQ (RG (MV G G (ST (q0P G) G (NL (TN ?_)))))))));refine q0m G (fun hk101=>?_) (fun hk101=>?_)
       ·
        replace hk101:b99=false:=by simpa using hk101
        subst hk101;rw[if_neg l06] at e80;refine SQ (RG (AS G G (AS G G (NL (TN (RT ?_))))));obtain rfl:=oI e80;try dsimp only at e70
        obtain rfl:=oI e70;try dsimp only at e12
        obtain rfl:=oI e12;try dsimp only at h
        obtain rfl:=oI h;exact q0w G G G H.ext (⟨_,G,q1X⟩)
       replace hk101:b99=true:=by simpa using hk101
       subst hk101;rw[if_pos rfl] at e80;refine SK (TN ?_);obtain⟨l102,hxl102,e80⟩:=bnd e80;refine RG (ST (q02 Tu34 G Ts30 Dc G) G (ST (XL H Ta30) G ?_));refine ST (q0n H G Km Ta24 Ts24 Kf) G ?_;refine q1q (enc:=xenc24) xty30 ([(s96,s97,s98)]:List (Ls × Ls × Ls)) H (fun _=>G) G Kr G G G (q00 G) G ?_;intro v130 M w H hle hs130;replace hs22:=hs22.mono hle;replace f34_0:=f34_0.mono hle;replace f110_0:=f110_0.mono hle;replace hc120:=hc120.mono hle;replace hs120_0:=hs120_0.mono hle;refine q1P (l:=l89) xty30 G xone24 H G (fun _=>by repeat first|exact .head|apply Upd.tail) G (hs130) hxl102 (q00 G) G ?_;intro v131 w H;refine ST (q02 Tu34 G Ts30 Dc G) G (q1e [_,_,_] H G G (H.rowOneS Km) Ku Kf Ts30 (by first|decide|(simp;done)|(simp;omega)) (q00 G) ?_);intro w H;refine NL (IB (TN ?_));obtain⟨n103,hxn103,e80⟩:=bnd e80;refine RG (MV G G (ST (q0l G G hxn103) G (AS G G (NL ?_))));exact AG m92 ⟨_,_,_,_,_,_,G,(H.pick (L':=[RowS 34 xrl34.k xrl34.enc v20 g21, .blk bk14 (.cells #[S s86,Value.bool b87,v131] 34),RowS 24 3 xenc24 v131 l102]) Kp),hs22,f34_0,f110_0,e80⟩ (l0b _)
      rw[if_neg hk94] at e80;refine q0r (q06 (q06 (q0f ?_)));exact MN ⟨_,_,_,_,_,G,H,hs22,f34_0,e80⟩
     rintro e w ⟨s81,b82,l84,v85,M,rfl,H,hs22,f34_0,q104⟩;obtain rfl:=oI q104;try dsimp only at e70
     exact MN ⟨_,_,_,_,_,G,H,hs22,f34_0,e70⟩
    rw[if_neg hk76] at e70;refine SK ?_;replace H:=H.newRowS 24 3 xenc24;exact MN ⟨_,_,_,_,_,G,(H.pick (L':=[RowS 34 xrl34.k xrl34.enc v20 g21, .blk bk14 (.cells #[S s53,Value.bool true,(Value.slice none 0 0)] 34),RowS 24 3 xenc24 (Value.slice none 0 0) []]) Kp),hs22,f34_0,e70⟩
   rintro e w ⟨s71,b72,l74,v75,M,rfl,H,hs22,f34_0,q108⟩;obtain rfl:=oI q108;try dsimp only at e12
   refine TN ?_;obtain⟨l111,hxl111,e12⟩:=bnd e12;refine RG (MV G G (ST (q0n H G Km Ta34 Ts34 Kf) G ?_));obtain⟨M,hle,hs109,H⟩:=H.freezeRowS (v:=v75) (enc:=xenc24) (t:=24) Kv (fun _=>rfl);replace hs22:=hs22.mono hle;replace f34_0:=f34_0.mono hle;have Hn:=H;obtain⟨q110,rfl⟩:=hs109.hd;have H:=Hn;refine q1q (enc:=xrl34.enc) xty22 ([(s71,b72,q110)]:List (Ls × Bool × Hd)) H (fun _=>G) G Kr G G G (q00 G) G ?_;intro v135 M w H hle hs135;replace hs22:=hs22.mono hle;replace f34_0:=f34_0.mono hle;replace hs109:=hs109.mono hle;replace hs135:=q2c (R:=xrl34) (l:=([(s71,b72,l74)]:List (Ls × Bool × List (Ls × Ls × Ls)))) hs135 ⟨⟨rfl,rfl,hs109⟩,trivial⟩;refine q2l (R:=xrl34) (l:=l19) xty22 G H hs22 G (fun _=>by repeat first|exact .head|apply Upd.tail) G (hs135) hxl111 (q00 G) G ?_;intro v136 g136 w hr136 H;refine AS G G (NL (IB (TN ?_)));obtain⟨n112,hxn112,e12⟩:=bnd e12;refine RG (MV G G (ST (q0l G G hxn112) G (AS G G (NL ?_))));exact AG m24 ⟨_,_,_,_,_,G,(H.pick (L':=[RowS 34 xrl34.k xrl34.enc v136 g136]) Kp),hr136,f34_0,e12⟩ (l0b _)
  rw[if_neg hk27] at e12;refine q0r (q06 (q06 (q0f ?_)));exact MN ⟨_,_,_,_,G,H,hs22,e12⟩
 rintro e w ⟨l14,v15,g16,M,rfl,H,hs17,q115⟩;obtain rfl:=oI q115;try dsimp only at h
 refine TN (SQ (RG (MV G G (AS G G (AS G G (NL (TN (RT ?_))))))));obtain⟨M,hle,hs116,H⟩:=H.freezeRowS (v:=v15) (enc:=xrl34.enc) (t:=34) Kv (fun _=>rfl);replace hs17:=hs17.mono hle;replace hs116:=q2c (R:=xrl34) hs116 hs17;obtain rfl:=oI h;exact q0w G G G H.ext (⟨_,G,hs116⟩)
theorem Y2A {p0:Ls}{r:Int}(h:Y1T p0=some r):Ct Tryz.prog 34 [S p0] (fun M=>True) (fun v M=>v=I r):=by
 refine Ct.of Tryz.func34 (enters Tryz.func34 Kr G) G G G ?_;intro w0 M0 H hp;unfold Y1T at h;refine SQ (RG (AS G G (NL (TN (SQ (SQ (RG (MV G G (ST (q0i Tu9 G) G (ST (q0J G G) G (NL (TN ?_))))))))))));refine CB (p:=(500:Int)<(p0.length:Int)) G (fun hk1=>?_) fun hk1=>?_
 ·
  rw[if_pos hk1] at h;refine SQ (RG (AS G G (NL (TN (RT ?_)))));obtain rfl:=oI h;exact q08 G G H.ext G
 rw[if_neg hk1] at h;refine SK (TN (SQ (SQ ?_)));obtain⟨b2,hx3,h⟩:=bnd h;refine RG (MV G G (q05 H (Y5j hx3) G trivial (q00 G) G ?_));intro v7 M w H hle hR;obtain rfl:=hR;refine ST (q0P G) G (NL (TN ?_));refine q0m G (fun hk4=>?_) (fun hk4=>?_)
 ·
  replace hk4:b2=false:=by simpa using hk4
  subst hk4;rw[if_neg l06] at h;refine SQ (RG (AS G G (NL (TN (RT ?_)))));obtain rfl:=oI h;exact q08 G G H.ext G
 replace hk4:b2=true:=by simpa using hk4
 subst hk4;rw[if_pos rfl] at h;refine SK (TN (SQ (RG (AS G G (NL (TN (RT ?_)))))));obtain rfl:=oI h;exact q08 G G H.ext G
theorem Y1J {p0:(Ls × Ls × Ls)}{r:(Int × Int)}(h:Y1Y p0=some r):Ct Tryz.prog 11 [Value.agg #[S p0.1,S p0.2.1,S p0.2.2]] (fun M=>True) (fun v M=>v=Value.agg #[I r.1,I r.2]):=by
 refine Ct.of Tryz.func11 (enters Tryz.func11 Kr G) G G G ?_;intro w0 M0 H hp;unfold Y1Y at h;refine SQ (RG (q1C [_,_,_] H G G (q00 G) G ?_));intro bk1 w H;refine q0k [_,_] H Tz27 G (q00 G) G ?_;intro bk2 w H;refine NL (TN (SQ (SQ ?_)));obtain⟨n1,hx2,h⟩:=bnd h;refine RG (ST (q02 Tu24 G Ts9 Dc G) G (ST (XL H Ta9) G ?_));refine q05 H (Y2A hx2) G trivial (q00 G) G ?_;intro v5 M w H hle hR;obtain rfl:=hR;refine ST (q1n G G) G (NL (TN ?_));refine q0m G (fun hk3=>?_) (fun hk3=>?_)
 ·
  replace hk3 :¬(n1=(0:Int)):=of_not_decide hk3;rw[if_neg hk3] at h;refine SQ ?_;obtain⟨n4,hx5,h⟩:=bnd h;obtain⟨⟨n6,n7⟩,hx8,h⟩:=bnd h;try dsimp only at h
  refine RG (ST (q02 Tu24 G Ts9 Dc G) G (ST (XL H Ta9) G ?_));refine q05 H (Y2A hx5) G trivial (q00 G) G ?_;intro v9 M w H hle hR;obtain rfl:=hR;refine q05 H (R_At_ct hx8) G trivial (q00 G) G ?_;intro v10 M w H hle hR;try dsimp only at hR
  obtain rfl:=hR;refine q0b [_,_] H G G G Ku Ts27 G Kf Kf (q00 G) ?_;intro w H;refine NL (TN (RT ?_));obtain rfl:=oI h;exact q08 G ⟨_,G,H.loadAgg Km Ta27 Ts27 Kf⟩ H.ext G
 replace hk3:n1=(0:Int):=of_not_decide' hk3;rw[if_pos hk3] at h;refine SK (TN (SQ (SQ ?_)));obtain⟨b9,hx10,h⟩:=bnd h;refine RG (ST (q02 Tu24 G Ts9 Dc G) G (ST (XL H Ta9) G ?_));refine q05 H (Y0C hx10) G trivial (q00 G) G ?_;intro v13 M w H hle hR;obtain rfl:=hR;refine ST (q0P G) G (NL (TN ?_));refine q0m G (fun hk11=>?_) (fun hk11=>?_)
 ·
  replace hk11:b9=false:=by simpa using hk11
  subst hk11;rw[if_neg l06] at h;refine SQ ?_;obtain⟨⟨n12,n13⟩,hx14,h⟩:=bnd h;try dsimp only at h
  refine RG (q05 H (R_At_ct hx14) G trivial (q00 G) G ?_);intro v15 M w H hle hR;try dsimp only at hR
  obtain rfl:=hR;refine q0b [_,_] H G G G Ku Ts27 G Kf Kf (q00 G) ?_;intro w H;refine NL (TN (RT ?_));obtain rfl:=oI h;exact q08 G ⟨_,G,H.loadAgg Km Ta27 Ts27 Kf⟩ H.ext G
 replace hk11:b9=true:=by simpa using hk11
 subst hk11;rw[if_pos rfl] at h;refine SK (TN (SQ (SQ ?_)));obtain⟨o15,e16,h⟩:=bnd h;refine q0j (fun e w =>∃(b17:Bool) (M:Mem),e=[(2,ptr bk2 0),(25,Value.bool b17)]∧St w0 M0 M [.blk bk2 (.cells #[I 0,I 0] 27)] w∧some b17=some o15) [] ?_ ?_ (trivial)
 ·
  refine RG (ST (q02 Tu24 G Ts9 Dc G) G (ST (XL H Ta9) G ?_));refine ST (q0i Tu9 G) G ?_;by_cases hk18:(60:Int)<(p0.2.2.length:Int)
  ·
   rw[if_pos hk18] at e16;refine DT hk18 (q0J G G) G (MV G G (q0d 4 G G (PT G G G (NL ?_))));exact MN ⟨_,_,G,(H.pick (L':=[.blk bk2 (.cells #[I 0,I 0] 27)]) Kp),e16⟩
  rw[if_neg hk18] at e16;obtain⟨b19,hx20,e16⟩:=bnd e16;refine DF hk18 (q0J G G) G (MV G G (SG (q02 Tu24 G Ts9 Dc G) G G G (SG (XL H Ta9) G G G ?_)));refine q05 H (Y0x hx20) G trivial (q04 G G G) G ?_;intro v23 M w H hle hR;obtain rfl:=hR;refine SG (q0P G) G G G (PF G G G (NL ?_));exact MN ⟨_,_,G,(H.pick (L':=[.blk bk2 (.cells #[I 0,I 0] 27)]) Kp),e16⟩
 rintro e w ⟨b17,M,rfl,H,q21⟩;obtain rfl:=oI q21;refine TN ?_;refine q0m G (fun hk22=>?_) (fun hk22=>?_)
 ·
  subst hk22;rw[if_pos rfl] at h;refine SQ ?_;obtain⟨⟨n23,n24⟩,hx25,h⟩:=bnd h;try dsimp only at h
  refine RG (q05 H (R_At_ct hx25) G trivial (q00 G) G ?_);intro v26 M w H hle hR;try dsimp only at hR
  obtain rfl:=hR;refine q0b [_,_] H G G G Ku Ts27 G Kf Kf (q00 G) ?_;intro w H;refine NL (TN (RT ?_));obtain rfl:=oI h;exact q08 G ⟨_,G,H.loadAgg Km Ta27 Ts27 Kf⟩ H.ext G
 subst hk22;rw[if_neg l06] at h;refine SK (TN (SQ (RG (ST (q0B [I 0,I 0] Tu27 Tz27 (xplaces27 Tu27) G G) G (q0b [_,_] H G G G Ku Ts27 G Kf Kf (q00 G) ?_)))));intro w H;refine NL (TN (RT ?_));obtain rfl:=oI h;exact q08 G ⟨_,G,H.loadAgg Km Ta27 Ts27 Kf⟩ H.ext G
theorem Y1p {p0:List (Ls × Bool × List (Ls × Ls × Ls))}{vp0:Value}{r:(Int × Int)}(h:Y24 p0=some r):Ct Tryz.prog 13 [vp0] (fun M=>SlR xrl34 M vp0 p0) (fun v M=>v=Value.agg #[I r.1,I r.2]):=by
 refine Ct.of Tryz.func13 (enters Tryz.func13 Kr G) G G G ?_;intro w0 M0 H hp;have hp0:=hp;unfold Y24 at h;refine SQ (RG (q0k [_,_] H Tz27 G (q00 G) G ?_));intro bk2 w H;refine NL (TN (SQ (RG (AS G G (NL (TN (SQ (SQ (RG (AS G G (NL (TN ?_))))))))))));obtain⟨o1,e2,h⟩:=bnd h;refine q0j (fun e w =>∃(n3:Int) (M:Mem),e=[(0,vp0),(2,ptr bk2 0),(3,I n3)]∧St w0 M0 M [.blk bk2 (.cells #[I 0,I 0] 27)] w∧SlR xrl34 M vp0 p0∧some n3=some o1) [] ?_ ?_ (trivial)
 ·
  refine BL (q0F (fun m e w =>∃(n4:Int) (n5:Int) (M:Mem),e=[(0,vp0),(2,ptr bk2 0),(3,I n4),(4,I n5)]∧St w0 M0 M [.blk bk2 (.cells #[I 0,I 0] 27)] w∧SlR xrl34 M vp0 p0∧Y15 p0 m n4 n5=some o1) FU [(0,_),(2,_),(3,_),(4,_)] ⟨rfl,rfl,rfl,rfl,trivial⟩ ⟨_,_,_,rfl,H,hp0,e2⟩ ?_);rintro m6 e w ⟨n4,n5,M,rfl,H,hp0,e2⟩;rcases m6 with _|m6
  · rw[Y15] at e2;cases e2
  rw[Y15] at e2;refine SQ (SQ (RG (MV G G (MV G G (ST (q1h Tu22 hp0 G) G (ST (q0q G G) G (NL (TN ?_))))))));refine CB (p:=n5<(p0.length:Int)) G (fun hk7=>?_) fun hk7=>?_
  ·
   rw[if_pos hk7] at e2;refine SK (TN (SQ (BL ?_)));obtain⟨a8,hxa8,e2⟩:=bnd e2;obtain⟨bk18,o18,fq18,ha18,hc18,hr18⟩:=hp0.atC hxa8;obtain⟨f18_0,f18_1,q18_2⟩:=fq18;replace hr18:f18_0=a8.1∧f18_1=a8.2.1∧SlS M 3 xenc24 (hv q18_2) a8.2.2:=hr18;obtain⟨rfl,rfl,hs18_2⟩:=hr18;refine RG (MV G G (MV G G (MV G G (ST (q0t ha18 Tu22 Ts34 G G) G (ST (q02 Tu34 G Ts30 Dc G) G (ST (q07 H G (hc18.at (j:=2) G) Ta30) G (ST (q0U Tu30 hs18_2 G) G (ST (Ex.add G G) G (AS G G (NL (IB (TN ?_))))))))))));obtain⟨n9,hxn9,e2⟩:=bnd e2;refine RG (MV G G (ST (q0l G G hxn9) G (AS G G (NL ?_))));exact AG m6 ⟨_,_,_,G,H,hp0,e2⟩ (l0b _)
  rw[if_neg hk7] at e2;refine q0r (q06 (q06 (q0f ?_)));exact MN ⟨_,_,G,H,hp0,e2⟩
 rintro e w ⟨n3,M,rfl,H,hp0,q10⟩;obtain rfl:=oI q10;refine TN (SQ (SQ ?_));obtain⟨o11,e12,h⟩:=bnd h;refine q0j (fun e w =>∃(b13:Bool) (M:Mem),e=[(0,vp0),(2,ptr bk2 0),(29,Value.bool b13)]∧St w0 M0 M [.blk bk2 (.cells #[I 0,I 0] 27)] w∧SlR xrl34 M vp0 p0∧some b13=some o11) [] ?_ ?_ (trivial)
 ·
  refine RG (MV G G (ST (q1h Tu22 hp0 G) G ?_));by_cases hk14:(60:Int)<(p0.length:Int)
  ·
   rw[if_pos hk14] at e12;refine DT hk14 (q0J G G) G (MV G G (GT G G G (GT G G G (PT G G G (NL ?_)))));exact MN ⟨_,_,G,H,hp0,e12⟩
  rw[if_neg hk14] at e12;refine DF hk14 (q0J G G) G (MV G G (SG (q01 G) G G G (SG (q0J G G) G G G (PF G G G (NL ?_)))));exact MN ⟨_,_,G,H,hp0,e12⟩
 rintro e w ⟨b13,M,rfl,H,hp0,q15⟩;obtain rfl:=oI q15;refine TN ?_;refine q0m G (fun hk16=>?_) (fun hk16=>?_)
 ·
  subst hk16;rw[if_pos rfl] at h;refine SQ ?_;obtain⟨⟨n17,n18⟩,hx19,h⟩:=bnd h;try dsimp only at h
  refine RG (q05 H (R_At_ct hx19) G trivial (q00 G) G ?_);intro v30 M w H hle hR;replace hp0:=hp0.mono hle;try dsimp only at hR
  obtain rfl:=hR;refine q0b [_,_] H G G G Ku Ts27 G Kf Kf (q00 G) ?_;intro w H;refine NL (TN (RT ?_));obtain rfl:=oI h;exact q08 G ⟨_,G,H.loadAgg Km Ta27 Ts27 Kf⟩ H.ext G
 subst hk16;rw[if_neg l06] at h;refine SK (TN (SQ (SQ (RG (AS G G (NL (TN ?_)))))));obtain⟨o20,e21,h⟩:=bnd h;refine q0j (fun e w =>∃(n22:Int) (n23:Int) (M:Mem),e=[(2,ptr bk2 0)]∧St w0 M0 M [.blk bk2 (.cells #[I n22,I n23] 27)] w∧some (.inl (n22,n23))=some o20) [] ?_ ?_ (trivial)
 ·
  refine BL (q0F (fun m e w =>∃(n24:Int) (n25:Int) (n26:Int) (M:Mem),e=[(0,vp0),(2,ptr bk2 0),(5,I n26)]∧St w0 M0 M [.blk bk2 (.cells #[I n24,I n25] 27)] w∧SlR xrl34 M vp0 p0∧Y16 p0 m n24 n25 n26=some o20) FU [(0,_),(2,_),(5,_)] ⟨rfl,rfl,rfl,trivial⟩ ⟨_,_,_,_,rfl,H,hp0,e21⟩ ?_);rintro m27 e w ⟨n24,n25,n26,M,rfl,H,hp0,e21⟩;rcases m27 with _|m27
  · rw[Y16] at e21;cases e21
  rw[Y16] at e21;refine SQ (SQ (RG (MV G G (MV G G (ST (q1h Tu22 hp0 G) G (ST (q0q G G) G (NL (TN ?_))))))));refine CB (p:=n26<(p0.length:Int)) G (fun hk28=>?_) fun hk28=>?_
  ·
   rw[if_pos hk28] at e21;refine SK (TN (SQ (BL (SQ ?_))));obtain⟨a29,hxa29,e21⟩:=bnd e21;obtain⟨bk39,o39,fq39,ha39,hc39,hr39⟩:=hp0.atC hxa29;obtain⟨f39_0,f39_1,q39_2⟩:=fq39;replace hr39:f39_0=a29.1∧f39_1=a29.2.1∧SlS M 3 xenc24 (hv q39_2) a29.2.2:=hr39;obtain⟨rfl,rfl,hs39_2⟩:=hr39;refine RG (MV G G (MV G G (ST (q0t ha39 Tu22 Ts34 G G) G (ST (q1j H G hc39 Ta34 Ts34 Kf) G ?_))));refine q0k [_,_,_] H Tz34 G (q00 G) G ?_;intro bk6 w H;refine q0b [_,_,_] H G G G Ku Ts34 G Kf (by simp only[l0B,l1Y,(hs39_2).one.2];rfl) (q00 G) ?_;intro w H;refine NL (TN (SQ (SQ ?_)));obtain⟨n30,hx31,e21⟩:=bnd e21;refine RG (ST (q02 Tu34 G Ts9 Dc G) G (ST (XL H Ta9) G ?_));refine q05 H (Y2A hx31) G trivial (q00 G) G ?_;intro v43 M w H hle hR;replace hp0:=hp0.mono hle;replace hc39:=hc39.mono hle;replace hs39_2:=hs39_2.mono hle;obtain rfl:=hR;refine ST (q1n G G) G (NL (TN ?_));refine q0m G (fun hk32=>?_) (fun hk32=>?_)
   ·
    replace hk32 :¬(n30=(0:Int)):=of_not_decide hk32;rw[if_neg hk32] at e21;refine SQ ?_;obtain⟨n33,hx34,e21⟩:=bnd e21;obtain⟨⟨n35,n36⟩,hx37,e21⟩:=bnd e21;try dsimp only at e21
    refine RG (ST (q02 Tu34 G Ts9 Dc G) G (ST (XL H Ta9) G ?_));refine q05 H (Y2A hx34) G trivial (q00 G) G ?_;intro v47 M w H hle hR;replace hp0:=hp0.mono hle;replace hc39:=hc39.mono hle;replace hs39_2:=hs39_2.mono hle;obtain rfl:=hR;refine MV G G (q05 H (R_At_ct hx37) G trivial (q00 G) G ?_);intro v49 M w H hle hR;replace hp0:=hp0.mono hle;replace hc39:=hc39.mono hle;replace hs39_2:=hs39_2.mono hle;try dsimp only at hR
    obtain rfl:=hR;refine q0b [_,_] H G G G Ku Ts27 G Kf Kf (q00 G) ?_;intro w H;refine NL (TN (RT ?_));obtain rfl:=oI e21;try dsimp only at h
    obtain rfl:=oI h;exact q08 G ⟨_,G,H.loadAgg Km Ta27 Ts27 Kf⟩ H.ext G
   replace hk32:n30=(0:Int):=of_not_decide' hk32;rw[if_pos hk32] at e21;refine SK (TN (SQ (SQ ?_)));obtain⟨o38,e39,e21⟩:=bnd e21;refine q0j (fun e w =>∃(b40:Bool) (M:Mem),e=[(0,vp0),(2,ptr bk2 0),(5,I n26),(6,ptr bk6 0),(72,Value.bool b40)]∧St w0 M0 M [.blk bk2 (.cells #[I n24,I n25] 27), .blk bk6 (.cells #[S a29.1,Value.bool a29.2.1,(hv q39_2)] 34)] w∧SlR xrl34 M vp0 p0∧SlS M 3 xenc24 (hv q39_2) a29.2.2∧some b40=some o38) [] ?_ ?_ (trivial)
   ·
    by_cases hk41:a29.2.1=true
    ·
     rw[if_pos hk41] at e39;refine RG (ST (q02 Tu34 G Ts4 Dc G) G (q09 (v' := .bool true) (XL H Ta4) (congrArg Value.bool hk41) (q00 G) G G ?_));by_cases hk42:a29.1=[]
     ·
      rw[if_pos hk42] at e39;refine MV G G (SG (q02 Tu34 G Ts9 Dc G) G G G (SG (XL H Ta9) G G G ?_));refine DU hk42 (q0L G G) G G G (PT G G G (MV G G (q0d 14 G G (PT G G G (NL ?_)))));exact MN ⟨_,_,G,(H.pick (L':=[.blk bk2 (.cells #[I n24,I n25] 27), .blk bk6 (.cells #[S a29.1,Value.bool a29.2.1,(hv q39_2)] 34)]) Kp),hp0,hs39_2,e39⟩
     rw[if_neg hk42] at e39;by_cases hk43:a29.2.1=true
     ·
      rw[if_pos hk43] at e39;refine MV G G (SG (q02 Tu34 G Ts9 Dc G) G G G (SG (XL H Ta9) G G G ?_));refine DG hk42 (q0L G G) G G G (PT G G G (MV G G (SG (q02 Tu34 G Ts4 Dc G) G G G (SG (XL H Ta4) G G G ?_))));refine q09 (v' := .bool false) (q0P G) (congrArg Value.bool (by rw[hk43];rfl)) (q04 G G G) G G ?_;refine SG (q01 G) G G G (q0d 9 G G (SG (q0o G G) G G G (PF G G G (NL ?_))));exact MN ⟨_,_,G,(H.pick (L':=[.blk bk2 (.cells #[I n24,I n25] 27), .blk bk6 (.cells #[S a29.1,Value.bool a29.2.1,(hv q39_2)] 34)]) Kp),hp0,hs39_2,e39⟩
     rw[if_neg hk43] at e39;by_cases hk44:a29.1=[]
     ·
      rw[if_pos hk44] at e39;refine MV G G (SG (q02 Tu34 G Ts9 Dc G) G G G (SG (XL H Ta9) G G G ?_));refine DG hk42 (q0L G G) G G G (PT G G G (MV G G (SG (q02 Tu34 G Ts4 Dc G) G G G (SG (XL H Ta4) G G G ?_))));refine q09 (v' := .bool true) (q0P G) (congrArg Value.bool (by rw[(l1h hk43)];rfl)) (q04 G G G) G G ?_;refine SG (q01 G) G G G (SG (q02 Tu34 G Ts9 Dc G) G G G (SG (XL H Ta9) G G G ?_));refine q09 (v' := .bool false) (q1A G G) (congrArg Value.bool (by rw[decide_eq_true hk44];rfl)) (q04 G G G) G G ?_;refine SG (q01 G) G G G (SG (q02 Tu34 G Ts30 Dc G) G G G (SG (XL H Ta30) G G G ?_));refine SG (q0U Tu30 hs39_2 G) G G G (SG (q1n G G) G G G (SG (q0o G G) G G G (SG (q0p G G) G G G (PF G G G (NL ?_)))));exact MN ⟨_,_,G,(H.pick (L':=[.blk bk2 (.cells #[I n24,I n25] 27), .blk bk6 (.cells #[S a29.1,Value.bool a29.2.1,(hv q39_2)] 34)]) Kp),hp0,hs39_2,e39⟩
     rw[if_neg hk44] at e39;refine MV G G (SG (q02 Tu34 G Ts9 Dc G) G G G (SG (XL H Ta9) G G G ?_));refine DG hk42 (q0L G G) G G G (PT G G G (MV G G (SG (q02 Tu34 G Ts4 Dc G) G G G (SG (XL H Ta4) G G G ?_))));refine q09 (v' := .bool true) (q0P G) (congrArg Value.bool (by rw[(l1h hk43)];rfl)) (q04 G G G) G G ?_;refine SG (q01 G) G G G (SG (q02 Tu34 G Ts9 Dc G) G G G (SG (XL H Ta9) G G G ?_));refine q09 (v' := .bool true) (q1A G G) (congrArg Value.bool (by rw[decide_eq_false hk44];rfl)) (q04 G G G) G G ?_;refine SG (q01 G) G G G (q0d 4 G G (SG (q0p G G) G G G (SG (q0p G G) G G G (PF G G G (NL ?_)))));exact MN ⟨_,_,G,(H.pick (L':=[.blk bk2 (.cells #[I n24,I n25] 27), .blk bk6 (.cells #[S a29.1,Value.bool a29.2.1,(hv q39_2)] 34)]) Kp),hp0,hs39_2,e39⟩
    rw[if_neg hk41] at e39;refine RG (ST (q02 Tu34 G Ts4 Dc G) G (q09 (v' := .bool false) (XL H Ta4) (congrArg Value.bool (l1h hk41)) (q00 G) G G ?_));by_cases hk45:a29.2.1=true
    ·
     rw[if_pos hk45] at e39;refine MV G G (q0d 3 G G (PF G G G (MV G G (SG (q02 Tu34 G Ts4 Dc G) G G G (SG (XL H Ta4) G G G ?_)))));refine q09 (v' := .bool false) (q0P G) (congrArg Value.bool (by rw[hk45];rfl)) (q04 G G G) G G ?_;refine SG (q01 G) G G G (q0d 9 G G (SG (q0o G G) G G G (PF G G G (NL ?_))));exact MN ⟨_,_,G,(H.pick (L':=[.blk bk2 (.cells #[I n24,I n25] 27), .blk bk6 (.cells #[S a29.1,Value.bool a29.2.1,(hv q39_2)] 34)]) Kp),hp0,hs39_2,e39⟩
    rw[if_neg hk45] at e39;by_cases hk46:a29.1=[]
    ·
     rw[if_pos hk46] at e39;refine MV G G (q0d 3 G G (PF G G G (MV G G (SG (q02 Tu34 G Ts4 Dc G) G G G (SG (XL H Ta4) G G G ?_)))));refine q09 (v' := .bool true) (q0P G) (congrArg Value.bool (by rw[(l1h hk45)];rfl)) (q04 G G G) G G ?_;refine SG (q01 G) G G G (SG (q02 Tu34 G Ts9 Dc G) G G G (SG (XL H Ta9) G G G ?_));refine q09 (v' := .bool false) (q1A G G) (congrArg Value.bool (by rw[decide_eq_true hk46];rfl)) (q04 G G G) G G ?_;refine SG (q01 G) G G G (SG (q02 Tu34 G Ts30 Dc G) G G G (SG (XL H Ta30) G G G ?_));refine SG (q0U Tu30 hs39_2 G) G G G (SG (q1n G G) G G G (SG (q0o G G) G G G (SG (q0p G G) G G G (PF G G G (NL ?_)))));exact MN ⟨_,_,G,(H.pick (L':=[.blk bk2 (.cells #[I n24,I n25] 27), .blk bk6 (.cells #[S a29.1,Value.bool a29.2.1,(hv q39_2)] 34)]) Kp),hp0,hs39_2,e39⟩
    rw[if_neg hk46] at e39;refine MV G G (q0d 3 G G (PF G G G (MV G G (SG (q02 Tu34 G Ts4 Dc G) G G G (SG (XL H Ta4) G G G ?_)))));refine q09 (v' := .bool true) (q0P G) (congrArg Value.bool (by rw[(l1h hk45)];rfl)) (q04 G G G) G G ?_;refine SG (q01 G) G G G (SG (q02 Tu34 G Ts9 Dc G) G G G (SG (XL H Ta9) G G G ?_));refine q09 (v' := .bool true) (q1A G G) (congrArg Value.bool (by rw[decide_eq_false hk46];rfl)) (q04 G G G) G G ?_;refine SG (q01 G) G G G (q0d 4 G G (SG (q0p G G) G G G (SG (q0p G G) G G G (PF G G G (NL ?_)))));exact MN ⟨_,_,G,(H.pick (L':=[.blk bk2 (.cells #[I n24,I n25] 27), .blk bk6 (.cells #[S a29.1,Value.bool a29.2.1,(hv q39_2)] 34)]) Kp),hp0,hs39_2,e39⟩
   rintro e w ⟨b40,M,rfl,H,hp0,hs39_2,q47⟩;obtain rfl:=oI q47;refine TN ?_;refine q0m G (fun hk48=>?_) (fun hk48=>?_)
   ·
    subst hk48;rw[if_pos rfl] at e21;refine SQ ?_;obtain⟨⟨n49,n50⟩,hx51,e21⟩:=bnd e21;try dsimp only at e21
    refine RG (MV G G (q05 H (R_At_ct hx51) G trivial (q00 G) G ?_));intro v74 M w H hle hR;replace hp0:=hp0.mono hle;replace hs39_2:=hs39_2.mono hle;try dsimp only at hR
    obtain rfl:=hR;refine q0b [_,_] H G G G Ku Ts27 G Kf Kf (q00 G) ?_;intro w H;refine NL (TN (RT ?_));obtain rfl:=oI e21;try dsimp only at h
    obtain rfl:=oI h;exact q08 G ⟨_,G,H.loadAgg Km Ta27 Ts27 Kf⟩ H.ext G
   subst hk48;rw[if_neg l06] at e21;refine SK (TN (SQ (RG (AS G G (NL (TN ?_))))));obtain⟨o52,e53,e21⟩:=bnd e21;refine q0j (fun e w =>∃(n54:Int) (n55:Int) (M:Mem),e=[(0,vp0),(2,ptr bk2 0),(5,I n26)]∧St w0 M0 M [.blk bk2 (.cells #[I n54,I n55] 27)] w∧SlR xrl34 M vp0 p0∧some (.inl (n54,n55))=some o52) [] ?_ ?_ (trivial)
   ·
    refine BL (q0F (fun m e w =>∃(n56:Int) (n57:Int) (n58:Int) (M:Mem),e=[(0,vp0),(2,ptr bk2 0),(5,I n26),(6,ptr bk6 0),(7,I n58)]∧St w0 M0 M [.blk bk2 (.cells #[I n56,I n57] 27), .blk bk6 (.cells #[S a29.1,Value.bool a29.2.1,(hv q39_2)] 34)] w∧SlR xrl34 M vp0 p0∧SlS M 3 xenc24 (hv q39_2) a29.2.2∧Y0P n26 a29 m n56 n57 n58=some o52) FU [(0,_),(2,_),(5,_),(6,_),(7,_)] ⟨rfl,rfl,rfl,rfl,rfl,trivial⟩ ⟨_,_,_,_,rfl,H,hp0,hs39_2,e53⟩ ?_);rintro m59 e w ⟨n56,n57,n58,M,rfl,H,hp0,hs39_2,e53⟩;rcases m59 with _|m59
    · rw[Y0P] at e53;cases e53
    rw[Y0P] at e53;refine SQ (SQ (RG (MV G G (ST (q02 Tu34 G Ts30 Dc G) G (ST (XL H Ta30) G ?_)))));refine ST (q0U Tu30 hs39_2 G) G (ST (q0q G G) G (NL (TN ?_)));refine CB (p:=n58<(a29.2.2.length:Int)) G (fun hk60=>?_) fun hk60=>?_
    ·
     rw[if_pos hk60] at e53;refine SK (TN (SQ (BL (SQ ?_))));obtain⟨a61,hxa61,e53⟩:=bnd e53;obtain⟨bk85,o85,ha85,hc85⟩:=hs39_2.atC hxa61;obtain⟨⟨n62,n63⟩,hx64,e53⟩:=bnd e53;try dsimp only at e53
     refine RG (ST (q02 Tu34 G Ts30 Dc G) G (ST (XL H Ta30) G ?_));refine MV G G (ST (q0t ha85 Tu30 Ts24 G G) G (ST (q1j H G hc85 Ta24 Ts24 Kf) G ?_));refine q05 H (Y1J hx64) G trivial (q00 G) G ?_;intro v87 M w H hle hR;replace hp0:=hp0.mono hle;replace hs39_2:=hs39_2.mono hle;replace hc85:=hc85.mono hle;try dsimp only at hR
     obtain rfl:=hR;refine q0k [_,_] H Tz27 G (q00 G) G ?_;intro bk8 w H;refine q0b [_,_] H G G G Ku Ts27 G Kf Kf (q00 G) ?_;intro w H;refine NL (TN (SQ (RG (ST (q02 Tu27 G Ts3 Dc G) G (ST (XL H Ta3) G ?_)))));refine ST (q1n G G) G (NL (TN ?_));refine q0m G (fun hk65=>?_) (fun hk65=>?_)
     ·
      replace hk65 :¬(n62=(0:Int)):=of_not_decide hk65;rw[if_neg hk65] at e53;refine SQ ?_;obtain⟨⟨n66,n67⟩,hx68,e53⟩:=bnd e53;try dsimp only at e53
      refine RG (ST (q02 Tu27 G Ts3 Dc G) G (ST (XL H Ta3) G ?_));refine MV G G (q05 H (R_At_ct hx68) G trivial (q00 G) G ?_);intro v94 M w H hle hR;replace hp0:=hp0.mono hle;replace hs39_2:=hs39_2.mono hle;replace hc85:=hc85.mono hle;try dsimp only at hR
      obtain rfl:=hR;refine q0b [_,_] H G G G Ku Ts27 G Kf Kf (q00 G) ?_;intro w H;refine NL (TN (RT ?_));obtain rfl:=oI e53;try dsimp only at e21
      obtain rfl:=oI e21;try dsimp only at h
      obtain rfl:=oI h;exact q08 G ⟨_,G,H.loadAgg Km Ta27 Ts27 Kf⟩ H.ext G
     replace hk65:n62=(0:Int):=of_not_decide' hk65;rw[if_pos hk65] at e53;refine SK (IB (TN ?_));obtain⟨n69,hxn69,e53⟩:=bnd e53;refine RG (MV G G (ST (q0l G G hxn69) G (AS G G (NL ?_))));exact AG m59 ⟨_,_,_,_,G,(H.pick (L':=[.blk bk2 (.cells #[I n56,I n57] 27), .blk bk6 (.cells #[S a29.1,Value.bool a29.2.1,(hv q39_2)] 34)]) Kp),hp0,hs39_2,e53⟩ (l0b _)
    rw[if_neg hk60] at e53;refine q0r (q06 (q06 (q0f ?_)));exact MN ⟨_,_,_,G,(H.pick (L':=[.blk bk2 (.cells #[I n56,I n57] 27)]) Kp),hp0,e53⟩
   rintro e w ⟨n54,n55,M,rfl,H,hp0,q70⟩;obtain rfl:=oI q70;try dsimp only at e21
   refine IB (TN ?_);obtain⟨n71,hxn71,e21⟩:=bnd e21;refine RG (MV G G (ST (q0l G G hxn71) G (AS G G (NL ?_))));exact AG m27 ⟨_,_,_,_,G,H,hp0,e21⟩ (l0b _)
  rw[if_neg hk28] at e21;refine q0r (q06 (q06 (q0f ?_)));exact MN ⟨_,_,_,G,H,e21⟩
 rintro e w ⟨n22,n23,M,rfl,H,q74⟩;obtain rfl:=oI q74;try dsimp only at h
 refine TN (SQ (RG (ST (q0B [I 0,I 0] Tu27 Tz27 (xplaces27 Tu27) G G) G (q0b [_,_] H G G G Ku Ts27 G Kf Kf (q00 G) ?_))));intro w H;refine NL (TN (RT ?_));obtain rfl:=oI h;exact q08 G ⟨_,G,H.loadAgg Km Ta27 Ts27 Kf⟩ H.ext G
theorem Y3D {p0:List (Ls × Ls × Ls)}{p1:List (Ls × Ls × Ls)}{vp0:Value}{vp1:Value}{r:Bool}(h:Y21 p0 p1=some r):Ct Tryz.prog 15 [vp0,vp1] (fun M=>SlS M 3 xenc24 vp0 p0∧SlS M 3 xenc24 vp1 p1) (fun v M=>v=Value.bool r):=by
 refine Ct.of Tryz.func15 (enters Tryz.func15 Kr G) G G G ?_;intro w0 M0 H hp;obtain⟨hp0,hp1⟩:=hp;unfold Y21 at h;refine SQ (RG (AS G G (NL (TN (SQ (SQ (RG (MV G G (ST (q0U Tu30 hp0 G) G (MV G G (ST (q0U Tu30 hp1 G) G (ST (q1n G G) G (NL (TN ?_))))))))))))));refine q0m G (fun hk1=>?_) (fun hk1=>?_)
 ·
  replace hk1 :¬((p0.length:Int)=(p1.length:Int)):=of_not_decide hk1;rw[if_neg hk1] at h;refine SQ (RG (AS G G (NL (TN (RT ?_)))));obtain rfl:=oI h;exact q08 G G H.ext G
 replace hk1:(p0.length:Int)=(p1.length:Int):=of_not_decide' hk1;rw[if_pos hk1] at h;refine SK (TN (SQ (SQ (RG (AS G G (NL (TN ?_)))))));obtain⟨o2,e3,h⟩:=bnd h;refine q0j (fun e w =>∃  (M:Mem),e=[]∧St w0 M0 M [] w∧some (.inl ())=some o2) [] ?_ ?_ (trivial)
 ·
  refine BL (q0F (fun m e w =>∃(n4:Int) (M:Mem),e=[(0,vp0),(1,vp1),(5,I n4)]∧St w0 M0 M [] w∧SlS M 3 xenc24 vp0 p0∧SlS M 3 xenc24 vp1 p1∧Y0H p0 p1 m n4=some o2) FU [(0,_),(1,_),(5,_)] ⟨rfl,rfl,rfl,trivial⟩ ⟨_,_,rfl,H,hp0,hp1,e3⟩ ?_);rintro m5 e w ⟨n4,M,rfl,H,hp0,hp1,e3⟩;rcases m5 with _|m5
  · rw[Y0H] at e3;cases e3
  rw[Y0H] at e3;refine SQ (SQ (RG (MV G G (MV G G (ST (q0U Tu30 hp0 G) G (ST (q0q G G) G (NL (TN ?_))))))));refine CB (p:=n4<(p0.length:Int)) G (fun hk6=>?_) fun hk6=>?_
  ·
   rw[if_pos hk6] at e3;refine SK (TN (SQ (BL (SQ ?_))));obtain⟨a7,hxa7,e3⟩:=bnd e3;obtain⟨bk19,o19,ha19,hc19⟩:=hp0.atC hxa7;obtain⟨a8,hxa8,e3⟩:=bnd e3;obtain⟨bk23,o23,ha23,hc23⟩:=hp1.atC hxa8;refine q0E (m:=9) G G H ?_;intro w H;refine TK 0 G (fun _=>q01 G) G (TK 1 G (fun _=>q01 G) G (TK 2 G (fun _=>q0t ha19 Tu30 Ts24 G G) G (TK 4 G (fun _=>q01 G) G (TK 5 G (fun _=>q01 G) G (TK 6 G (fun _=>q0t ha23 Tu30 Ts24 G G) G (q0Q (i:=3) [7] G Kr Kr Kr (q1j H G hc19 Ta24 Ts24 Kf) (q00 G) G G (fun _ _=>G) ?_))))));refine q0s (fuel:=0) [7,8] G Kr (ST (q1j H G hc23 Ta24 Ts24 Kf) G ?_);refine ST (q2j G G Kr (xeq24 a7.1 a8.1 a7.2.1 a8.2.1 a7.2.2 a8.2.2)) G (NA (q0h Kr (TN ?_)));refine q0m G (fun hk9=>?_) (fun hk9=>?_)
   ·
    replace hk9 :¬(a7.1=a8.1∧a7.2.1=a8.2.1∧a7.2.2=a8.2.2):=of_not_decide hk9;rw[if_neg hk9] at e3;refine SQ (RG (AS G G (NL (TN (RT ?_)))));obtain rfl:=oI e3;try dsimp only at h
    obtain rfl:=oI h;exact q08 G G H.ext G
   replace hk9:a7.1=a8.1∧a7.2.1=a8.2.1∧a7.2.2=a8.2.2:=of_not_decide' hk9;rw[if_pos hk9] at e3;refine SK (IB (TN ?_));obtain⟨n10,hxn10,e3⟩:=bnd e3;refine RG (MV G G (ST (q0l G G hxn10) G (AS G G (NL ?_))));exact AG m5 ⟨_,_,G,H,hp0,hp1,e3⟩ (l0b _)
  rw[if_neg hk6] at e3;refine q0r (q06 (q06 (q0f ?_)));exact MN ⟨_,G,H,e3⟩
 rintro e w ⟨M,rfl,H,q11⟩;obtain rfl:=oI q11;try dsimp only at h
 refine TN (SQ (RG (AS G G (NL (TN (RT ?_))))));obtain rfl:=oI h;exact q08 G G H.ext G
end Go.Proofs.YtkmjdamkifbddaaGreatDoor
end
section
namespace Go.Proofs.YtkmjdamkifbddaaGreatDoor
open Go Go.RowKit Go.Ph Go.Ph.Pl Go.Ph.Pf
theorem Y4j {p0:List (Ls × Bool × List (Ls × Ls × Ls))}{p1:List (Ls × Bool × List (Ls × Ls × Ls))}{vp0:Value}{vp1:Value}{r:Bool}(h:Y33 p0 p1=some r):Ct Tryz.prog 22 [vp0,vp1] (fun M=>SlR xrl34 M vp0 p0∧SlR xrl34 M vp1 p1) (fun v M=>v=Value.bool r):=by
 refine Ct.of Tryz.func22 (enters Tryz.func22 Kr G) G G G ?_;intro w0 M0 H hp;obtain⟨hp0,hp1⟩:=hp;unfold Y33 at h;refine SQ (RG (AS G G (NL (TN (SQ (SQ (RG (MV G G (ST (q1h Tu22 hp0 G) G (MV G G (ST (q1h Tu22 hp1 G) G (ST (q1n G G) G (NL (TN ?_))))))))))))));refine q0m G (fun hk1=>?_) (fun hk1=>?_)
 ·
  replace hk1 :¬((p0.length:Int)=(p1.length:Int)):=of_not_decide hk1;rw[if_neg hk1] at h;refine SQ (RG (AS G G (NL (TN (RT ?_)))));obtain rfl:=oI h;exact q08 G G H.ext G
 replace hk1:(p0.length:Int)=(p1.length:Int):=of_not_decide' hk1;rw[if_pos hk1] at h;refine SK (TN (SQ (SQ (RG (AS G G (NL (TN ?_)))))));obtain⟨o2,e3,h⟩:=bnd h;refine q0j (fun e w =>∃  (M:Mem),e=[]∧St w0 M0 M [] w∧some (.inl ())=some o2) [] ?_ ?_ (trivial)
 ·
  refine BL (q0F (fun m e w =>∃(n4:Int) (M:Mem),e=[(0,vp0),(1,vp1),(5,I n4)]∧St w0 M0 M [] w∧SlR xrl34 M vp0 p0∧SlR xrl34 M vp1 p1∧Y1h p0 p1 m n4=some o2) FU [(0,_),(1,_),(5,_)] ⟨rfl,rfl,rfl,trivial⟩ ⟨_,_,rfl,H,hp0,hp1,e3⟩ ?_);rintro m5 e w ⟨n4,M,rfl,H,hp0,hp1,e3⟩;rcases m5 with _|m5
  · rw[Y1h] at e3;cases e3
  rw[Y1h] at e3;refine SQ (SQ (RG (MV G G (MV G G (ST (q1h Tu22 hp0 G) G (ST (q0q G G) G (NL (TN ?_))))))));refine CB (p:=n4<(p0.length:Int)) G (fun hk6=>?_) fun hk6=>?_
  ·
   rw[if_pos hk6] at e3;refine SK (TN (SQ (BL (SQ ?_))));obtain⟨o7,e8,e3⟩:=bnd e3;refine q0j (fun e w =>∃(b9:Bool) (M:Mem),e=[(0,vp0),(1,vp1),(5,I n4),(54,Value.bool b9)]∧St w0 M0 M [] w∧SlR xrl34 M vp0 p0∧SlR xrl34 M vp1 p1∧some b9=some o7) [] ?_ ?_ (trivial)
   ·
    obtain⟨a10,hxa10,e8⟩:=bnd e8;obtain⟨bk19,o19,fq19,ha19,hc19,hr19⟩:=hp0.atC hxa10;obtain⟨f19_0,f19_1,q19_2⟩:=fq19;replace hr19:f19_0=a10.1∧f19_1=a10.2.1∧SlS M 3 xenc24 (hv q19_2) a10.2.2:=hr19;obtain⟨rfl,rfl,hs19_2⟩:=hr19;obtain⟨a11,hxa11,e8⟩:=bnd e8;obtain⟨bk24,o24,fq24,ha24,hc24,hr24⟩:=hp1.atC hxa11;obtain⟨f24_0,f24_1,q24_2⟩:=fq24;replace hr24:f24_0=a11.1∧f24_1=a11.2.1∧SlS M 3 xenc24 (hv q24_2) a11.2.2:=hr24;obtain⟨rfl,rfl,hs24_2⟩:=hr24;refine q0E (m:=38) G G H ?_;intro w H;refine TK 0 G (fun _=>q01 G) G (TK 1 G (fun _=>q01 G) G (TK 2 G (fun _=>q0t ha19 Tu22 Ts34 G G) G (TK 3 G (fun _=>q02 Tu34 G Ts9 Dc G) G (TK 5 G (fun _=>q01 G) G (TK 6 G (fun _=>q01 G) G (TK 7 G (fun _=>q0t ha24 Tu22 Ts34 G G) G ?_))))));refine TK 8 G (fun _=>q02 Tu34 G Ts9 Dc G) G (q0Q (i:=4) [9] G Kr Kr Kr (q07 H G (hc19.at (j:=0) G) Ta9) (q00 G) G G (fun _ _=>G) (ON 9 Kr G (ST (q07 H G (hc24.at (j:=0) G) Ta9) G (NA ?_))));by_cases hk12:a10.1=a11.1
    ·
     rw[if_pos hk12] at e8;obtain⟨a13,hxa13,e8⟩:=bnd e8;obtain⟨bk31,o31,fq31,ha31,hc31,hr31⟩:=hp0.atC hxa13;obtain⟨f31_0,f31_1,q31_2⟩:=fq31;replace hr31:f31_0=a13.1∧f31_1=a13.2.1∧SlS M 3 xenc24 (hv q31_2) a13.2.2:=hr31;obtain⟨rfl,rfl,hs31_2⟩:=hr31;obtain⟨a14,hxa14,e8⟩:=bnd e8;obtain⟨bk36,o36,fq36,ha36,hc36,hr36⟩:=hp1.atC hxa14;obtain⟨f36_0,f36_1,q36_2⟩:=fq36;replace hr36:f36_0=a14.1∧f36_1=a14.2.1∧SlS M 3 xenc24 (hv q36_2) a14.2.2:=hr36;obtain⟨rfl,rfl,hs36_2⟩:=hr36;by_cases hk15:a13.2.1=a14.2.1
     ·
      rw[if_pos hk15] at e8;obtain⟨a16,hxa16,e8⟩:=bnd e8;obtain⟨bk44,o44,fq44,ha44,hc44,hr44⟩:=hp0.atC hxa16;obtain⟨f44_0,f44_1,q44_2⟩:=fq44;replace hr44:f44_0=a16.1∧f44_1=a16.2.1∧SlS M 3 xenc24 (hv q44_2) a16.2.2:=hr44;obtain⟨rfl,rfl,hs44_2⟩:=hr44;obtain⟨a17,hxa17,e8⟩:=bnd e8;obtain⟨bk49,o49,fq49,ha49,hc49,hr49⟩:=hp1.atC hxa17;obtain⟨f49_0,f49_1,q49_2⟩:=fq49;replace hr49:f49_0=a17.1∧f49_1=a17.2.1∧SlS M 3 xenc24 (hv q49_2) a17.2.2:=hr49;obtain⟨rfl,rfl,hs49_2⟩:=hr49;obtain⟨b18,hx19,e8⟩:=bnd e8;refine q0s (fuel:=26) [10,11] G Kr (q09 (v' := .bool false) (q1A G G) (congrArg Value.bool (by rw[decide_eq_true hk12];rfl)) (q00 G) G G ?_);refine MV G G (NA (q0v (i:=12) G Kr Kr Kr (fun _=>q01 G) (q04 G G G) G G (fun _ _=>G) (q0v (i:=13) G Kr Kr Kr (fun _=>q01 G) (q04 G G G) G G (fun _ _=>G) (q0v (i:=14) G Kr Kr Kr (fun _=>q0t ha31 Tu22 Ts34 G G) (q04 G G G) G G (fun _ _=>G) (q0v (i:=15) G Kr Kr Kr (fun _=>q02 Tu34 G Ts4 Dc G) (q04 G G G) G G (fun _ _=>G) (q0v (i:=17) G Kr Kr Kr (fun _=>q01 G) (q04 G G G) G G (fun _ _=>G) (q0v (i:=18) G Kr Kr Kr (fun _=>q01 G) (q04 G G G) G G (fun _ _=>G) ?_)))))));refine q0v (i:=19) G Kr Kr Kr (fun _=>q0t ha36 Tu22 Ts34 G G) (q04 G G G) G G (fun _ _=>G) (q0v (i:=20) G Kr Kr Kr (fun _=>q02 Tu34 G Ts4 Dc G) (q04 G G G) G G (fun _ _=>G) (q0Q (i:=16) [21] G Kr Kr Kr (q07 H G (hc31.at (j:=1) G) Ta4) (q04 G G G) G G (fun _ _=>G) (q0s (fuel:=13) [21,22,23,24] G Kr (SG (q07 H G (hc36.at (j:=1) G) Ta4) G G G (q09 (v' := .bool false) (Ex.neqBo Tu4 G G) (congrArg Value.bool (by rw[decide_eq_true hk15];rfl)) (q04 G G G) G G ?_)))))
      refine PF G G G (MV G G (NA (q0v (i:=25) G Kr Kr Kr (fun _=>q01 G) (q04 G G G) G G (fun _ _=>G) (q0v (i:=26) G Kr Kr Kr (fun _=>q01 G) (q04 G G G) G G (fun _ _=>G) (q0v (i:=27) G Kr Kr Kr (fun _=>q0t ha44 Tu22 Ts34 G G) (q04 G G G) G G (fun _ _=>G) (q0v (i:=28) G Kr Kr Kr (fun _=>q02 Tu34 G Ts30 Dc G) (q04 G G G) G G (fun _ _=>G) (q0v (i:=30) G Kr Kr Kr (fun _=>q01 G) (q04 G G G) G G (fun _ _=>G) (q0v (i:=31) G Kr Kr Kr (fun _=>q01 G) (q04 G G G) G G (fun _ _=>G) ?_))))))));refine q0v (i:=32) G Kr Kr Kr (fun _=>q0t ha49 Tu22 Ts34 G G) (q04 G G G) G G (fun _ _=>G) (q0v (i:=33) G Kr Kr Kr (fun _=>q02 Tu34 G Ts30 Dc G) (q04 G G G) G G (fun _ _=>G) (q0Q (i:=29) [34] G Kr Kr Kr (q07 H G (hc44.at (j:=2) G) Ta30) (q04 G G G) G G (fun _ _=>G) (q0s (fuel:=0) [34,35,36,37] G Kr (SG (q07 H G (hc49.at (j:=2) G) Ta30) G G G (q05 H (Y3D hx19) G ⟨hs44_2,hs49_2⟩ (q04 G G G) G ?_)))));intro v52 M w H hle hR;replace hp0:=hp0.mono hle;replace hp1:=hp1.mono hle;replace hc19:=hc19.mono hle;replace hs19_2:=hs19_2.mono hle;replace hc24:=hc24.mono hle;replace hs24_2:=hs24_2.mono hle;replace hc31:=hc31.mono hle;replace hs31_2:=hs31_2.mono hle;replace hc36:=hc36.mono hle;replace hs36_2:=hs36_2.mono hle;replace hc44:=hc44.mono hle;replace hs44_2:=hs44_2.mono hle;replace hc49:=hc49.mono hle;replace hs49_2:=hs49_2.mono hle;obtain rfl:=hR;refine SG (q0P G) G G G (PF G G G (NA (q0h Kr ?_)));exact MN ⟨_,_,G,H,hp0,hp1,e8⟩
     rw[if_neg hk15] at e8;refine q0s (fuel:=26) [10,11] G Kr (q09 (v' := .bool false) (q1A G G) (congrArg Value.bool (by rw[decide_eq_true hk12];rfl)) (q00 G) G G ?_);refine MV G G (NA (q0v (i:=12) G Kr Kr Kr (fun _=>q01 G) (q04 G G G) G G (fun _ _=>G) (q0v (i:=13) G Kr Kr Kr (fun _=>q01 G) (q04 G G G) G G (fun _ _=>G) (q0v (i:=14) G Kr Kr Kr (fun _=>q0t ha31 Tu22 Ts34 G G) (q04 G G G) G G (fun _ _=>G) (q0v (i:=15) G Kr Kr Kr (fun _=>q02 Tu34 G Ts4 Dc G) (q04 G G G) G G (fun _ _=>G) (q0v (i:=17) G Kr Kr Kr (fun _=>q01 G) (q04 G G G) G G (fun _ _=>G) (q0v (i:=18) G Kr Kr Kr (fun _=>q01 G) (q04 G G G) G G (fun _ _=>G) ?_)))))));refine q0v (i:=19) G Kr Kr Kr (fun _=>q0t ha36 Tu22 Ts34 G G) (q04 G G G) G G (fun _ _=>G) (q0v (i:=20) G Kr Kr Kr (fun _=>q02 Tu34 G Ts4 Dc G) (q04 G G G) G G (fun _ _=>G) (q0Q (i:=16) [21] G Kr Kr Kr (q07 H G (hc31.at (j:=1) G) Ta4) (q04 G G G) G G (fun _ _=>G) (q0s (fuel:=13) [21,22,23,24] G Kr (SG (q07 H G (hc36.at (j:=1) G) Ta4) G G G (q09 (v' := .bool true) (Ex.neqBo Tu4 G G) (congrArg Value.bool (by rw[decide_eq_false hk15];rfl)) (q04 G G G) G G ?_)))));refine PF G G G (MV G G (NA (q1B (fuel:=7) [25,26,27,28,29,30] G Kr Kr G (q0s (fuel:=0) [31,32,33,34,35,36,37] G Kr (q0d 6 G G (PT G G G (NA (q0h Kr ?_))))))));exact MN ⟨_,_,G,H,hp0,hp1,e8⟩
    rw[if_neg hk12] at e8;refine q0s (fuel:=26) [10,11] G Kr (q09 (v' := .bool true) (q1A G G) (congrArg Value.bool (by rw[decide_eq_false hk12];rfl)) (q00 G) G G ?_);refine MV G G (NA (q1B (fuel:=20) [12,13,14,15,16,17] G Kr Kr G (q0s (fuel:=13) [18,19,20,21,22,23,24] G Kr (q0d 5 G G (PT G G G (MV G G (NA (q1B (fuel:=7) [25,26,27,28,29,30] G Kr Kr G (q0s (fuel:=0) [31,32,33,34,35,36,37] G Kr (q0d 6 G G (PT G G G (NA (q0h Kr ?_)))))))))))));exact MN ⟨_,_,G,H,hp0,hp1,e8⟩
   rintro e w ⟨b9,M,rfl,H,hp0,hp1,q20⟩;obtain rfl:=oI q20;refine TN ?_;refine q0m G (fun hk21=>?_) (fun hk21=>?_)
   ·
    subst hk21;rw[if_pos rfl] at e3;refine SQ (RG (AS G G (NL (TN (RT ?_)))));obtain rfl:=oI e3;try dsimp only at h
    obtain rfl:=oI h;exact q08 G G H.ext G
   subst hk21;rw[if_neg l06] at e3;refine SK (IB (TN ?_));obtain⟨n22,hxn22,e3⟩:=bnd e3;refine RG (MV G G (ST (q0l G G hxn22) G (AS G G (NL ?_))));exact AG m5 ⟨_,_,G,H,hp0,hp1,e3⟩ (l0b _)
  rw[if_neg hk6] at e3;refine q0r (q06 (q06 (q0f ?_)));exact MN ⟨_,G,H,e3⟩
 rintro e w ⟨M,rfl,H,q23⟩;obtain rfl:=oI q23;try dsimp only at h
 refine TN (SQ (RG (AS G G (NL (TN (RT ?_))))));obtain rfl:=oI h;exact q08 G G H.ext G
theorem Y3n {p0:Ls}{r:Bool}(h:Y1i p0=some r):Ct Tryz.prog 5 [S p0] (fun M=>GlF (fun w =>∃m,w.cell? ⟨2,0,none⟩=some (.int .i64 m)) M∧Tabs M) (fun v M=>v=Value.bool r):=by
 refine Ct.of Tryz.func5 (enters Tryz.func5 Kr G) G G G ?_;intro w0 M0 H hp;obtain⟨gM,gT⟩:=hp;unfold Y1i at h;refine SQ (RG (AS G G (NL (TN (SQ (SQ ?_))))));obtain⟨b1,hx2,h⟩:=bnd h;refine RG (q05 H (Y2D hx2) G ⟨gM,gT⟩ (q00 G) G ?_);intro v8 M w H hle hR;replace gM:=gM.mono hle;replace gT:=gT.mono hle;obtain rfl:=hR;refine ST (q0P G) G (NL (TN ?_));refine q0m G (fun hk3=>?_) (fun hk3=>?_)
 ·
  replace hk3:b1=false:=by simpa using hk3
  subst hk3;rw[if_neg l06] at h;refine SQ (RG (AS G G (NL (TN (RT ?_)))));obtain rfl:=oI h;exact q08 G G H.ext G
 replace hk3:b1=true:=by simpa using hk3
 subst hk3;rw[if_pos rfl] at h;refine SK (TN (SQ ?_));obtain⟨⟨l4,⟨n5,n6⟩⟩,hx7,h⟩:=bnd h;try dsimp only at h
 refine RG (MV G G (q05 H (Y3f hx7) G ⟨gM,gT⟩ (q00 G) G ?_));intro v12 M w H hle hR;replace gM:=gM.mono hle;replace gT:=gT.mono hle;try dsimp only at hR
 obtain⟨x12_0,rfl,f12_0⟩:=hR;refine MV G G (ST (q0c G G) G (ST (q0c G G) G (q0k [_,_] H Tz27 G (q00 G) G ?_)));intro bk4 w H;refine AS G G (q0b [_,_] H G G G Ku Ts27 G Kf Kf (q00 G) ?_);intro w H;refine NL (TN (SQ (SQ (RG (MV G G (ST (q0i Tu9 G) G (ST (q0J G G) G (NL (TN ?_)))))))));refine CB (p:=(4000:Int)<(p0.length:Int)) G (fun hk8=>?_) fun hk8=>?_
 ·
  rw[if_pos hk8] at h;refine SQ ?_;obtain⟨o9,e10,h⟩:=bnd h;refine q0j (fun e w =>∃(b11:Bool) (M:Mem),e=[(2,Value.bool b11)]∧St w0 M0 M [] w∧GlF (fun w =>∃m,w.cell? ⟨2,0,none⟩=some (.int .i64 m)) M∧Tabs M∧some b11=some o9) [] ?_ ?_ (trivial)
  ·
   obtain⟨⟨n12,n13⟩,hx14,e10⟩:=bnd e10;try dsimp only at e10
   refine q0E (m:=9) G G H ?_;intro w H;by_cases hk15:n5=n12∧n6=n13
   ·
    rw[if_pos hk15] at e10;refine q0G (i:=0) (j:=1) Kr G G ?_ ?_
    ·
     refine ST (q0n H G Km Ta27 Ts27 Kf) G ?_;refine NA (q0s (fuel:=0) [1,2,3,4,5,6,7,8] G Kr (q05 H (R_At_ct hx14) G trivial (q00 G) G ?_));intro v19 M w H hle hR;replace gM:=gM.mono hle;replace gT:=gT.mono hle;replace f12_0:=f12_0.mono hle;try dsimp only at hR
     obtain rfl:=hR;refine DT hk15 (q1H G G Kr (xeq27 n5 n12 n6 n13)) G (MV G G (SG (q01 G) G G G (SG (q1h Tu22 f12_0 G) G G G (SG (q0e G G) G G G (PT G G G (AS G G (NA (q0h Kr ?_))))))));exact MN ⟨_,_,G,(H.pick (L':=[]) Kp),gM,gT,e10⟩
    refine q05 H (R_At_ct hx14) G trivial (q00 G) G ?_;intro v19 M w H hle hR;replace gM:=gM.mono hle;replace gT:=gT.mono hle;replace f12_0:=f12_0.mono hle;try dsimp only at hR
    obtain rfl:=hR;refine NA (q0s (fuel:=0) [0,2,3,4,5,6,7,8] G Kr (ST (q0n H G Km Ta27 Ts27 Kf) G ?_));refine DT hk15 (q1H G G Kr (xeq27 n5 n12 n6 n13)) G (MV G G (SG (q01 G) G G G (SG (q1h Tu22 f12_0 G) G G G (SG (q0e G G) G G G (PT G G G (AS G G (NA (q0h Kr ?_))))))));exact MN ⟨_,_,G,(H.pick (L':=[]) Kp),gM,gT,e10⟩
   rw[if_neg hk15] at e10;refine q0G (i:=0) (j:=1) Kr G G ?_ ?_
   ·
    refine ST (q0n H G Km Ta27 Ts27 Kf) G ?_;refine NA (q0s (fuel:=0) [1,2,3,4,5,6,7,8] G Kr (q05 H (R_At_ct hx14) G trivial (q00 G) G ?_));intro v19 M w H hle hR;replace gM:=gM.mono hle;replace gT:=gT.mono hle;replace f12_0:=f12_0.mono hle;try dsimp only at hR
    obtain rfl:=hR;refine DF hk15 (q1H G G Kr (xeq27 n5 n12 n6 n13)) G (MV G G (q0d 3 G G (PF G G G (AS G G (NA (q0h Kr ?_))))));exact MN ⟨_,_,G,(H.pick (L':=[]) Kp),gM,gT,e10⟩
   refine q05 H (R_At_ct hx14) G trivial (q00 G) G ?_;intro v19 M w H hle hR;replace gM:=gM.mono hle;replace gT:=gT.mono hle;replace f12_0:=f12_0.mono hle;try dsimp only at hR
   obtain rfl:=hR;refine NA (q0s (fuel:=0) [0,2,3,4,5,6,7,8] G Kr (ST (q0n H G Km Ta27 Ts27 Kf) G ?_));refine DF hk15 (q1H G G Kr (xeq27 n5 n12 n6 n13)) G (MV G G (q0d 3 G G (PF G G G (AS G G (NA (q0h Kr ?_))))));exact MN ⟨_,_,G,(H.pick (L':=[]) Kp),gM,gT,e10⟩
  rintro e w ⟨b11,M,rfl,H,gM,gT,q16⟩;obtain rfl:=oI q16;refine TN (RT ?_);obtain rfl:=oI h;exact q08 G G H.ext G
 rw[if_neg hk8] at h;refine SK (TN (SQ ?_));obtain⟨⟨l17,b18⟩,hx19,h⟩:=bnd h;try dsimp only at h
 refine RG (MV G G (q05 H (Y5c hx19) G trivial (q00 G) G ?_));intro v28 M w H hle hR;replace gM:=gM.mono hle;replace gT:=gT.mono hle;replace f12_0:=f12_0.mono hle;try dsimp only at hR
 obtain⟨x28_0,rfl,f28_0⟩:=hR;refine MV G G (ST (q0c G G) G (ST (q0c G G) G (AS G G (AS G G (NL (TN (SQ (SQ (RG (MV G G (ST (q0P G) G (NL (TN ?_)))))))))))));refine q0m G (fun hk20=>?_) (fun hk20=>?_)
 ·
  replace hk20:b18=false:=by simpa using hk20
  subst hk20;rw[if_neg l06] at h;refine SQ ?_;obtain⟨o21,e22,h⟩:=bnd h;refine q0j (fun e w =>∃(b23:Bool) (M:Mem),e=[(2,Value.bool b23)]∧St w0 M0 M [] w∧GlF (fun w =>∃m,w.cell? ⟨2,0,none⟩=some (.int .i64 m)) M∧Tabs M∧some b23=some o21) [] ?_ ?_ (trivial)
  ·
   refine RG (ST (q02 Tu27 G Ts3 Dc G) G (ST (XL H Ta3) G ?_));by_cases hk24:n5=(11:Int)
   ·
    rw[if_pos hk24] at e22;obtain⟨b25,hx26,e22⟩:=bnd e22;rcases b25 with _|_
    ·
     rw[if_neg l06] at e22;refine DT hk24 (q0e G G) G (MV G G (SG (q02 Tu27 G Ts3 Dc G) G G G (SG (XL H Ta3) G G G ?_)));refine SG (q01 G) G G G (SG (q0i Tu9 G) G G G (q05 H (R_In_ct hx26) G trivial (q04 G G G) G ?_));intro v41 M w H hle hR;replace gM:=gM.mono hle;replace gT:=gT.mono hle;replace f12_0:=f12_0.mono hle;replace f28_0:=f28_0.mono hle;obtain rfl:=hR;refine PT G G G (MV G G (q0d 3 G G (PF G G G (AS G G (NL ?_)))));exact MN ⟨_,_,G,(H.pick (L':=[]) Kp),gM,gT,e22⟩
    rw[if_pos rfl] at e22;refine DT hk24 (q0e G G) G (MV G G (SG (q02 Tu27 G Ts3 Dc G) G G G (SG (XL H Ta3) G G G ?_)));refine SG (q01 G) G G G (SG (q0i Tu9 G) G G G (q05 H (R_In_ct hx26) G trivial (q04 G G G) G ?_));intro v41 M w H hle hR;replace gM:=gM.mono hle;replace gT:=gT.mono hle;replace f12_0:=f12_0.mono hle;replace f28_0:=f28_0.mono hle;obtain rfl:=hR;refine PT G G G (MV G G (SG (q01 G) G G G (SG (q1h Tu22 f12_0 G) G G G (SG (q0e G G) G G G (PT G G G (AS G G (NL ?_)))))));exact MN ⟨_,_,G,(H.pick (L':=[]) Kp),gM,gT,e22⟩
   rw[if_neg hk24] at e22;refine DF hk24 (q0e G G) G (MV G G (q0d 5 G G (PF G G G (MV G G (q0d 3 G G (PF G G G (AS G G (NL ?_))))))));exact MN ⟨_,_,G,(H.pick (L':=[]) Kp),gM,gT,e22⟩
  rintro e w ⟨b23,M,rfl,H,gM,gT,q27⟩;obtain rfl:=oI q27;refine TN (RT ?_);obtain rfl:=oI h;exact q08 G G H.ext G
 replace hk20:b18=true:=by simpa using hk20
 subst hk20;rw[if_pos rfl] at h;refine SK (TN (SQ (SQ ?_)));obtain⟨⟨n28,n29⟩,hx30,h⟩:=bnd h;try dsimp only at h
 refine RG (MV G G (q05 H (Y1p hx30) G (f28_0) (q00 G) G ?_));intro v49 M w H hle hR;replace gM:=gM.mono hle;replace gT:=gT.mono hle;replace f12_0:=f12_0.mono hle;replace f28_0:=f28_0.mono hle;try dsimp only at hR
 obtain rfl:=hR;refine q0k [_,_] H Tz27 G (q00 G) G ?_;intro bk7 w H;refine q0b [_,_] H G G G Ku Ts27 G Kf Kf (q00 G) ?_;intro w H;refine NL (TN (SQ (RG (ST (q02 Tu27 G Ts3 Dc G) G (ST (XL H Ta3) G ?_)))));refine ST (q1n G G) G (NL (TN ?_));refine q0m G (fun hk31=>?_) (fun hk31=>?_)
 ·
  replace hk31 :¬(n28=(0:Int)):=of_not_decide hk31;rw[if_neg hk31] at h;refine SQ ?_;obtain⟨o32,e33,h⟩:=bnd h;refine q0j (fun e w =>∃(b34:Bool) (M:Mem),e=[(2,Value.bool b34)]∧St w0 M0 M [] w∧GlF (fun w =>∃m,w.cell? ⟨2,0,none⟩=some (.int .i64 m)) M∧Tabs M∧some b34=some o32) [] ?_ ?_ (trivial)
  ·
   obtain⟨⟨n35,n36⟩,hx37,e33⟩:=bnd e33;try dsimp only at e33
   refine q0E (m:=11) G G H ?_;intro w H;refine TK 1 G (fun _=>q02 Tu27 G Ts3 Dc G) G (q0Q (i:=2) [0] G Kr Kr Kr (XL H Ta3) (q00 G) G G (fun _ _=>G) ?_);by_cases hk38:n5=n35∧n6=n36
   ·
    rw[if_pos hk38] at e33;refine q0G (i:=0) (j:=3) Kr G G ?_ ?_
    ·
     refine ST (q0n H G Km Ta27 Ts27 Kf) G ?_;refine NA (q0s (fuel:=0) [3,4,5,6,7,8,9,10] G Kr (q05 H (R_At_ct hx37) G trivial (q00 G) G ?_));intro v56 M w H hle hR;replace gM:=gM.mono hle;replace gT:=gT.mono hle;replace f12_0:=f12_0.mono hle;replace f28_0:=f28_0.mono hle;try dsimp only at hR
     obtain rfl:=hR;refine DT hk38 (q1H G G Kr (xeq27 n5 n35 n6 n36)) G (MV G G (SG (q01 G) G G G (SG (q1h Tu22 f12_0 G) G G G (SG (q0e G G) G G G (PT G G G (AS G G (NA (q0h Kr ?_))))))));exact MN ⟨_,_,G,(H.pick (L':=[]) Kp),gM,gT,e33⟩
    refine q05 H (R_At_ct hx37) G trivial (q00 G) G ?_;intro v56 M w H hle hR;replace gM:=gM.mono hle;replace gT:=gT.mono hle;replace f12_0:=f12_0.mono hle;replace f28_0:=f28_0.mono hle;try dsimp only at hR
    obtain rfl:=hR;refine NA (q0s (fuel:=0) [0,4,5,6,7,8,9,10] G Kr (ST (q0n H G Km Ta27 Ts27 Kf) G ?_));refine DT hk38 (q1H G G Kr (xeq27 n5 n35 n6 n36)) G (MV G G (SG (q01 G) G G G (SG (q1h Tu22 f12_0 G) G G G (SG (q0e G G) G G G (PT G G G (AS G G (NA (q0h Kr ?_))))))));exact MN ⟨_,_,G,(H.pick (L':=[]) Kp),gM,gT,e33⟩
   rw[if_neg hk38] at e33;refine q0G (i:=0) (j:=3) Kr G G ?_ ?_
   ·
    refine ST (q0n H G Km Ta27 Ts27 Kf) G ?_;refine NA (q0s (fuel:=0) [3,4,5,6,7,8,9,10] G Kr (q05 H (R_At_ct hx37) G trivial (q00 G) G ?_));intro v56 M w H hle hR;replace gM:=gM.mono hle;replace gT:=gT.mono hle;replace f12_0:=f12_0.mono hle;replace f28_0:=f28_0.mono hle;try dsimp only at hR
    obtain rfl:=hR;refine DF hk38 (q1H G G Kr (xeq27 n5 n35 n6 n36)) G (MV G G (q0d 3 G G (PF G G G (AS G G (NA (q0h Kr ?_))))));exact MN ⟨_,_,G,(H.pick (L':=[]) Kp),gM,gT,e33⟩
   refine q05 H (R_At_ct hx37) G trivial (q00 G) G ?_;intro v56 M w H hle hR;replace gM:=gM.mono hle;replace gT:=gT.mono hle;replace f12_0:=f12_0.mono hle;replace f28_0:=f28_0.mono hle;try dsimp only at hR
   obtain rfl:=hR;refine NA (q0s (fuel:=0) [0,4,5,6,7,8,9,10] G Kr (ST (q0n H G Km Ta27 Ts27 Kf) G ?_));refine DF hk38 (q1H G G Kr (xeq27 n5 n35 n6 n36)) G (MV G G (q0d 3 G G (PF G G G (AS G G (NA (q0h Kr ?_))))));exact MN ⟨_,_,G,(H.pick (L':=[]) Kp),gM,gT,e33⟩
  rintro e w ⟨b34,M,rfl,H,gM,gT,q39⟩;obtain rfl:=oI q39;refine TN (RT ?_);obtain rfl:=oI h;exact q08 G G H.ext G
 replace hk31:n28=(0:Int):=of_not_decide' hk31;rw[if_pos hk31] at h;refine SK (TN (SQ ?_));obtain⟨o40,e41,h⟩:=bnd h;refine q0j (fun e w =>∃(b42:Bool) (M:Mem),e=[(2,Value.bool b42)]∧St w0 M0 M [] w∧GlF (fun w =>∃m,w.cell? ⟨2,0,none⟩=some (.int .i64 m)) M∧Tabs M∧some b42=some o40) [] ?_ ?_ (trivial)
 ·
  refine RG (ST (q02 Tu27 G Ts3 Dc G) G (ST (XL H Ta3) G ?_));by_cases hk43:n5=(0:Int)
  ·
   rw[if_pos hk43] at e41;obtain⟨b44,hx45,e41⟩:=bnd e41;refine DT hk43 (q0e G G) G (MV G G (SG (q01 G) G G G (SG (q01 G) G G G (q05 H (Y4j hx45) G ⟨f12_0,f28_0⟩ (q04 G G G) G ?_))));intro v69 M w H hle hR;replace gM:=gM.mono hle;replace gT:=gT.mono hle;replace f12_0:=f12_0.mono hle;replace f28_0:=f28_0.mono hle;obtain rfl:=hR;refine PT G G G (AS G G (NL ?_));exact MN ⟨_,_,G,(H.pick (L':=[]) Kp),gM,gT,e41⟩
  rw[if_neg hk43] at e41;refine DF hk43 (q0e G G) G (MV G G (q0d 3 G G (PF G G G (AS G G (NL ?_)))));exact MN ⟨_,_,G,(H.pick (L':=[]) Kp),gM,gT,e41⟩
 rintro e w ⟨b42,M,rfl,H,gM,gT,q46⟩;obtain rfl:=oI q46;refine TN (RT ?_);obtain rfl:=oI h;exact q08 G G H.ext G
end Go.Proofs.YtkmjdamkifbddaaGreatDoor
end
section
namespace Go.Ph.Ad
open Go.Ph.Pl Go.Ph.Pf
open Go.Ph.Chs (vld lower)
abbrev Big (l:Ls):Prop:=l.length≤140737488355328
abbrev Adr : Type:=Ls × Ls × Ls
abbrev Itm : Type:=Ls × Bool × List Adr
theorem foldI {α σ γ:Type}{L:Nat→σ→Int→Option γ}(l:List α)(F:σ→α→σ)(fin:σ→γ)(I:Nat→σ→Prop)
 (hend :∀m s,I l.length s→L (m+1) s (l.length:Int)=some (fin s))
 (hstep :∀m s i a,l[i]? = some a→I i s→I (i+1) (F s a)∧L (m+1) s (i:Int)=L m (F s a) ((i+1:Nat):Int)) :
 ∀(d i:Nat) (s:σ) (m:Nat),l.length-i=d→i≤l.length→d<m→I i s→L m s (i:Int)=some (fin ((l.drop i).foldl F s)):=by
 intro d;induction d with
 | zero =>
   intro i s m h1 h2 h3 hI;obtain⟨m,rfl⟩ :∃k,m=k+1:=⟨m-1,by omega⟩
   obtain rfl:i=l.length:=by omega
   rw[hend m s hI,l0O];rfl
 | succ d ih =>
   intro i s m h1 h2 h3 hI;obtain⟨m,rfl⟩ :∃k,m=k+1:=⟨m-1,by omega⟩
   have hi:i<l.length:=by omega
   obtain⟨hI',hL⟩:=hstep m s i l[i] (List.getElem?_eq_getElem hi) hI;rw[hL,ih (i+1) _ m Om Om Om hI',l09 hi];rfl
theorem foldI0 {α σ γ:Type}{L:Nat→σ→Int→Option γ}(l:List α)(F:σ→α→σ)(fin:σ→γ)(I:Nat→σ→Prop)(hl:l.length≤9223372036854775807)
 (hend :∀m s,I l.length s→L (m+1) s (l.length:Int)=some (fin s))
 (hstep :∀m s i a,l[i]? = some a→I i s→I (i+1) (F s a)∧L (m+1) s (i:Int)=L m (F s a) ((i+1:Nat):Int)) (s:σ) (h0:I 0 s):L FU s 0=some (fin (l.foldl F s)):=by
 have:=foldI l F fin I hend hstep l.length 0 s FU Om Om (FU_gt hl) h0;simpa using this
theorem allB {p:UInt8→Prop}(h :∀n,n<256→p (UInt8.ofNat n))(c:UInt8):p c:=by
 have:=h c.toNat c.toNat_lt;rwa [UInt8.ofNat_toNat] at this
theorem failed_eq (a b:Int):Y1k (a,b)=some (!decide (a=0)):=rfl
theorem fault_eq (a b:Int):Y07 a b=some (a,b):=by unfold Y07;rfl
theorem none_eq : Y0I=some (0,0):=rfl
theorem at_eq (a b:Int):R_At a b=some (a,b):=rfl
theorem rin_eq (a b c:Int):R_In a b c=some (decide (b≤a∧a≤c)):=by
 unfold R_In;by_cases h:b≤a <;> simp [h]
def letB (c:UInt8):Bool:=decide (97≤c.toNat∧c.toNat≤122) ||(decide (65≤c.toNat∧c.toNat≤90) || decide (48≤c.toNat∧c.toNat≤57))
def atB (c:UInt8):Bool:=letB c ||([33,35,36,37,38,39,42,43,45,47,61,63,94,95,96,123,124,125,126]:Ls).any (fun x=>decide (x=c))
def doB (c:UInt8):Bool:=letB c || decide (c=45)
def prB (c:UInt8):Bool:=decide (32≤c.toNat∧c.toNat≤126)
theorem rletter_eq (c:UInt8):Y4d c=some (letB c):=by
 refine allB (p:=fun c=>Y4d c=some (letB c)) ?_ c;decide +kernel
theorem atom_eq (c:UInt8):Y2l c=some (atB c):=by
 refine allB (p:=fun c=>Y2l c=some (atB c)) ?_ c;decide +kernel
theorem ratom_eq (c:UInt8):Y31 c=some (atB c):=by
 refine allB (p:=fun c=>Y31 c=some (atB c)) ?_ c;decide +kernel
theorem domB_eq (c:UInt8):Y29 c=some (doB c):=by
 refine allB (p:=fun c=>Y29 c=some (doB c)) ?_ c;decide +kernel
theorem locB_eq (c:UInt8):Y2k c=some (prB c):=by
 refine allB (p:=fun c=>Y2k c=some (prB c)) ?_ c;decide +kernel
theorem atB_doB (c:UInt8):(atB c&&(letB c || decide (c=45)))=doB c:=by
 refine allB (p:=fun c=>(atB c&&(letB c || decide (c=45)))=doB c) ?_ c;decide +kernel
theorem all_eq (l:Ls)(hl:Big l)(g:UInt8→Option Bool)(p:UInt8→Bool)(hg :∀c,g c=some (p c)):Y3b l g=some (l.all p):=by
 unfold Y3b;rw[scan0 (L:=Y23 l g) (l:=l) (p:=fun c => !p c) (stop := .inl ()) (r := .inr false) (FU_gt Om) (fun m=>by rw[Y23,if_neg Om]) (fun m i h=>by
  rw[Y23,if_pos Om,idx_nat,List.getElem?_eq_getElem h,chk_succ (by have:=hl;omega)];simp only[bsome,hg];cases p l[i] <;> simp)]
 simp only[bsome];rw[List.all_eq_not_any_not];cases l.any (fun c => !p c) <;> simp
def locT (l:Ls):Bool:=l.all prB&&decide (1≤l.length∧l.length≤60)
theorem local_eq (l:Ls)(hl:Big l):Y1R l=some (locT l):=by
 unfold Y1R locT;by_cases h:l=[]
 · subst h;rfl
 have hpos:1≤l.length:=by cases l <;> simp_all
 rw[if_neg h];by_cases h2:l.length≤60
 · rw[if_pos Om,all_eq l hl _ prB locB_eq];simp [hpos,h2]
 rw[if_neg Om];simp [h2]
theorem rlocal_eq (l:Ls)(hl:Big l):Y32 l=some (locT l):=by
 unfold Y32 locT;rw[scan0 (L:=Y1F l) (l:=l) (p:=fun c => !prB c) (stop := .inl ()) (r := .inr false) (FU_gt Om) (fun m=>by rw[Y1F,if_neg Om]) (fun m i h=>by
  rw[Y1F,if_pos Om,idx_nat,List.getElem?_eq_getElem h,chk_succ (by have:=hl;omega)];simp only[bsome,rin_eq];have hp:decide ((32:Int)≤(l[i].toNat:Int)∧(l[i].toNat:Int)≤126)=prB l[i]:=by
   unfold prB;exact decide_eq_decide.2 ⟨fun h=>by omega,fun h=>by omega⟩
  rw[hp];cases prB l[i] <;> simp)]
 simp only[bsome];rw[List.all_eq_not_any_not];cases l.any (fun c => !prB c)
 · simp only[rin_eq,bsome,l0h,if_false,l2E,l1S];exact congrArg some (decide_eq_decide.2 ⟨fun h=>by omega,fun h=>by omega⟩)
 simp
def dispF (l:Ls):Int:=if 500<l.length then 1 else if vld l=true then 0 else 5
theorem disp_eq (l:Ls):Y20 l=some (dispF l):=by
 unfold Y20 dispF Y0Q;by_cases h:500<l.length
 · rw[if_pos Om,if_pos h]
 rw[if_neg Om,if_neg h,if_pos Om];simp only[bsome];cases vld l <;> rfl
theorem rdisp_eq (l:Ls):Y1T l=some (dispF l):=by
 unfold Y1T dispF R_Valid;by_cases h:500<l.length
 · rw[if_pos Om,if_pos h]
 rw[if_neg Om,if_neg h,if_pos Om];simp only[bsome];cases vld l <;> rfl
def nc (c x:UInt8):Bool := !decide (x=c)
theorem index_c (c:UInt8):∀(l:Ls),Lib.index l [c]=if c∈l then((l.takeWhile (nc c)).length:Int) else -1
 | []=>rfl
 | x :: l=>by
   rw[Lib.index];by_cases h:x=c
   · subst h;rw[if_pos (by simp [List.isPrefixOf]),if_pos Sm,l0y (by simp [nc])];rfl
   have hn:nc c x=true:=by unfold nc;rw [decide_eq_false h];rfl
   have h' :¬c=x:=fun e=>h e.symm
   rw[if_neg (by simp [List.isPrefixOf,h']),index_c c l,l0o hn];by_cases hm:c∈l
   · rw[if_pos hm,if_neg (by first|(simp;done)|(simp;omega)),if_pos (by simp [hm]),l02];omega
   rw[if_neg hm,if_pos Dc,if_neg (by simp [hm,h'])]
def spl (c:UInt8):Ls→List Ls
 | []=>[[]]
 | x::l=>if x=c then []::spl c l else match spl c l with
   | p::r=>(x::p)::r
   | []=>[[x]]
theorem spl_ne (c:UInt8)(l:Ls):spl c l≠ []:=by
 cases l with
 | nil=>simp [spl]
 | cons x l =>
   rw[spl];split
   · simp
   split <;> simp
theorem spl_not {c:UInt8}:∀{l:Ls},c∉l→spl c l=[l]
 | [],_=>rfl
 | x::l,h=>by
   rw[spl,if_neg (fun e=>h (by simp [e])),spl_not (fun e=>h (by simp [e]))]
theorem spl_mem {c:UInt8}:∀{l:Ls},c∈l→spl c l=l.takeWhile (nc c)::spl c (l.drop ((l.takeWhile (nc c)).length+1))
 | [],h=>by simp at h
 | x :: l,h=>by
   by_cases hx:x=c
   · subst hx;rw[spl,if_pos rfl,l0y (by simp [nc])];rfl
   have hn:nc c x=true:=by unfold nc;rw [decide_eq_false hx];rfl
   have hl:c∈l:=by rcases List.mem_cons.1 h with e|e;exact absurd e.symm hx;exact e
   rw[spl,if_neg hx,spl_mem hl,l0o hn];simp
theorem tw_lt {c:UInt8}:∀{l:Ls},c∈l→(l.takeWhile (nc c)).length<l.length
 | [],h=>by simp at h
 | x :: l,h=>by
   by_cases hx:x=c
   · subst hx;rw[l0y (by simp [nc])];simp
   have hn:nc c x=true:=by unfold nc;rw [decide_eq_false hx];rfl
   have hl:c∈l:=by rcases List.mem_cons.1 h with e|e;exact absurd e.symm hx;exact e
   rw[l0o hn];have:=tw_lt hl;simp;omega
theorem take_tw (c:UInt8):∀(l:Ls),l.take (l.takeWhile (nc c)).length=l.takeWhile (nc c)
 | []=>rfl
 | x::l=>by
   by_cases hn:nc c x=true
   · rw[l0o hn,l02,l0D,take_tw c l]
   rw[l0y hn];rfl
theorem split_L2 {σ:Type}(Y:σ→Ls→Option (σ × Bool))(c:UInt8):∀(n:Nat) (s:Ls) (st:σ) (m:Nat),s.length≤n→n<m→s.length<4294967281→
 ((Y0u Y [c] 0 m s st).bind fun o=>(match o with | .inl (s24,s25)=>(Y s25 s24).bind fun(s41,b42)=>some s41 | .inr r44=>some r44))=runL Y (spl c s) st:=by
 intro n;induction n with
 | zero =>
   intro s st m h1 h2 h3;obtain⟨m,rfl⟩ :∃k,m=k+1:=⟨m-1,by omega⟩
   obtain rfl:s=[]:=l0c Om;rw[Y0u];unfold Y1P;have hi:Lib.index ([]:Ls) [c] = -1:=by rw[index_c,if_neg Sm]
   rw[if_pos Dc,bsome,hi,if_pos Dc,bsome,spl,runL];dsimp only;cases Y st [] with
   | none=>rfl
   | some r=>obtain⟨a,b⟩:=r;cases b <;> rfl
 | succ n ih =>
   intro s st m h1 h2 h3;obtain⟨m,rfl⟩ :∃k,m=k+1:=⟨m-1,by omega⟩
   rw[Y0u];unfold Y1P;rw[if_pos h3,bsome,index_c];by_cases hm:c∈s
   · have hlt:=tw_lt hm;rw[if_pos hm,if_neg Om,show ((s.takeWhile (nc c)).length:Int)+0=(((s.takeWhile (nc c)).length:Nat):Int) by omega,chk_ok Om Om,bsome,cut_to rfl Om,bsome,take_tw,spl_mem hm,runL];cases hy:Y st (s.takeWhile (nc c)) with
     | none=>rfl
     | some r =>
       obtain⟨a,b⟩:=r;rw[bsome,bsome];dsimp only;cases b with
       | false=>rfl
       | true =>
         rw[if_pos rfl,if_pos rfl,show (([c]:Ls).length:Int)=((1:Nat):Int) from rfl,chk_addN 1 Om,bsome,cut_from rfl Om,bsome];exact ih _ a m (by rw[l01];omega) Om (by rw[l01];omega)
   rw[if_neg hm,if_pos Dc,bsome,spl_not hm,runL];dsimp only;cases Y st s with
   | none=>rfl
   | some r=>obtain⟨a,b⟩:=r;cases b <;> rfl
theorem splitSeq_eq {σ:Type}(Y:σ→Ls→Option (σ × Bool))(c:UInt8)(s:Ls)(st:σ)(hs:s.length<4294967281):Y1q [c] s 0 σ Y st=runL Y (spl c s) st:=by
 unfold Y1q;rw[if_neg Sm];exact split_L2 Y c s.length s st FU (l0e _) (FU_gt Om) hs
def good (p:UInt8→Bool)(x:Ls):Bool := !decide (x=[])&&x.all p
theorem parts_run (g:UInt8→Option Bool)(p:UInt8→Bool)(hg :∀c,g c=some (p c)):∀(l:List Ls),(∀x∈l,Big x)→runL (stepY exStop (Y1N g)) l (false,0)=some (false,if l.all (good p)=true then 0 else 1)
 | [],_=>rfl
 | x :: l,h=>by
   rw[runL];unfold stepY;rw[if_neg Dc];have hx:Y1N g (false,0) x=some (if good p x=true then(false,0) else(false,1)):=by
    unfold Y1N good;dsimp only;by_cases hx:x=[]
    · subst hx;rfl
    rw[if_neg hx,all_eq x (h x l0K) g p hg];simp only[bsome,hx];cases x.all p <;> rfl
   rw[hx,l0B];have ih:=parts_run g p hg l (fun y hy=>h y (l0E _ hy));cases hgx:good p x with
   | false=>rfl
   | true =>
     simp only[if_true,l1g,bsome,l1S];exact ih
theorem spl_len (c:UInt8):∀(l:Ls),∀x∈spl c l,x.length≤l.length
 | [],x,hx=>by simp [spl] at hx;simp [hx]
 | a :: l,x,hx=>by
   rw[spl] at hx;split at hx
   · rcases List.mem_cons.1 hx with rfl|hx
     · simp
     have:=spl_len c l x hx;simp;omega
   cases hs:spl c l with
   | nil=>exact absurd hs (spl_ne c l)
   | cons p r =>
     rw[hs] at hx;dsimp only at hx;rcases List.mem_cons.1 hx with rfl|hx
     · have:=spl_len c l p (by rw[hs];exact l0K);simp;omega
     have:=spl_len c l x (by rw[hs];exact l0E _ hx);simp;omega
theorem parts_eq (s:Ls)(hs:s.length<4294967281)(g:UInt8→Option Bool)(p:UInt8→Bool)(hg :∀c,g c=some (p c)):Y2o s g=some ((spl 46 s).all (good p)):=by
 unfold Y2o;rw[splitSeq_eq _ _ _ _ hs,parts_run g p hg _ (fun x hx=>by have:=spl_len 46 s x hx;unfold Big;omega),bsome];cases(spl 46 s).all (good p) <;> rfl
def dtF (p:UInt8→Bool):Bool→Ls→Bool
 | e,[] => !e
 | e,c::l=>if c=46 then(if e=true then false else dtF p true l) else(if p c=true then dtF p false l else false)
theorem spl_dt (p:UInt8→Bool):∀(l:Ls) (e:Bool) (h:Ls) (t:List Ls),spl 46 l=h::t→dtF p e l=(h.all p&&((!e || !decide (h=[]))&&t.all (good p)))
 | [],e,h,t,hs=>by
   simp only[spl,List.cons.injEq] at hs;obtain⟨rfl,rfl⟩:=hs;cases e <;> rfl
 | c :: l,e,h,t,hs=>by
   rw[spl] at hs;rw[dtF];by_cases hc:c=46
   · rw[if_pos hc] at hs;obtain⟨rfl,rfl⟩:=List.cons.inj hs;rw[if_pos hc];cases hl:spl 46 l with
     | nil=>exact absurd hl (spl_ne _ _)
     | cons a b =>
       rw[spl_dt p l true a b hl,l0B];cases e <;> simp [good,Bool.and_comm,Bool.and_left_comm,Bool.and_assoc]
   rw[if_neg hc] at hs;rw[if_neg hc];cases hl:spl 46 l with
   | nil=>exact absurd hl (spl_ne _ _)
   | cons a b =>
     rw[hl] at hs;dsimp only at hs;obtain⟨rfl,rfl⟩:=List.cons.inj hs;rw[spl_dt p l false a b hl,l0B];cases p c <;> simp
theorem dt_spl (p:UInt8→Bool)(s:Ls):(spl 46 s).all (good p)=dtF p true s:=by
 cases hs:spl 46 s with
 | nil=>exact absurd hs (spl_ne _ _)
 | cons h t =>
   rw[spl_dt p s true h t hs,l0B];unfold good;cases h.all p <;> simp
theorem dotted_eq (s:Ls)(hs:s.length<4294967281):Y1D s=some (dtF atB true s):=by
 unfold Y1D;rw[parts_eq s hs _ atB atom_eq,bsome,dt_spl]
def domT (s:Ls):Bool:=decide (s.length≤60)&&dtF doB true s
theorem domain_eq (s:Ls):Y2g s=some (domT s):=by
 unfold Y2g domT;by_cases h:s.length≤60
 · rw[if_pos Om,parts_eq s Om _ doB domB_eq,dt_spl];simp [h]
 rw[if_neg Om];simp [h]
theorem rdot_L1 (s:Ls)(dom:Bool)(hs:Big s):∀(k i m:Nat) (b:Bool),s.length-i≤k→k<m→i≤s.length→
 ((Y1X s dom m b (i:Int)).bind fun o27=>(match o27 with | .inl b3=>some (!b3) | .inr r26=>some r26))=some (dtF (fun c=>atB c&&(!dom ||(letB c || decide (c=45)))) b (s.drop i)):=by
 intro k;induction k with
 | zero =>
   intro i m b h1 h2 h3;obtain⟨m,rfl⟩ :∃k,m=k+1:=⟨m-1,by omega⟩
   obtain rfl:i=s.length:=by omega
   rw[Y1X,if_neg Om,bsome,l0O];rfl
 | succ k ih =>
   intro i m b h1 h2 h3;obtain⟨m,rfl⟩ :∃k,m=k+1:=⟨m-1,by omega⟩
   by_cases hi:i<s.length
   · rw[Y1X,if_pos Om,idx_nat,List.getElem?_eq_getElem hi,l09 hi,dtF];simp only[bsome,ratom_eq,rletter_eq,chk_succ (show i+1≤9223372036854775807 by have:=hs;omega)];by_cases hc:s[i]=46
     · rw[if_pos hc,if_pos hc];cases b with
       | true=>rfl
       | false =>
         rw[if_neg Dc,if_neg Dc];exact ih (i+1) m true Om Om Om
     rw[if_neg hc,if_neg hc];have h5:=ih (i+1) m false Om Om Om;cases ha:atB s[i] with
     | false=>simp
     | true =>
       cases dom with
       | false=>simpa using h5
       | true =>
         cases hl:letB s[i] with
         | true=>simpa using h5
         | false =>
           by_cases hd:s[i]=45
           · simpa [hd] using h5
           simp [hd]
   obtain rfl:i=s.length:=by omega
   rw[Y1X,if_neg Om,bsome,l0O];rfl
theorem rdotted_eq (s:Ls)(hs:Big s)(dom:Bool):Y2y s dom=some (dtF (fun c=>atB c&&(!dom ||(letB c || decide (c=45)))) true s):=by
 unfold Y2y;have:=rdot_L1 s dom hs s.length 0 FU true Om (FU_gt (by have:=hs;omega)) Om;exact this
theorem rdotD_eq (s:Ls)(hs:Big s):Y2y s true=some (dtF doB true s):=by
 rw[rdotted_eq s hs];have:(fun c=>atB c&&(!true ||(letB c || decide (c=45))))=doB:=funext fun c=>by rw[l1v,l1L,atB_doB]
 rw[this]
theorem rdotA_eq (s:Ls)(hs:Big s):Y2y s false=some (dtF atB true s):=by
 rw[rdotted_eq s hs];have:(fun c=>atB c&&(!false ||(letB c || decide (c=45))))=atB:=funext fun c=>by simp
 rw[this]
def addrF (a:Adr):Int × Int:=if dispF a.1=0 then(if locT a.2.1=true then(if domT a.2.2=true then(0,0) else(10,-5)) else(10,-4)) else(dispF a.1,-3)
abbrev BigA (a:Adr):Prop:=Big a.1∧Big a.2.1∧Big a.2.2
theorem validate_eq (a:Adr)(h:BigA a):Y1u (a.1,a.2.1,a.2.2)=some (addrF a):=by
 unfold Y1u addrF;rw[disp_eq,local_eq _ h.2.1,domain_eq];simp only[bsome,fault_eq,none_eq];by_cases h1:dispF a.1=0
 · rw[if_pos h1,if_pos h1];cases locT a.2.1
   · rfl
   cases domT a.2.2 <;> rfl
 rw[if_neg h1,if_neg h1]
theorem raddr_eq (a:Adr)(h:BigA a):Y1Y (a.1,a.2.1,a.2.2)=some (addrF a):=by
 unfold Y1Y addrF domT;simp only[rdisp_eq,rlocal_eq _ h.2.1,rdotD_eq _ h.2.2,bsome,at_eq];by_cases h1:dispF a.1=0
 · rw[if_pos h1,if_pos h1];cases locT a.2.1
   · rfl
   show((if (60:Int)<(a.2.2.length:Int) then some true else some (!dtF doB true a.2.2)).bind fun b17=>if b17=true then some ((10:Int),(-5:Int)) else some (0,0))=some (if (decide (a.2.2.length≤60)&&dtF doB true a.2.2)=true then(0,0) else(10,-5))
   by_cases h2:a.2.2.length≤60
   · rw[if_neg Om,bsome,decide_eq_true h2,l1S];cases dtF doB true a.2.2 <;> rfl
   rw[if_pos Om,bsome,decide_eq_false h2];rfl
 rw[if_neg h1,if_neg h1]
end Go.Ph.Ad
end
section
namespace Go.Ph.Ad
open Go.Ph.Pl Go.Ph.Pf
abbrev BigI (x:Itm):Prop:=Big x.1∧x.2.2.length≤140737488355328∧∀a∈x.2.2,BigA a
abbrev BigL (l:List Itm):Prop:=l.length≤140737488355328∧∀x∈l,BigI x
def memF : List Adr→Int
 | []=>0
 | a::l=>if (addrF a).1=0 then memF l else(addrF a).1
def badI (x:Itm):Bool := !decide (x.2.1 = !decide (x.1=[])) ||(!x.2.1 && !decide (x.2.2.length=1))
def itemF (x:Itm):Int:=if dispF x.1=0 then(if badI x=true then 5 else memF x.2.2) else dispF x.1
theorem item_L1 (x:Itm)(h:BigI x):∀(k i m:Nat),x.2.2.length-i≤k→k<m→i≤x.2.2.length→
 ((Y12 x m (i:Int)).bind fun o26=>(match o26 with | .inl _=>some 0 | .inr r25=>some r25))=some (memF (x.2.2.drop i)):=by
 intro k;induction k with
 | zero =>
   intro i m h1 h2 h3;obtain⟨m,rfl⟩ :∃k,m=k+1:=⟨m-1,by omega⟩
   obtain rfl:i=x.2.2.length:=by omega
   rw[Y12,if_neg Om,bsome,l0O];rfl
 | succ k ih =>
   intro i m h1 h2 h3;obtain⟨m,rfl⟩ :∃k,m=k+1:=⟨m-1,by omega⟩
   by_cases hi:i<x.2.2.length
   · rw[Y12,if_pos Om,idx_nat,List.getElem?_eq_getElem hi,l09 hi,memF,bsome];rw[validate_eq _ (h.2.2 _ (l0N hi)),bsome];have h5:=ih (i+1) m Om Om Om;obtain⟨a,b,hab⟩ :∃a b,addrF x.2.2[i]=(a,b):=⟨_,_,rfl⟩
     rw[hab];dsimp only;rw[failed_eq,bsome];by_cases ha:a=0
     · rw[if_neg (by simp [ha]),if_pos ha,chk_succ (by have:=h.2.1;omega),bsome];exact h5
     rw[if_pos (by simp [ha]),if_neg ha];rfl
   obtain rfl:i=x.2.2.length:=by omega
   rw[Y12,if_neg Om,bsome,l0O];rfl
theorem item_eq (x:Itm)(h:BigI x):Y3c (x.1,x.2.1,x.2.2)=some (itemF x):=by
 unfold Y3c itemF;rw[disp_eq,bsome];by_cases h1:dispF x.1=0
 · rw [if_pos h1,if_pos h1];have hb:(if x.2.1=(!decide (x.1=[])) then(if x.2.1=true then some false else some (!decide ((x.2.2.length:Int)=(1:Int)))) else some true)=some (badI x):=by
    unfold badI;have hd:decide ((x.2.2.length:Int)=1)=decide (x.2.2.length=1):=decide_eq_decide.2 ⟨fun h=>by omega,fun h=>by omega⟩;rw[hd];by_cases h2:x.2.1 = !decide (x.1=[])
    · rw[if_pos h2,decide_eq_true h2];cases x.2.1 <;> rfl
    rw[if_neg h2,decide_eq_false h2];rfl
   rw[hb,bsome];cases badI x with
   | true=>rfl
   | false =>
     rw[if_neg Dc,if_neg Dc];exact item_L1 x h x.2.2.length 0 FU Om (FU_gt (by have:=h.2.1;omega)) Om
 rw[if_neg h1,if_neg h1]
theorem ritem_L3 (n:Int)(x:Itm)(h:BigI x)(c d:Int):∀(k i m:Nat),x.2.2.length-i≤k→k<m→i≤x.2.2.length→
 Y0P n x m c d (i:Int)=some (if memF (x.2.2.drop i)=0 then .inl (c,d) else .inr (memF (x.2.2.drop i),n)):=by
 intro k;induction k with
 | zero =>
   intro i m h1 h2 h3;obtain⟨m,rfl⟩ :∃k,m=k+1:=⟨m-1,by omega⟩
   obtain rfl:i=x.2.2.length:=by omega
   rw[Y0P,if_neg Om,l0O];rfl
 | succ k ih =>
   intro i m h1 h2 h3;obtain⟨m,rfl⟩ :∃k,m=k+1:=⟨m-1,by omega⟩
   by_cases hi:i<x.2.2.length
   · rw[Y0P,if_pos Om,idx_nat,List.getElem?_eq_getElem hi,l09 hi,memF,bsome];rw[raddr_eq _ (h.2.2 _ (l0N hi)),bsome];have h5:=ih (i+1) m Om Om Om;obtain⟨a,b,hab⟩ :∃a b,addrF x.2.2[i]=(a,b):=⟨_,_,rfl⟩
     rw[hab];dsimp only;by_cases ha:a=0
     · rw[if_pos ha,chk_succ (by have:=h.2.1;omega),bsome];simp only[if_pos ha];exact h5
     rw[if_neg ha,at_eq,bsome];simp only[if_neg ha]
   obtain rfl:i=x.2.2.length:=by omega
   rw[Y0P,if_neg Om,l0O];rfl
def listF : Nat→List Itm→Int × Int
 | _,[]=>(0,0)
 | i,x::l=>if itemF x=0 then listF (i+1) l else(itemF x,(i:Int))
def sumW (l:List Itm):Int:=l.foldl (fun n x=>IntKind.i64.wrap (n+(x.2.2.length:Int))) 0
def itemsF (l:List Itm):Int × Int:=if 60<l.length∨60<sumW l then(2,-1) else listF 0 l
theorem check_L1 (l:List Itm)(h:l.length≤140737488355328):Y0S l FU 0 0=some (sumW l):=by
 refine foldI0 (L:=Y0S l) l (fun n x=>IntKind.i64.wrap (n+(x.2.2.length:Int))) id (fun _ _=>True) Om (fun m s _=>?_) (fun m s i a ha _=>⟨trivial,?_⟩) 0 trivial
 · rw[Y0S,if_neg Om];rfl
 have hi:=(List.getElem?_eq_some_iff.1 ha).1;rw[Y0S,if_pos Om,idx_nat,ha,bsome,chk_succ Om,bsome]
theorem rcheck_L1 (l:List Itm)(h:l.length≤140737488355328):Y15 l FU 0 0=some (sumW l):=by
 refine foldI0 (L:=Y15 l) l (fun n x=>IntKind.i64.wrap (n+(x.2.2.length:Int))) id (fun _ _=>True) Om (fun m s _=>?_) (fun m s i a ha _=>⟨trivial,?_⟩) 0 trivial
 · rw[Y15,if_neg Om];rfl
 have hi:=(List.getElem?_eq_some_iff.1 ha).1;rw[Y15,if_pos Om,idx_nat,ha,bsome,chk_succ Om,bsome]
theorem check_L2 (l:List Itm)(h:BigL l):∀(k i m:Nat) (c d:Int),l.length-i≤k→k<m→i≤l.length→
 ((Y0T l m c d (i:Int)).bind fun o43=>(match o43 with | .inl (n23,n24)=>(Y0I).bind fun(n39,n40)=>some (n39,n40) | .inr r42=>some r42))=some (listF i (l.drop i)):=by
 intro k;induction k with
 | zero =>
   intro i m c d h1 h2 h3;obtain⟨m,rfl⟩ :∃k,m=k+1:=⟨m-1,by omega⟩
   obtain rfl:i=l.length:=by omega
   rw[Y0T,if_neg Om,bsome,l0O];rfl
 | succ k ih =>
   intro i m c d h1 h2 h3;obtain⟨m,rfl⟩ :∃k,m=k+1:=⟨m-1,by omega⟩
   by_cases hi:i<l.length
   · rw[Y0T,if_pos Om,idx_nat,List.getElem?_eq_getElem hi,l09 hi,listF,bsome];rw[item_eq _ (h.2 _ (l0N hi)),bsome];by_cases ha:itemF l[i]=0
     · rw[if_pos ha,if_pos ha,chk_succ (by have:=h.1;omega),bsome];exact ih (i+1) m c d Om Om Om
     rw[if_neg ha,if_neg ha,fault_eq,bsome];rfl
   obtain rfl:i=l.length:=by omega
   rw[Y0T,if_neg Om,bsome,l0O];rfl
theorem rcheck_L2 (l:List Itm)(h:BigL l):∀(k i m:Nat) (c d:Int),l.length-i≤k→k<m→i≤l.length→
 ((Y16 l m c d (i:Int)).bind fun o77=>(match o77 with | .inl (n23,n24)=>some ((0:Int),(0:Int)) | .inr r76=>some r76))=some (listF i (l.drop i)):=by
 intro k;induction k with
 | zero =>
   intro i m c d h1 h2 h3;obtain⟨m,rfl⟩ :∃k,m=k+1:=⟨m-1,by omega⟩
   obtain rfl:i=l.length:=by omega
   rw[Y16,if_neg Om,bsome,l0O];rfl
 | succ k ih =>
   intro i m c d h1 h2 h3;obtain⟨m,rfl⟩ :∃k,m=k+1:=⟨m-1,by omega⟩
   by_cases hi:i<l.length
   · have hB:=h.2 _ (l0N hi);have h5:=ih (i+1) m c d Om Om Om;rw[Y16,if_pos Om,idx_nat,List.getElem?_eq_getElem hi,l09 hi,listF,bsome];obtain⟨x,hx⟩ :∃x,l[i]=x:=⟨_,rfl⟩
     rw[hx] at hB ⊢;have hb:(if x.2.1=true then(if x.1=[] then some true else(if x.2.1=true then some false else(if x.1=[] then some (!decide ((x.2.2.length:Int)=(1:Int))) else some true))) else(if x.2.1=true then some false else(if x.1=[] then some (!decide ((x.2.2.length:Int)=(1:Int))) else some true)))=some (badI x):=by
      unfold badI;have hd:decide ((x.2.2.length:Int)=1)=decide (x.2.2.length=1):=decide_eq_decide.2 ⟨fun h=>by omega,fun h=>by omega⟩;rw[hd];by_cases he:x.1=[] <;> cases x.2.1 <;> simp [he]
     unfold itemF;rw[rdisp_eq,bsome];by_cases h1:dispF x.1=0
     · rw[if_pos h1,hb,bsome];simp only[if_pos h1];have h6:Y0P (i:Int) x FU c d 0=some (if memF x.2.2=0 then .inl (c,d) else .inr (memF x.2.2,(i:Int))):=ritem_L3 (i:Int) x hB c d x.2.2.length 0 FU Om (FU_gt (by have:=hB.2.1;omega)) Om;cases badI x with
       | true=>rfl
       | false =>
         simp only[l0h,if_false,h6,bsome];by_cases hm:memF x.2.2=0
         · simp only[if_pos hm];rw[chk_succ (by have:=h.1;omega),bsome];exact h5
         simp only[if_neg hm,bsome]
     rw[if_neg h1];simp only[if_neg h1,rdisp_eq,bsome,at_eq]
   obtain rfl:i=l.length:=by omega
   rw[Y16,if_neg Om,bsome,l0O];rfl
theorem check_eq (l:List Itm)(h:BigL l):Y1z l=some (itemsF l):=by
 unfold Y1z itemsF;rw[check_L1 l h.1,bsome];have h5:=check_L2 l h l.length 0 FU 0 0 Om (FU_gt (by have:=h.1;omega)) Om;by_cases h1:60<l.length
 · rw[if_pos Om,bsome,if_pos rfl,if_pos (.inl h1)];rfl
 rw[if_neg Om,bsome];by_cases h2:60<sumW l
 · rw[decide_eq_true h2,if_pos rfl,if_pos (.inr h2)];rfl
 rw[decide_eq_false h2,if_neg Dc,if_neg (by intro h;rcases h with h|h;exact h1 h;exact h2 h)];exact h5
theorem rcheck_eq (l:List Itm)(h:BigL l):Y24 l=some (itemsF l):=by
 unfold Y24 itemsF;rw[rcheck_L1 l h.1,bsome];have h5:=rcheck_L2 l h l.length 0 FU 0 0 Om (FU_gt (by have:=h.1;omega)) Om;by_cases h1:60<l.length
 · rw[if_pos Om,bsome,if_pos rfl,if_pos (.inl h1)];rfl
 rw[if_neg Om,bsome];by_cases h2:60<sumW l
 · rw[decide_eq_true h2,if_pos rfl,if_pos (.inr h2)];rfl
 rw[decide_eq_false h2,if_neg Dc,if_neg (by intro h;rcases h with h|h;exact h1 h;exact h2 h)];exact h5
def sumN (l:List Itm):Nat:=(l.map fun x=>x.2.2.length).sum
theorem sameA_L1 (l:List Adr)(h:l.length≤140737488355328):∀(k i m:Nat),l.length-i≤k→k<m→i≤l.length→Y0H l l m (i:Int)=some (.inl ()):=by
 intro k;induction k with
 | zero =>
   intro i m h1 h2 h3;obtain⟨m,rfl⟩ :∃k,m=k+1:=⟨m-1,by omega⟩
   obtain rfl:i=l.length:=by omega
   rw[Y0H,if_neg Om]
 | succ k ih =>
   intro i m h1 h2 h3;obtain⟨m,rfl⟩ :∃k,m=k+1:=⟨m-1,by omega⟩
   by_cases hi:i<l.length
   · rw[Y0H,if_pos Om,idx_nat,List.getElem?_eq_getElem hi,bsome,bsome,if_pos ⟨rfl,rfl,rfl⟩,chk_succ Om,bsome];exact ih (i+1) m Om Om Om
   obtain rfl:i=l.length:=by omega
   rw[Y0H,if_neg Om]
theorem sameA_refl (l:List Adr)(h:l.length≤140737488355328):Y21 l l=some true:=by
 unfold Y21;rw[if_pos rfl,show (0:Int)=((0:Nat):Int) from rfl,sameA_L1 l h l.length 0 FU Om (FU_gt Om) Om];rfl
theorem ex_law : Y0V=some true:=by decide +kernel
end Go.Ph.Ad
end
section
namespace Go.Ph.Ad
open Go.Ph.Pl Go.Ph.Pf
def cmtF : Nat→Ls→Option Ls
 | _,[]=>none
 | d,[c]=>if c=41∧d=1 then some [] else none
 | d,c::x::l=>if c=40 then cmtF (d+1) (x::l) else if c=41 then(if d=1 then some (x::l) else cmtF (d-1) (x::l)) else if c=92 then cmtF d l else cmtF d (x::l)
theorem cmtF_len :∀(l:Ls) (d:Nat) (r:Ls),cmtF d l=some r→r.length<l.length
 | [],d,r,h=>by simp [cmtF] at h
 | [c],d,r,h=>by
   rw[cmtF] at h;split at h
   · cases h;simp
   cases h
 | c :: x::l,d,r,h=>by
   rw[cmtF] at h;split at h
   · have:=cmtF_len (x::l) _ _ h;simp at this ⊢;omega
   split at h
   · split at h
     · cases h;simp
     have:=cmtF_len (x::l) _ _ h;simp at this ⊢;omega
   split at h
   · have:=cmtF_len l _ _ h;simp at this ⊢;omega
   have:=cmtF_len (x::l) _ _ h;simp at this ⊢;omega
def blB (c:UInt8):Bool:=decide (c=32) || decide (c=9)
theorem blank_eq (c:UInt8):Y1e c=some (blB c):=by
 unfold Y1e blB;by_cases h:c=32 <;> simp [h]
def skF : Nat→Ls→Option Ls
 | 0,_=>none
 | _+1,[]=>some []
 | n+1,c::l=>if blB c=true then skF n l else if c=40 then(cmtF 1 l).bind (skF n) else some (c::l)
theorem skF_len :∀(n:Nat) (l r:Ls),skF n l=some r→r.length≤l.length
 | 0,l,r,h=>by simp [skF] at h
 | n+1,[],r,h=>by simp [skF] at h;simp [h]
 | n + 1,c::l,r,h=>by
   rw[skF] at h;split at h
   · have:=skF_len n l r h;simp;omega
   split at h
   · obtain⟨x,h1,h2⟩:=bnd h;have:=cmtF_len _ _ _ h1;have:=skF_len n x r h2;simp;omega
   cases h;simp
theorem skF_more :∀(n m:Nat) (l:Ls),l.length<n→l.length<m→skF n l=skF m l
 | 0,m,l,h,_=>by omega
 | n+1,0,l,_,h=>by omega
 | n+1,m+1,[],_,_=>rfl
 | n + 1,m+1,c::l,h1,h2=>by
   rw[skF,skF];simp only[l02] at h1 h2;rw[skF_more n m l Om Om];split
   · rfl
   split
   · cases hc:cmtF 1 l with
     | none=>rfl
     | some r =>
       have:=cmtF_len _ _ _ hc;rw[bsome,bsome];exact skF_more n m r Om Om
   rfl
def sk (l:Ls):Option Ls:=skF (l.length+1) l
theorem sk_nil : sk []=some []:=rfl
theorem sk_cons (c:UInt8)(l:Ls):sk (c::l)=if blB c=true then sk l else if c=40 then(cmtF 1 l).bind sk else some (c::l):=by
 unfold sk;rw[l02,skF];split
 · rfl
 split
 · cases hc:cmtF 1 l with
   | none=>rfl
   | some r =>
     have:=cmtF_len _ _ _ hc;rw[bsome,bsome];exact skF_more _ _ r Om Om
 rfl
theorem sk_len {l r:Ls}(h:sk l=some r):r.length≤l.length:=skF_len _ _ _ h
def quF : Ls→Option (Ls × Ls)
 | []=>none
 | [c]=>if c=34 then some ([],[]) else none
 | c::x::l=>if c=34 then some ([],x::l) else if c=92 then(quF l).map fun p=>(x::p.1,p.2) else(quF (x::l)).map fun p=>(c::p.1,p.2)
theorem quF_len :∀(l:Ls) (p:Ls × Ls),quF l=some p→p.2.length<l.length
 | [],p,h=>by simp [quF] at h
 | [c],p,h=>by
   rw[quF] at h;split at h
   · cases h;simp
   cases h
 | c :: x::l,p,h=>by
   rw[quF] at h;split at h
   · cases h;simp
   split at h
   · obtain⟨q,h1,rfl⟩:=Option.map_eq_some_iff.1 h;have:=quF_len l q h1;simp;omega
   obtain⟨q,h1,rfl⟩:=Option.map_eq_some_iff.1 h;have:=quF_len (x::l) q h1;simp at this ⊢;omega
def waB (c:UInt8):Bool:=atB c || decide (c=46)
def sgB (c:UInt8):Bool:=([58,59,44,64,60,62]:Ls).any fun x=>decide (x=c)
def nxF (l:Ls):Option (Elt × Ls) :=
 (sk l).bind fun l=>match l with
  | []=>some (none,[])
  | c::r=>if c=34 then(quF r).map fun p=>(eltW (p.1,true),p.2) else if sgB c=true then some (eltS c,r) else
   if waB c=true then some (eltW ((c::r).takeWhile waB,false),(c::r).dropWhile waB) else none
theorem dw_len (p:UInt8→Bool):∀l:Ls,(l.dropWhile p).length≤l.length
 | []=>by simp
 | c::l=>by
   by_cases h:p c=true
   · rw[l0C h];have:=dw_len p l;simp;omega
   rw[l0Z h];simp
theorem nxF_len {l r:Ls}{e:Elt}(h:nxF l=some (e,r))(he:e≠none):r.length<l.length:=by
 unfold nxF at h;obtain⟨x,h1,h2⟩:=bnd h;have hl:=sk_len h1;cases x with
 | nil=>cases h2;exact absurd rfl he
 | cons c y =>
   dsimp only at h2;simp only[l02] at hl;split at h2
   · obtain⟨q,h3,h4⟩:=Option.map_eq_some_iff.1 h2;cases h4;have:=quF_len _ _ h3;omega
   split at h2
   · cases h2;omega
   split at h2
   · rename_i hw;cases h2;rw[l0C hw];have:=dw_len waB y;omega
   cases h2
inductive LT where
 | err
 | eof
 | tok (e:UInt8 ⊕ (Ls × Bool)) (t:LT)
def lexF : Nat→Ls→LT
 | 0,_ => .err
 | n+1,l=>match nxF l with
   | none => .err
   | some (none,_) => .eof
   | some (some e,r) => .tok e (lexF n r)
theorem lexF_more :∀(n m:Nat) (l:Ls),l.length<n→l.length<m→lexF n l=lexF m l
 | 0,m,l,h,_=>by omega
 | n+1,0,l,_,h=>by omega
 | n + 1,m+1,l,h1,h2=>by
   rw[lexF,lexF];cases h:nxF l with
   | none=>rfl
   | some p =>
     obtain⟨e,r⟩:=p;cases e with
     | none=>rfl
     | some e =>
       have:=nxF_len h Sm;dsimp only;rw[lexF_more n m r Om Om]
def lex (l:Ls):LT:=lexF (l.length+1) l
theorem lex_eq (l:Ls):lex l=match nxF l with
 | none => .err
 | some (none,_) => .eof
 | some (some e,r) => .tok e (lex r):=by
 unfold lex;rw[lexF];cases h:nxF l with
 | none=>rfl
 | some p =>
   obtain⟨e,r⟩:=p;cases e with
   | none=>rfl
   | some e =>
     have:=nxF_len h Sm;dsimp only;rw[lexF_more l.length (r.length+1) r Om Om]
def Rs (s:Ls)(f:Option ((Ls × Int) ⊕ Int)):Option Ls→Prop
 | some r =>∃j:Nat,j≤s.length∧r=s.drop j∧f=some (.inl (s,(j:Int)))
 | none =>∃n:Int,0≤n∧f=some (.inr n)
def Rn {α:Type}(s:Ls)(f:Option ((α × (Ls × Int)) ⊕ Int)):Option (α × Ls)→Prop
 | some (a,r) =>∃j:Nat,j≤s.length∧r=s.drop j∧f=some (.inl (a,(s,(j:Int))))
 | none =>∃n:Int,0≤n∧f=some (.inr n)
abbrev Sml (s:Ls):Prop:=s.length≤4294967280
theorem fail_eq (s:Ls)(n:Int):Y0e (s,n)=some (.inr n):=rfl
theorem cmt_step (s:Ls)(i d:Nat)(c:UInt8):cmtF d (c::s.drop (i+1))=if c=40 then cmtF (d+1) (s.drop (i+1)) else if c=41 then(if d=1 then some (s.drop (i+1)) else cmtF (d-1) (s.drop (i+1))) else if c=92 then cmtF d (s.drop (i+1+1)) else cmtF d (s.drop (i+1)):=by
 by_cases hj:i+1<s.length
 · rw[l09 hj,cmtF]
 rw[l08 (show s.length≤i+1 by omega),l08 (show s.length≤i+1+1 by omega),cmtF];by_cases q1:c=40
 · subst q1;simp [cmtF]
 by_cases q2:c=41
 · subst q2;by_cases q3:d=1 <;> simp [cmtF,q3]
 simp [cmtF,q1,q2]
theorem cmt_run (s:Ls)(hs:Sml s):∀(k i m d:Nat),s.length+1-i≤k→k<m→i≤s.length+1→1≤d→d≤i+1→Rs s (Y05 m s (i:Int) (d:Int)) (cmtF d (s.drop i)):=by
 intro k;induction k with
 | zero =>
   intro i m d h1 h2 h3 h4 h5;obtain⟨m,rfl⟩ :∃k,m=k+1:=⟨m-1,by omega⟩
   rw[Y05,if_pos Om,fail_eq,l08 Om,cmtF];exact⟨_,l0g _,G⟩
 | succ k ih =>
   intro i m d h1 h2 h3 h4 h5;obtain⟨m,rfl⟩ :∃k,m=k+1:=⟨m-1,by omega⟩
   by_cases hi:i<s.length
   · have n1:=ih (i+1) m d Om Om Om h4 Om;have n2:=ih (i+1) m (d+1) Om Om Om Om Om;have n3:2≤d→Rs s (Y05 m s ((i+1:Nat):Int) ((d-1:Nat):Int)) (cmtF (d-1) (s.drop (i+1))):=fun hd=>ih (i+1) m (d-1) Om Om Om Om Om
     have n4:i+2≤s.length+1→Rs s (Y05 m s ((i+1+1:Nat):Int) (d:Int)) (cmtF d (s.drop (i+1+1))):=fun hd=>ih (i+1+1) m d Om Om Om h4 Om
     have hb:s.length≤4294967280:=hs;rw[Y05,if_neg Om,bsome];simp only;rw[idx_nat,List.getElem?_eq_getElem hi,bsome,l09 hi];obtain⟨c,hc⟩ :∃c,s[i]=c:=⟨_,rfl⟩
     rw[hc];rw[cmt_step];by_cases q1:c=40
     · rw[if_pos q1,if_pos q1,chk_succ Om,bsome,bsome];simp only;rw[chk_succ Om,bsome];exact n2
     rw[if_neg q1,if_neg q1];by_cases q2:c=41
     · rw[if_pos q2,if_pos q2,chk_pred h4 Om,bsome];by_cases q3:d=1
       · rw[if_pos Om,if_pos q3,chk_succ Om,bsome,bsome];exact⟨i+1,by omega,G,G⟩
       rw[if_neg Om,if_neg q3,bsome];simp only;rw[chk_succ Om,bsome];exact n3 Om
     rw[if_neg q2,if_neg q2];by_cases q3:c=92
     · rw[if_pos q3,if_pos q3,chk_succ Om,bsome,bsome];simp only;rw[chk_succ Om,bsome];exact n4 Om
     rw[if_neg q3,if_neg q3,bsome];simp only;rw[chk_succ Om,bsome];exact n1
   rw[Y05,if_pos Om,fail_eq,l08 Om,cmtF];exact⟨_,l0g _,G⟩
theorem comment_run (s:Ls)(hs:Sml s)(i:Nat)(hi:i<s.length)(hc:s[i]=40):Rs s (Y1c (s,(i:Int))) (cmtF 1 (s.drop (i+1))):=by
 have hb:s.length≤4294967280:=hs;unfold Y1c;rw[FU_pos,Y05];dsimp only;rw[if_neg Om,bsome];simp only;rw[idx_nat,List.getElem?_eq_getElem hi,bsome,hc,if_pos rfl];have h1:chk ((0:Int)+1)=some ((1:Nat):Int):=by decide
 rw[h1,bsome,bsome];simp only;rw[chk_succ Om,bsome];have:=cmt_run s hs (s.length+1) (i+1) 18446744073709551615 1 Om Om Om Om Om;revert this;cases cmtF 1 (s.drop (i+1)) with
 | none=>rintro⟨n,h1,h2⟩;exact ⟨n,h1,by rw[h2,bsome]⟩
 | some r=>rintro⟨j,h1,h2,h3⟩;exact ⟨j,h1,h2,by rw[h3,bsome]⟩
end Go.Ph.Ad
end
section
namespace Go.Ph.Ad
open Go.Ph.Pl Go.Ph.Pf
theorem skip_L1 (s:Ls)(hs:Sml s):∀(k i m:Nat),s.length-i≤k→k<m→i≤s.length→
 Rs s ((Y0d m s (i:Int)).bind fun o21=>(match o21 with | .inl (s3,n4)=>some (.inl (s3,n4)) | .inr r20=>some r20)) (sk (s.drop i)):=by
 intro k;induction k with
 | zero =>
   intro i m h1 h2 h3;obtain⟨m,rfl⟩ :∃k,m=k+1:=⟨m-1,by omega⟩
   rw[Y0d,if_neg Om,bsome,l08 Om,sk_nil];exact⟨i,h3,(l08 Om).symm,G⟩
 | succ k ih =>
   intro i m h1 h2 h3;obtain⟨m,rfl⟩ :∃k,m=k+1:=⟨m-1,by omega⟩
   have hb:s.length≤4294967280:=hs;by_cases hi:i<s.length
   · rw[Y0d,if_pos Om,idx_nat,List.getElem?_eq_getElem hi,bsome,blank_eq,bsome,l09 hi,sk_cons];by_cases hbl:blB s[i]=true
     · rw[if_pos hbl,if_pos hbl,chk_succ Om,bsome];exact ih (i+1) m Om Om Om
     rw[if_neg hbl,if_neg hbl];by_cases hc:s[i]=40
     · rw[if_pos hc,if_pos hc];have hcm:=comment_run s hs i hi hc;have hlen:=cmtF_len (s.drop (i+1)) 1;revert hcm hlen;cases cmtF 1 (s.drop (i+1)) with
       | none=>rintro⟨n,q1,q2⟩ _;rw [q2,bsome];exact ⟨n,q1,rfl⟩
       | some r =>
         rintro⟨j,q1,rfl,q3⟩ hlen;have hl:=hlen _ rfl;rw[l01,l01] at hl;rw[q3,bsome,bsome];exact ih j m Om Om q1
     rw[if_neg hc,if_neg hc,bsome];exact⟨i,h3,(l09 hi).symm,G⟩
   rw[Y0d,if_neg Om,bsome,l08 Om,sk_nil];exact⟨i,h3,(l08 Om).symm,G⟩
theorem skip_run (s:Ls)(hs:Sml s)(i:Nat)(h3:i≤s.length):Rs s (Y26 (s,(i:Int))) (sk (s.drop i)) :=
 skip_L1 s hs s.length i FU Om (FU_gt (by have:s.length≤4294967280:=hs;omega)) h3
theorem quote_L1 (s:Ls)(hs:Sml s):∀(k i m:Nat) (acc:Ls),s.length-i≤k→k<m→i≤s.length→acc.length≤i→
 Rn s (Y0h m s (i:Int) acc) ((quF (s.drop i)).map fun p=>(acc++p.1,p.2)):=by
 intro k;induction k with
 | zero =>
   intro i m acc h1 h2 h3 h4;obtain⟨m,rfl⟩ :∃k,m=k+1:=⟨m-1,by omega⟩
   rw[Y0h,if_pos Om,fail_eq,l08 Om,quF];exact⟨_,l0g _,G⟩
 | succ k ih =>
   intro i m acc h1 h2 h3 h4;obtain⟨m,rfl⟩ :∃k,m=k+1:=⟨m-1,by omega⟩
   have hb:s.length≤4294967280:=hs;by_cases hi:i<s.length
   · have n1:=fun c=>ih (i+1) m (acc++[c]) Om Om Om (by rw[l00];simp;omega)
     have n2:=fun(hj:i+1<s.length) c=>ih (i+1+1) m (acc++[c]) Om Om Om (by rw[l00];simp;omega)
     have ha :∀c:UInt8,app 1 acc [c]=some (acc++[c]):=fun c=>app_ok (by simp;omega)
     rw[Y0h,if_neg Om,bsome];simp only;rw[idx_nat,List.getElem?_eq_getElem hi,bsome,l09 hi];obtain⟨c,hc⟩ :∃c,s[i]=c:=⟨_,rfl⟩
     rw[hc];by_cases q1:c=34
     · rw[if_pos q1,chk_succ Om,bsome];have:quF (c::s.drop (i+1))=some ([],s.drop (i+1)):=by
        cases s.drop (i+1) <;> simp [quF,q1]
       rw[this];exact⟨i+1,by omega,G,by simp⟩
     rw[if_neg q1];by_cases q2:c=92
     · rw[if_pos q2,chk_succ Om,bsome];by_cases hj:i+1<s.length
       · rw[if_neg Om,bsome];simp only;rw[idx_nat,List.getElem?_eq_getElem hj,bsome,ha,bsome,bsome];simp only;rw[chk_succ Om,bsome,l09 hj,quF,if_neg q1,if_pos q2];have h5:=n2 hj s[i+1];revert h5;cases quF (s.drop (i+1+1)) with
         | none=>exact id
         | some p=>simp
       rw[if_pos Om,fail_eq,bsome,bsome];have:quF (c::s.drop (i+1))=none:=by rw[l08 Om,quF,if_neg q1]
       rw[this];exact⟨_,l0g _,G⟩
     rw[if_neg q2,ha,bsome,bsome];simp only;rw[chk_succ Om,bsome];have:quF (c::s.drop (i+1))=(quF (s.drop (i+1))).map fun p=>(c::p.1,p.2):=by
      cases hd:s.drop (i+1) with
      | nil=>simp [quF,q1]
      | cons x l=>rw[quF,if_neg q1,if_neg q2]
     rw[this];have h5:=n1 c;revert h5;cases quF (s.drop (i+1)) with
     | none=>exact id
     | some p=>simp
   rw[Y0h,if_pos Om,fail_eq,l08 Om,quF];exact⟨_,l0g _,G⟩
theorem quote_run (s:Ls)(hs:Sml s)(i:Nat)(hi:i<s.length):Rn s (Y1w (s,(i:Int))) (quF (s.drop (i+1))):=by
 have hb:s.length≤4294967280:=hs;unfold Y1w;dsimp only;rw[chk_succ Om,bsome];have:=quote_L1 s hs s.length (i+1) FU [] Om (FU_gt Om) Om Sm;revert this;cases quF (s.drop (i+1)) with
 | none=>rintro⟨n,h1,h2⟩;exact ⟨n,h1,by rw[h2,bsome]⟩
 | some r=>rintro⟨j,h1,h2,h3⟩;exact ⟨j,h1,h2,by rw[h3,bsome];rfl⟩
theorem word_L1 (s:Ls)(hs:Sml s):∀(k i m:Nat),s.length-i≤k→k<m→i≤s.length→
 Y0m m s (i:Int)=some (s,((i+((s.drop i).takeWhile waB).length:Nat):Int)):=by
 intro k;induction k with
 | zero =>
   intro i m h1 h2 h3;obtain⟨m,rfl⟩ :∃k,m=k+1:=⟨m-1,by omega⟩
   rw[Y0m,if_neg Om,bsome,if_neg Dc,l08 Om];rfl
 | succ k ih =>
   intro i m h1 h2 h3;obtain⟨m,rfl⟩ :∃k,m=k+1:=⟨m-1,by omega⟩
   have hb:s.length≤4294967280:=hs;by_cases hi:i<s.length
   · rw[Y0m,if_pos Om,idx_nat,List.getElem?_eq_getElem hi,bsome,atom_eq,bsome,l09 hi];have hw:(if atB s[i]=true then some true else(some s[i]).bind fun c31=>some (decide (c31=46)))=some (waB s[i]):=by
      unfold waB;cases atB s[i] <;> simp
     rw[hw,bsome];by_cases q:waB s[i]=true
     · rw[if_pos q,chk_succ Om,bsome,ih (i+1) m Om Om Om,l0o q,l02];congr 3;omega
     rw[if_neg q,l0y q];rfl
   rw[Y0m,if_neg Om,bsome,if_neg Dc,l08 Om];rfl
theorem sign_eq (c:UInt8):Y0z [58,59,44,64,60,62] c=some (ixB [58,59,44,64,60,62] c)∧(0≤ixB [58,59,44,64,60,62] c↔sgB c=true):=by
 refine⟨by unfold Y0z;rfl,?_⟩;refine allB (p:=fun c=>0≤ixB [58,59,44,64,60,62] c↔sgB c=true) ?_ c;decide +kernel
theorem tw_take {α:Type}(p:α→Bool):∀l:List α,l.take (l.takeWhile p).length=l.takeWhile p
 | []=>rfl
 | c::l=>by
   by_cases h:p c=true
   · rw[l0o h,l02,l0D,tw_take p l]
   rw[l0y h];rfl
theorem tw_drop {α:Type}(p:α→Bool):∀l:List α,l.drop (l.takeWhile p).length=l.dropWhile p
 | []=>rfl
 | c::l=>by
   by_cases h:p c=true
   · rw[l0o h,l02,l0X,tw_drop p l,l0C h]
   rw[l0y h,l0Z h];rfl
theorem tw_le {α:Type}(p:α→Bool):∀l:List α,(l.takeWhile p).length≤l.length
 | []=>by simp
 | c::l=>by
   by_cases h:p c=true
   · rw[l0o h];have:=tw_le p l;simp;omega
   rw[l0y h];simp
theorem next_run (s:Ls)(hs:Sml s)(i:Nat)(h3:i≤s.length):Rn s (Y0k (s,(i:Int))) (nxF (s.drop i)):=by
 have hb:s.length≤4294967280:=hs;unfold Y0k nxF;have hsk:=skip_run s hs i h3;revert hsk;dsimp only;cases sk (s.drop i) with
 | none=>rintro⟨n,q1,q2⟩;rw [q2,bsome];exact ⟨n,q1,rfl⟩
 | some r =>
   rintro⟨j,q1,rfl,q3⟩;rw[q3,bsome,bsome];by_cases hj:j<s.length
   · dsimp only;rw[if_neg Om,idx_nat,List.getElem?_eq_getElem hj,bsome,l09 hj];dsimp only;by_cases c1:s[j]=34
     · rw[if_pos c1,if_pos c1];have hq:=quote_run s hs j hj;revert hq;cases quF (s.drop (j+1)) with
       | none=>rintro⟨n,w1,w2⟩;rw [w2,bsome];exact ⟨n,w1,rfl⟩
       | some p=>rintro⟨k,w1,w2,w3⟩;rw [w3,bsome];exact ⟨k,w1,w2,rfl⟩
     rw[if_neg c1,if_neg c1,(sign_eq s[j]).1,bsome];by_cases c2:sgB s[j]=true
     · rw[if_pos ((sign_eq s[j]).2.2 c2),if_pos c2,chk_succ Om,bsome];exact⟨j+1,by omega,G,G⟩
     rw[if_neg (fun e=>c2 ((sign_eq s[j]).2.1 e)),if_neg c2,word_L1 s hs s.length j FU Om (FU_gt Om) Om,bsome,l09 hj];dsimp only;by_cases c3:waB s[j]=true
     · have hw:(s[j]::s.drop (j+1))=s.drop j:=(l09 hj).symm;have hpos:1≤((s[j]::s.drop (j+1)).takeWhile waB).length:=by rw[l0o c3];simp
       have hle:=tw_le waB (s.drop j);rw[l01] at hle;rw[if_neg Om,if_pos c3,bsome];rw[hw] at hpos ⊢;dsimp only;rw[cut_of rfl rfl Om Om,bsome,l0S,l1R,tw_take];exact⟨j+((s.drop j).takeWhile waB).length,by omega,by rw[←l0l,tw_drop],G⟩
     rw[if_pos (by rw[l0y c3];simp),if_neg c3,fail_eq,bsome,bsome];exact⟨_,l0g _,G⟩
   dsimp only;rw[if_pos Om,l08 Om];exact⟨j,q1,(l08 Om).symm,G⟩
def RnS {α:Type}(s:Ls)(f:Option ((α × (Ls × Int)) ⊕ Int)):Option (α × LT)→Prop
 | some (a,t) =>∃j:Nat,j≤s.length∧t=lex (s.drop j)∧f=some (.inl (a,(s,(j:Int))))
 | none =>∃n:Int,0≤n∧f=some (.inr n)
def RsS (s:Ls)(f:Option ((Ls × Int) ⊕ Int)):Option LT→Prop
 | some t =>∃j:Nat,j≤s.length∧t=lex (s.drop j)∧f=some (.inl (s,(j:Int)))
 | none =>∃n:Int,0≤n∧f=some (.inr n)
def elOf : LT→Elt
 | .tok e _=>some e
 | _=>none
theorem peek_run (s:Ls)(hs:Sml s)(i:Nat)(h3:i≤s.length):
 (lex (s.drop i) = .err∧∃n:Int,0≤n∧Y0f (s,(i:Int))=some (.inr n))∨(lex (s.drop i)≠ .err∧Y0f (s,(i:Int))=some (.inl (elOf (lex (s.drop i)),(s,(i:Int))))):=by
 have hn:=next_run s hs i h3;unfold Y0f;dsimp only;rw[lex_eq];revert hn;cases nxF (s.drop i) with
 | none=>rintro⟨n,q1,q2⟩;exact .inl ⟨rfl,n,q1,by rw[q2,bsome]⟩
 | some p =>
   obtain⟨e,r⟩:=p;rintro⟨j,q1,q2,q3⟩;refine .inr ?_;rw[q3,bsome];cases e with
   | none=>exact⟨fun h=>(by cases h),rfl⟩
   | some e=>exact⟨fun h=>(by cases h),rfl⟩
theorem next_tok (s:Ls)(hs:Sml s)(i:Nat)(h3:i≤s.length){e:UInt8 ⊕ (Ls × Bool)}{t:LT}(h:lex (s.drop i) = .tok e t):
 ∃j:Nat,j≤s.length∧i<j∧t=lex (s.drop j)∧Y0k (s,(i:Int))=some (.inl (some e,(s,(j:Int)))):=by
 have hn:=next_run s hs i h3;rw[lex_eq] at h;have hl := @nxF_len (s.drop i);revert hn h hl;cases nxF (s.drop i) with
 | none=>intro h;cases h
 | some p =>
   obtain⟨e',r⟩:=p;rintro h ⟨j,q1,rfl,q3⟩ hl;cases e' with
   | none=>cases h
   | some e' =>
     dsimp only at h;injection h with h1 h2;subst h1 h2;have:=hl rfl Sm;rw[l01,l01] at this;exact⟨j,q1,by omega,G,q3⟩
theorem next_eof (s:Ls)(hs:Sml s)(i:Nat)(h3:i≤s.length)(h:lex (s.drop i) = .eof):∃j:Nat,j≤s.length∧Y0k (s,(i:Int))=some (.inl (none,(s,(j:Int)))):=by
 have hn:=next_run s hs i h3;rw[lex_eq] at h;revert hn h;cases nxF (s.drop i) with
 | none=>intro h;cases h
 | some p =>
   obtain⟨e',r⟩:=p;rintro h ⟨j,q1,rfl,q3⟩;cases e' with
   | none=>exact⟨j,q1,q3⟩
   | some e'=>cases h
theorem next_err (s:Ls)(hs:Sml s)(i:Nat)(h3:i≤s.length)(h:lex (s.drop i) = .err):∃n:Int,0≤n∧Y0k (s,(i:Int))=some (.inr n):=by
 have hn:=next_run s hs i h3;rw[lex_eq] at h;revert hn h;cases nxF (s.drop i) with
 | none=>rintro _ ⟨n,q1,q2⟩;exact ⟨n,q1,q2⟩
 | some p=>obtain⟨e',r⟩:=p;cases e' <;>(intro h;cases h)
def wordsS : LT→Option (List (Ls × Bool) × LT)
 | .err=>none
 | .eof=>some ([], .eof)
 | .tok (.inl c) t=>some ([], .tok (.inl c) t)
 | .tok (.inr w) t=>(wordsS t).map fun p=>(w::p.1,p.2)
def isS (c:UInt8):LT→Option (Bool × LT)
 | .err=>none
 | .eof=>some (false, .eof)
 | .tok (.inr w) t=>some (false, .tok (.inr w) t)
 | .tok (.inl d) t=>if d=c then some (true,t) else some (false, .tok (.inl d) t)
def needS (c:UInt8)(t:LT):Option LT:=(isS c t).bind fun p=>if p.1=true then some p.2 else none
theorem Y5p (s:Ls)(hs:Sml s):∀(k i m:Nat) (acc:List (Ls × Bool)),s.length-i≤k→k<m→i≤s.length→acc.length≤i→
 RnS s (Y0i m s (i:Int) acc) ((wordsS (lex (s.drop i))).map fun p=>(acc++p.1,p.2)):=by
 intro k;induction k with
 | zero =>
   intro i m acc h1 h2 h3 h4;obtain⟨m,rfl⟩ :∃k,m=k+1:=⟨m-1,by omega⟩
   have he:lex (s.drop i) = .eof:=by rw[l08 Om];rfl
   rcases peek_run s hs i h3 with ⟨q1,_⟩|⟨_,q2⟩
   · rw[he] at q1;cases q1
   rw[Y0i,q2,bsome,he];simp only[elOf,okW_eq,bsome,isW,getW,l0h,if_false,wordsS,l1g];exact⟨i,h3,he.symm,by rw[l0k]⟩
 | succ k ih =>
   intro i m acc h1 h2 h3 h4;obtain⟨m,rfl⟩ :∃k,m=k+1:=⟨m-1,by omega⟩
   have hb:s.length≤4294967280:=hs;rcases peek_run s hs i h3 with ⟨q1,n,q2,q3⟩|⟨q1,q2⟩
   · rw[Y0i,q3,bsome,q1];exact⟨n,q2,G⟩
   rw[Y0i,q2,bsome];cases hl:lex (s.drop i) with
   | err=>exact absurd hl q1
   | eof =>
     simp only[elOf,okW_eq,bsome,isW,getW,l0h,if_false,wordsS,l1g];exact⟨i,h3,hl.symm,by rw[l0k]⟩
   | tok e t =>
     cases e with
     | inl c =>
       simp only[elOf,okW_eq,bsome,isW,getW,l0h,if_false,wordsS,l1g];exact⟨i,h3,hl.symm,by rw[l0k]⟩
     | inr w =>
       obtain⟨j,w1,w2,rfl,w4⟩:=next_tok s hs i h3 hl;simp only[elOf,okW_eq,bsome,isW,getW,if_true,w4];rw[app_ok (by simp;omega),bsome];have h5:=ih j m (acc++[w]) Om Om w1 (by rw[l00];simp;omega);rw[wordsS];revert h5;cases wordsS (lex (s.drop j)) with
       | none=>exact id
       | some p=>simp
theorem Y4y (s:Ls)(hs:Sml s)(i:Nat)(h3:i≤s.length):RnS s (Y0N (s,(i:Int))) (wordsS (lex (s.drop i))):=by
 have hb:s.length≤4294967280:=hs;unfold Y0N;dsimp only;have:=Y5p s hs s.length i FU [] Om (FU_gt Om) h3 Sm;revert this;cases wordsS (lex (s.drop i)) with
 | none=>rintro⟨n,h1,h2⟩;exact ⟨n,h1,by rw[h2,bsome]⟩
 | some r=>rintro⟨j,h1,h2,h3⟩;exact ⟨j,h1,h2,by rw[h3,bsome];rfl⟩
theorem is_run (s:Ls)(hs:Sml s)(i:Nat)(h3:i≤s.length)(c:UInt8):RnS s (Y0B (s,(i:Int)) c) (isS c (lex (s.drop i))):=by
 unfold Y0B;dsimp only;rcases peek_run s hs i h3 with ⟨q1,n,q2,q3⟩|⟨q1,q2⟩
 · rw[q3,bsome,q1];exact⟨n,q2,G⟩
 rw[q2,bsome];dsimp only;cases hl:lex (s.drop i) with
 | err=>exact absurd hl q1
 | eof =>
   dsimp only[isS];rw[if_neg (show ¬elOf LT.eof=eltS c by simp [elOf,eltS])];exact⟨i,h3,hl.symm,G⟩
 | tok e t =>
   cases e with
   | inr w =>
     dsimp only[isS];rw[if_neg (show ¬elOf (LT.tok (.inr w) t)=eltS c by simp [elOf,eltS])];exact⟨i,h3,hl.symm,G⟩
   | inl d =>
     dsimp only[isS];by_cases hd:d=c
     · obtain⟨j,w1,w2,rfl,w4⟩:=next_tok s hs i h3 hl;rw[if_pos (show elOf (LT.tok (.inl d) _)=eltS c by rw[hd];rfl),if_pos hd,w4,bsome];exact⟨j,w1,G,G⟩
     rw[if_neg (show ¬elOf (LT.tok (.inl d) t)=eltS c by intro e;exact hd (by simpa [elOf,eltS] using e)),if_neg hd];exact⟨i,h3,hl.symm,G⟩
theorem need_run (s:Ls)(hs:Sml s)(i:Nat)(h3:i≤s.length)(c:UInt8):RsS s (Y0W (s,(i:Int)) c) (needS c (lex (s.drop i))):=by
 have h:=is_run s hs i h3 c;unfold Y0W needS;dsimp only;revert h;cases isS c (lex (s.drop i)) with
 | none=>rintro⟨n,h1,h2⟩;rw [h2,bsome];exact ⟨n,h1,rfl⟩
 | some p =>
   obtain⟨b,t⟩:=p;rintro⟨j,h1,h2,h3⟩;rw[h3,bsome,bsome];cases b with
   | true=>exact⟨j,h1,h2,rfl⟩
   | false=>exact⟨_,l0g _,rfl⟩
end Go.Ph.Ad
end
section
namespace Go.Ph.Ad
open Go.Ph.Pl Go.Ph.Pf
theorem foldl_app {α β:Type}(f:α→List β):∀(l:List α) (o:List β),l.foldl (fun o a=>o++f a) o=o++l.flatMap f
 | [],o=>by simp
 | a::l,o=>by rw[l0M,foldl_app f l];simp
def esc (c:UInt8):Option Ls:=if c=34 then some [92,34] else if c=92 then some [92,92] else none
def q1 (c:UInt8):Ls:=(esc c).getD [c]
end Go.Ph.Ad
end
section
namespace Go.Ph.Ad
open Go.Ph.Pl Go.Ph.Pf
open Go.Ph.Chs (vld lower lowB)
theorem sg_facts (c:UInt8):sgB c=true→blB c=false∧c≠40∧c≠34∧waB c=false:=by
 refine allB (p:=fun c=>sgB c=true→blB c=false∧c≠40∧c≠34∧waB c=false) ?_ c;decide +kernel
theorem lex_nil : lex [] = .eof:=rfl
theorem lex_blank {c:UInt8}{l:Ls}(h:blB c=true):lex (c::l)=lex l:=by
 rw[lex_eq,lex_eq];unfold nxF;rw[sk_cons,if_pos h]
theorem loc_len {w:Ls}(h:locT w=true):w.length≤60:=by
 unfold locT at h;rw[l0j,decide_eq_true_eq] at h;omega
theorem dom_len {d:Ls}(h:domT d=true):d.length≤60:=by
 unfold domT at h;rw[l0j,decide_eq_true_eq] at h;omega
theorem sameI_L1 (l:List Itm)(h:l.length≤140737488355328)(hm :∀x∈l,x.2.2.length≤140737488355328):∀(k i m:Nat),l.length-i≤k→k<m→i≤l.length→Y1h l l m (i:Int)=some (.inl ()):=by
 intro k;induction k with
 | zero =>
   intro i m h1 h2 h3;obtain⟨m,rfl⟩ :∃k,m=k+1:=⟨m-1,by omega⟩
   obtain rfl:i=l.length:=by omega
   rw[Y1h,if_neg Om]
 | succ k ih =>
   intro i m h1 h2 h3;obtain⟨m,rfl⟩ :∃k,m=k+1:=⟨m-1,by omega⟩
   by_cases hi:i<l.length
   · rw[Y1h,if_pos Om,idx_nat,List.getElem?_eq_getElem hi];simp only[bsome,if_true,sameA_refl _ (hm _ (l0N hi)),l1v,l0h,if_false];rw[chk_succ Om,bsome];exact ih (i+1) m Om Om Om
   obtain rfl:i=l.length:=by omega
   rw[Y1h,if_neg Om]
theorem sameI_refl (l:List Itm)(h:l.length≤140737488355328)(hm :∀x∈l,x.2.2.length≤140737488355328):Y33 l l=some true:=by
 unfold Y33;rw[if_pos rfl,show (0:Int)=((0:Nat):Int) from rfl,sameI_L1 l h hm l.length 0 FU Om (FU_gt Om) Om];rfl
end Go.Ph.Ad
end
section
namespace Go.Ph.B64
theorem byThree {P:Ls→Prop}(h0:P [])(h1 :∀a,P [a])(h2 :∀a b,P [a,b])(h3 :∀a b c l,P l→P (a::b::c::l)):∀l,P l
 | []=>h0
 | [a]=>h1 a
 | [a,b]=>h2 a b
 | a::b::c::l=>h3 a b c l (byThree h0 h1 h2 h3 l)
abbrev A (k:Nat):UInt8:=alpha.getD k 0
theorem outp_eq (l:Ls):outp l 4=[ch l 0,ch l 1,ch l 2,ch l 3]:=rfl
theorem ch_of (l:Ls)(i:Nat)(h:i≤min 3 l.length):ch l i=A (accN l 3 / 2 ^ (18-6*i) % 64):=by
 unfold ch;rw [if_neg Om]
theorem acc3 (l:Ls):accN l 3=(l.getD 0 0).toNat*65536+(l.getD 1 0).toNat*256+(l.getD 2 0).toNat:=by
 simp only[accN];omega
theorem grp3 (a b c:UInt8)(l:Ls):outp (a::b::c::l) 4=[A (a.toNat / 4),A (a.toNat % 4*16+b.toNat / 16),A (b.toNat % 16*4+c.toNat / 64),A (c.toNat % 64)]:=by
 have ha:=a.toNat_lt;have hb:=b.toNat_lt;have hc:=c.toNat_lt;have h:=acc3 (a::b::c::l);simp only[l2B,l2C] at h;rw[outp_eq,ch_of _ _ Sm,ch_of _ _ Sm,ch_of _ _ Sm,ch_of _ _ Sm,h];congr 2
 · simp only[Nat.mul_zero,Nat.sub_zero];omega
 congr 2
 · simp only[l0H];omega
 congr 2
 · omega
 rw[show (a.toNat*65536+b.toNat*256+c.toNat) / 2 ^ (18-6*3) % 64=c.toNat % 64 by rw[show 2 ^ (18-6*3)=1 from rfl,Nat.div_one];omega]
theorem grp1 (a:UInt8):outp [a] 4=[A (a.toNat / 4),A (a.toNat % 4*16),61,61]:=by
 have ha:=a.toNat_lt;have h:=acc3 [a];simp only[l2B,l2C,List.getD_nil] at h;rw[outp_eq,ch_of _ _ Sm,ch_of _ _ Sm,h];congr 2
 · simp;omega
 congr 2;simp;omega
theorem grp2 (a b:UInt8):outp [a,b] 4=[A (a.toNat / 4),A (a.toNat % 4*16+b.toNat / 16),A (b.toNat % 16*4),61]:=by
 have ha:=a.toNat_lt;have hb:=b.toNat_lt;have h:=acc3 [a,b];simp only[l2B,l2C,List.getD_nil] at h;rw[outp_eq,ch_of _ _ Sm,ch_of _ _ Sm,ch_of _ _ Sm,h];congr 2
 · simp;omega
 congr 2
 · simp;omega
 congr 2;simp;omega
theorem grps_three (a b c:UInt8)(l:Ls):grps (a::b::c::l)=outp (a::b::c::l) 4::grps l:=by
 unfold grps;have h1:((a::b::c::l).length+2) / 3=(l.length+2) / 3+1:=by simp only[l02];omega
 rw[h1];unfold grpsTo;rw[List.range_succ_eq_map,l0i,l1t];congr 1
theorem grps_one (a:UInt8):grps [a]=[outp [a] 4]:=by
 unfold grps;rw[show ([a].length+2) / 3=1 by simp];simp [grpsTo,grpAt,l2e]
theorem grps_two (a b:UInt8):grps [a,b]=[outp [a,b] 4]:=by
 unfold grps;rw[show ([a,b].length+2) / 3=1 by simp];simp [grpsTo,grpAt,l2e]
theorem sumN6 (x y z u v w:Nat):sumN [x,y,z,u,v,w]=32*x+16*y+8*z+4*u+2*v+w:=by simp [sumN];omega
theorem sumN8 (u:Nat)(h:u<256):sumN (bits8 u)=u:=by simp [sumN,bits8];omega
theorem six_add (x bits:List Nat)(m q:Nat)(hx:x.length=6*m):six (x++bits) (m+q)=six bits q:=by
 unfold six;congr 1;rw[l0S,l0S];rw[show 6*(m+q)=x.length+6*q by omega,List.drop_length_add_append];congr 1;omega
theorem sext_add (x bits:List Nat)(m:Nat)(hx:x.length=6*m)(q:Nat):sext (x++bits) (m+q)=sext (x++bits) m++sext bits q:=by
 induction q with
 | zero=>simp [sext]
 | succ q ih=>rw[←l1u,sext,sext,ih,six_add x bits m q hx,l0d]
theorem padBits_three (a b c:UInt8)(l:Ls):padBits (a::b::c::l)=(bits8 a.toNat++bits8 b.toNat++bits8 c.toNat)++padBits l:=by
 unfold padBits bitsOf;simp only[l0u,l0d,l02];rw[show (6-8*(l.length+1+1+1) % 6) % 6=(6-8*l.length % 6) % 6 by omega]
theorem sext_lit (x:List Nat)(bits:List Nat)(n1 n2 n3 n4:Nat)(h1:six (x++bits) 0=n1)(h2:six (x++bits) 1=n2)(h3:six (x++bits) 2=n3)(h4:six (x++bits) 3=n4)(l1:n1<64)(l2:n2<64)(l3:n3<64)(l4:n4<64):
 sext (x++bits) 4=[A n1,A n2,A n3,A n4]:=by
 simp only[sext,h1,h2,h3,h4,alpha_one _ l1,alpha_one _ l2,alpha_one _ l3,alpha_one _ l4];rfl
theorem chars_three (a b c:UInt8)(l:Ls):chars64 (a::b::c::l)=outp (a::b::c::l) 4++chars64 l:=by
 have ha:=a.toNat_lt;have hb:=b.toNat_lt;have hc:=c.toNat_lt;have hlen:(padBits (a::b::c::l)).length / 6=4+(padBits l).length / 6:=by
  rw[padBits_three,l00];simp only[l00,bits8_len];omega
 have h4:sext (padBits (a::b::c::l)) 4=outp (a::b::c::l) 4:=by
  rw[grp3,padBits_three];refine sext_lit _ _ _ _ _ _ ?_ ?_ ?_ ?_ Om Om Om Om
  · simp only[six,bits8,l05,l07,l0D,l1d,l0m,Nat.mul_zero,l0s,sumN6];omega
  · simp only[six,bits8,l05,l07,l0D,l1d,l0X,l0m,l0H,sumN6];omega
  · simp only[six,bits8,l05,l07,l0D,l1d,l0X,l0m,sumN6];omega
  simp only[six,bits8,l05,l07,l0D,l1d,l0X,l0m,sumN6];omega
 have hs:sext (padBits (a::b::c::l)) ((padBits (a::b::c::l)).length / 6)=outp (a::b::c::l) 4++sext (padBits l) ((padBits l).length / 6):=by
  rw[hlen,←h4,padBits_three];exact sext_add _ _ 4 (by simp [bits8_len]) _
 unfold chars64;simp only[hs,l0d,l00];congr 3;rw[show (outp (a::b::c::l) 4).length=4 from rfl];omega
theorem padBits_one (a:UInt8):padBits [a]=bits8 a.toNat++[0,0,0,0]:=by simp [padBits,bitsOf,List.replicate]
theorem padBits_two (a b:UInt8):padBits [a,b]=bits8 a.toNat++bits8 b.toNat++[0,0]:=by simp [padBits,bitsOf,List.replicate]
theorem chars_of {l:Ls}{q:Nat}{s:Ls}(hq:(padBits l).length / 6=q)(h:sext (padBits l) q=s):chars64 l=s++List.replicate ((4-s.length % 4) % 4) 61:=by
 unfold chars64;rw [hq,h]
theorem chars_one (a:UInt8):chars64 [a]=outp [a] 4:=by
 have ha:=a.toNat_lt;rw[grp1];have h:sext (padBits [a]) 2=[A (a.toNat / 4),A (a.toNat % 4*16)]:=by
  rw[padBits_one];have h1:six (bits8 a.toNat++[0,0,0,0]) 0=a.toNat / 4:=by
   simp only[six,bits8,l05,l07,l0D,l1d,l0m,Nat.mul_zero,l0s,sumN6];omega
  have h2:six (bits8 a.toNat++[0,0,0,0]) 1=a.toNat % 4*16:=by
   simp only[six,bits8,l05,l07,l0D,l1d,l0X,l0m,l0H,sumN6];omega
  simp only[sext,h1,h2,alpha_one _ (show a.toNat / 4<64 by omega),alpha_one _ (show a.toNat % 4*16<64 by omega)];rfl
 rw[chars_of (by rw[padBits_one];simp [bits8_len]) h];rfl
theorem chars_two (a b:UInt8):chars64 [a,b]=outp [a,b] 4:=by
 have ha:=a.toNat_lt;have hb:=b.toNat_lt;rw[grp2];have h:sext (padBits [a,b]) 3=[A (a.toNat / 4),A (a.toNat % 4*16+b.toNat / 16),A (b.toNat % 16*4)]:=by
  rw[padBits_two];have h1:six (bits8 a.toNat++bits8 b.toNat++[0,0]) 0=a.toNat / 4:=by
   simp only[six,bits8,l05,l07,l0D,l1d,l0m,Nat.mul_zero,l0s,sumN6];omega
  have h2:six (bits8 a.toNat++bits8 b.toNat++[0,0]) 1=a.toNat % 4*16+b.toNat / 16:=by
   simp only[six,bits8,l05,l07,l0D,l1d,l0X,l0m,l0H,sumN6];omega
  have h3:six (bits8 a.toNat++bits8 b.toNat++[0,0]) 2=b.toNat % 16*4:=by
   simp only[six,bits8,l05,l07,l0D,l1d,l0X,l0m,sumN6];omega
  simp only[sext,h1,h2,h3,alpha_one _ (show a.toNat / 4<64 by omega),alpha_one _ (show a.toNat % 4*16+b.toNat / 16<64 by omega),alpha_one _ (show b.toNat % 16*4<64 by omega)];rfl
 rw[chars_of (by rw[padBits_two];simp [bits8_len]) h];rfl
theorem chars_grps (l:Ls):chars64 l=(grps l).flatten:=by
 induction l using byThree with
 | h0=>rfl
 | h1 a=>rw[chars_one,grps_one];simp
 | h2 a b=>rw[chars_two,grps_two];simp
 | h3 a b c l ih=>rw[chars_three,grps_three,l0x,ih]
theorem flat_len (gs:List Ls)(h :∀g∈gs,g.length=4):gs.flatten.length=4*gs.length:=by
 induction gs with
 | nil=>rfl
 | cons g gs ih =>
   rw[l0x,l00,h g l0K,ih (fun x hx=>h x (l0E _ hx)),l02];omega
theorem wrapTo_app (cs t:Ls)(m:Nat)(h:76*m≤cs.length):wrapTo (cs++t) m=wrapTo cs m:=by
 induction m with
 | zero=>rfl
 | succ m ih =>
   rw[wrapTo,wrapTo,ih Om];congr 2;rw[l0P Om,l1W (by rw[l01];omega)]
theorem encRun_wrap (gs:List Ls)(h :∀g∈gs,g.length=4):∃k,k=(gs.flatten.length-1) / 76∧(encRun gs).1=wrapTo gs.flatten k++gs.flatten.drop (76*k)∧(encRun gs).2=gs.flatten.length-76*k:=by
 have key :∀(n:Nat) (gs:List Ls),gs.length=n→(∀g∈gs,g.length=4)→∃k,k=(gs.flatten.length-1) / 76∧(encRun gs).1=wrapTo gs.flatten k++gs.flatten.drop (76*k)∧(encRun gs).2=gs.flatten.length-76*k:=by
  intro n;induction n with
  | zero =>
    intro gs hn _;obtain rfl:=l0c hn;exact⟨0,G,G,G⟩
  | succ n ih =>
    intro gs hn hg;obtain⟨g0,g,rfl⟩ :∃g0 g,gs=g0++[g]:=⟨gs.dropLast,gs.getLast (by rintro rfl;cases hn),(List.dropLast_concat_getLast _).symm⟩
    have hl0:g0.length=n:=by simpa using hn
    have hg0 :∀x∈g0,x.length=4:=fun x hx=>hg x (l1o _ hx)
    have hg4:g.length=4:=hg g (l1z _ (List.mem_singleton.2 rfl));obtain⟨k,hk,h1,h2⟩:=ih g0 hl0 hg0;have hfl:=flat_len g0 hg0;have hflat:(g0++[g]).flatten=g0.flatten++g:=by simp
    rw[hflat,encRun_next,encStep,h1,h2,l00,hg4];generalize g0.flatten=cs at *;by_cases hf:cs.length-76*k=76
    · rw[if_pos hf];refine⟨k+1,by omega,?_,by simp only[];omega⟩;have e0:cs.length=76*(k+1):=by omega
      have e1:(cs++g).drop (76*(k+1))=g:=by rw[←e0];exact l2l
      have e2:((cs++g).drop (76*k)).take 76=cs.drop (76*k):=by
       have e3:(cs.drop (76*k)).length=76:=by rw[l01];omega
       rw[l0P Om];exact l1i e3
      rw[wrapTo,wrapTo_app _ _ _ Om,e1,e2]
    rw[if_neg hf];refine⟨k,by omega,?_,by simp only[];omega⟩;simp only[];rw[wrapTo_app _ _ _ Om,l0P Om,l0d]
 exact key _ gs G h
theorem encode_lines (l:Ls):encode l=lines64 (chars64 l):=by
 obtain⟨k,hk,h1,h2⟩:=encRun_wrap (grps l) (grps_all l);rw[chars_grps];unfold encode lines64;rw[h1,h2,←hk];generalize (grps l).flatten=cs at *;by_cases hc:cs.drop (76*k)=[]
 · have:cs.length≤76*k:=List.drop_eq_nil_iff.1 hc;rw[if_neg Om,if_pos hc,hc]
 have:76*k<cs.length:=by
  rcases l0Q (76*k) cs.length with h|h
  · exact h
  exact absurd (l08 h) hc
 rw[if_pos Om,if_neg hc,l0d]
theorem encode_len (l:Ls):(encode l).length≤4*((l.length+2) / 3)+2*(4*((l.length+2) / 3) / 76)+2:=by
 obtain⟨k,hk,h1,h2⟩:=encRun_wrap (grps l) (grps_all l);have hfl:=flat_len (grps l) (grps_all l);rw[grps_len] at hfl;have hw :∀(cs:Ls) (m:Nat),76*m≤cs.length→(wrapTo cs m).length=78*m:=by
  intro cs m;induction m with
  | zero=>intro _;rfl
  | succ m ih=>intro h;simp only[wrapTo,l00,l04,l01,l02,l03,ih Om];omega
 have h3:(encRun (grps l)).1.length=78*k+((grps l).flatten.length-76*k):=by
  rw[h1,l00,hw _ _ Om,l01]
 unfold encode;split
 · rw[l00,h3];simp only[l02,l03];omega
 rw[h3];omega
theorem chars_len (l:Ls):(chars64 l).length=4*((l.length+2) / 3):=by
 rw[chars_grps,flat_len _ (grps_all l),grps_len]
def low (n y:Nat):List Nat:=(List.range n).map fun i=>y / 2 ^ (n-1-i) % 2
theorem low_len (n y:Nat):(low n y).length=n:=by simp [low]
theorem lrun_bits (m:Ls):vbits m=bitsOf (lrun m).1++low (lrun m).2.2 (lrun m).2.1:=by
 have key :∀(m:Ls) (s:Ls × Nat × Nat) (pre:List Nat),((s.2.2≤6∧s.2.2 % 2=0)∧s.2.1<2 ^ s.2.2)→pre=bitsOf s.1++low s.2.2 s.2.1→pre++vbits m=bitsOf (m.foldl lstep s).1++low (m.foldl lstep s).2.2 (m.foldl lstep s).2.1:=by
  intro m;induction m with
  | nil=>intro s pre _ h;simpa [vbits] using h
  | cons c m ih =>
    intro s pre hi h;have hn:=lstep_inv s c hi.1 hi.2;have:pre++vb c=bitsOf (lstep s c).1++low (lstep s c).2.2 (lstep s c).2.1:=by
     unfold vb lstep;by_cases hv:val64 c<0
     · rw[if_pos hv,if_pos hv];simpa using h
     rw[if_neg hv,if_neg hv];obtain⟨e1,e2⟩:=val64_idx (c:=c) Om;rw[e1,l0t,h];obtain⟨o,x,b⟩:=s;simp only[] at hi ⊢;obtain hb|hb|hb|hb:b=0∨b=2∨b=4∨b=6:=by omega
     · subst hb;simp only[Nat.pow_zero] at hi;have hx:x=0:=by omega
       subst hx;simp [low,l2e,bits6]
     all_goals
      subst hb;simp only[show ¬(2+6<8) by omega,show ¬(4+6<8) by omega,show ¬(6+6<8) by omega,if_false];have hx:=hi.2;simp only[Nat.reducePow] at hx;unfold bitsOf;rw[l0W,l0d,l0d];congr 1;simp only[l0u,l1E,l0k,bits8,low,bits6,l2e,List.range_zero,l07,l05,l0i,l0U,UInt8.toNat_ofNat',Nat.reduceAdd,Nat.reduceSub,Nat.reducePow];simp only[List.cons.injEq,and_true];omega
    have h2:=ih (lstep s c) (pre++vb c) hn this;rw[l0M,←h2];simp [vbits]
 have:=key m ([],0,0) [] Sm rfl;simpa [lrun] using this
theorem eight_add (x bits:List Nat)(q:Nat)(hx:x.length=8):eight (x++bits) (q+1)=eight bits q:=by
 unfold eight;congr 1;rw[l0S,l0S,show 8*(q+1)=x.length+8*q by omega,List.drop_length_add_append];congr 1;omega
theorem octs_cons (u:UInt8)(bits:List Nat)(q:Nat):octs (bits8 u.toNat++bits) (q+1)=u::octs bits q:=by
 induction q with
 | zero =>
   have:eight (bits8 u.toNat++bits) 0=u.toNat:=by
    unfold eight;rw[show (List.take (8*0+8) (bits8 u.toNat++bits)).drop (8*0)=bits8 u.toNat by simp [bits8]];exact sumN8 _ u.toNat_lt
   simp [octs,this]
 | succ q ih=>rw[octs,ih,eight_add _ _ _ (bits8_len _),octs,l05]
theorem octs_bits (o:Ls)(t:List Nat):octs (bitsOf o++t) o.length=o:=by
 induction o with
 | nil=>rfl
 | cons u o ih =>
   have:bitsOf (u::o)++t=bits8 u.toNat++(bitsOf o++t):=by simp [bitsOf]
   rw[this,l02,octs_cons,ih]
theorem lenient_loose (l:Ls):lenient l=loose64 l:=by
 unfold lenient loose64;have h:=lrun_bits (upto61 l);have hi:=lrun_inv (upto61 l);have hl:(vbits (upto61 l)).length / 8=(lrun (upto61 l)).1.length:=by
  rw[h,l00,bitsOf_len,low_len];omega
 rw[hl,h,octs_bits]
end Go.Ph.B64
end
section
namespace Go.Ph.Wd
open Go.Ph.Pl Go.Ph.Pf
open Go.Ph.Gr (chars Ch byts)
open Go.Ph.Chs (vld setN setOf encK encGo decoded utf8)
theorem foldI {α σ γ:Type}{L:Nat→σ→Int→Option γ}(l:List α)(F:σ→α→σ)(fin:σ→γ)(I:Nat→σ→Prop)
 (hend :∀m s,I l.length s→L (m+1) s (l.length:Int)=some (fin s))
 (hstep :∀m s i a,l[i]? = some a→I i s→I (i+1) (F s a)∧L (m+1) s (i:Int)=L m (F s a) ((i+1:Nat):Int)) :
 ∀(d i:Nat) (s:σ) (m:Nat),l.length-i=d→i≤l.length→d<m→I i s→L m s (i:Int)=some (fin ((l.drop i).foldl F s)):=by
 intro d;induction d with
 | zero =>
   intro i s m h1 h2 h3 hI;obtain⟨m,rfl⟩ :∃k,m=k+1:=⟨m-1,by omega⟩
   obtain rfl:i=l.length:=by omega
   rw[hend m s hI,l0O];rfl
 | succ d ih =>
   intro i s m h1 h2 h3 hI;obtain⟨m,rfl⟩ :∃k,m=k+1:=⟨m-1,by omega⟩
   have hi:i<l.length:=by omega
   obtain⟨hI',hL⟩:=hstep m s i l[i] (List.getElem?_eq_getElem hi) hI;rw[hL,ih (i+1) _ m Om Om Om hI',l09 hi];rfl
theorem foldI0 {α σ γ:Type}{L:Nat→σ→Int→Option γ}(l:List α)(F:σ→α→σ)(fin:σ→γ)(I:Nat→σ→Prop)(hl:l.length≤9223372036854775807)
 (hend :∀m s,I l.length s→L (m+1) s (l.length:Int)=some (fin s))
 (hstep :∀m s i a,l[i]? = some a→I i s→I (i+1) (F s a)∧L (m+1) s (i:Int)=L m (F s a) ((i+1:Nat):Int)) (s:σ) (h0:I 0 s):L FU s 0=some (fin (l.foldl F s)):=by
 have:=foldI l F fin I hend hstep l.length 0 s FU Om Om (FU_gt hl) h0;simpa using this
theorem foldl_app {α β:Type}(f:α→List β):∀(l:List α) (o:List β),l.foldl (fun o a=>o++f a) o=o++l.flatMap f
 | [],o=>by simp
 | a::l,o=>by rw[l0M,foldl_app f l];simp
def hexd : Ls:=[48,49,50,51,52,53,54,55,56,57,65,66,67,68,69,70]
def alnum (c:UInt8):Bool:=decide (97≤c.toNat∧c.toNat≤122) ||(decide (65≤c.toNat∧c.toNat≤90) || decide (48≤c.toNat∧c.toNat≤57))
def hx (n:Nat):UInt8:=hexd.getD n 0
theorem allB {p:UInt8→Prop}(h :∀n,n<256→p (UInt8.ofNat n))(c:UInt8):p c:=by
 have:=h c.toNat c.toNat_lt;rwa [UInt8.ofNat_toNat] at this
theorem two_eq (c:UInt8):R_Two c=some [hx (c.toNat / 16),hx (c.toNat % 16)]:=by
 refine allB (p:=fun c=>R_Two c=some [hx (c.toNat / 16),hx (c.toNat % 16)]) ?_ c;decide +kernel
def dq1 (c:UInt8):Ls:=if c=32 then [95] else if alnum c=true then [c] else [61,hx (c.toNat / 16),hx (c.toNat % 16)]
def dq (b:Ls):Ls:=b.flatMap dq1
theorem dq1_len (c : UInt8) : 1 ≤ (dq1 c).length ∧ (dq1 c).length ≤ 3 := by unfold dq1;split; · simp
                                                                            split <;> simp
theorem dq_len (b:Ls):(dq b).length≤3*b.length:=by
 unfold dq;induction b with
 | nil=>simp
 | cons c b ih=>have:=dq1_len c;simp only[l0u,l00,l02];omega
inductive Good : Ls→Prop
 | nil:Good []
 | one {c:UInt8} {t:Ls} (h1:c≠13) (h2:c≠10) (h:Good t):Good (c::t)
 | crlf {t:Ls} (h:Good t):Good (13::10::t)
theorem Good.app {a b:Ls}(h:Good a)(k:Good b):Good (a++b):=by
 induction h with
 | nil=>exact k
 | one h1 h2 _ ih=>exact .one h1 h2 ih
 | crlf _ ih=>exact .crlf ih
def fre (l:Ls):Prop :=∀c∈l,c≠13∧c≠10
theorem Good.of {a:Ls}(h:fre a):Good a:=by
 induction a with
 | nil=>exact .nil
 | cons c a ih=>exact .one (h c Sm).1 (h c Sm).2 (ih fun x hx=>h x (by simp [hx]))
def keep (c:UInt8):Bool:=decide (c≠13∧c≠10)
theorem keep_fre {a:Ls}(h:fre a):a.filter keep=a:=by
 rw[List.filter_eq_self];intro c hc;exact decide_eq_true (h c hc)
theorem Good.index {s:Ls}(h:Good s):(Lib.index s [13,10] = -1∧fre s)∨∃i:Nat,Lib.index s [13,10]=(i:Int)∧fre (s.take i)∧Good (s.drop (i+2))∧i+2≤s.length∧s.filter keep=s.take i++(s.drop (i+2)).filter keep:=by
 induction h with
 | nil=>exact .inl ⟨rfl,fun c hc=>by cases hc⟩
 | @one c t h1 h2 h ih =>
   have hp:([13,10]:Ls).isPrefixOf (c::t)=false:=by simp [List.isPrefixOf,Ne.symm h1]
   have hk:keep c=true:=decide_eq_true ⟨h1,h2⟩;rcases ih with ⟨e1,e2⟩|⟨i,e1,e2,e3,e4,e5⟩
   · refine .inl ⟨by rw[Lib.index,hp,e1];rfl,fun x hx=>?_⟩;rcases List.mem_cons.1 hx with rfl|hx
     · exact⟨h1,h2⟩
     exact e2 x hx
   refine .inr ⟨i+1,?_,fun x hx=>?_,?_,by rw[l02];omega,?_⟩
   · rw[Lib.index,hp,e1];have:((i:Int) == -1)=false:=by simp
     rw[this];simp
   · rw[l0D] at hx;rcases List.mem_cons.1 hx with rfl|hx
     · exact⟨h1,h2⟩
     exact e2 x hx
   · rw[show i+1+2=(i+2)+1 by omega,l0X];exact e3
   rw[List.filter_cons_of_pos hk,e5,l0D,show i+1+2=(i+2)+1 by omega,l0X];rfl
 | @crlf t h ih =>
   refine .inr ⟨0,by rw[Lib.index];simp [List.isPrefixOf],fun x hx=>(by cases hx),h,by simp,?_⟩;rw[l1d,l0X,l0X,l0m,List.filter_cons_of_neg Dc,List.filter_cons_of_neg Dc];rfl
theorem replK :∀(n:Nat) (s:Ls),s.length≤n→Good s→Lib.replaceK [13,10] [] (Lib.count s [13,10]) s=s.filter keep
 | n,s,hn,h=>by
   rcases h.index with ⟨e1,e2⟩|⟨i,e1,e2,e3,e4,e5⟩
   · rw[Lib.count_miss e1,keep_fre e2];rfl
   obtain⟨n,rfl⟩ :∃k,n=k+1:=⟨n-1,by omega⟩
   rw[Lib.count_hit Sm e1,l2g,Lib.replaceK_hit _ _ _ _ _ e1,e5,l0k];show _++Lib.replaceK [13,10] [] (Lib.count (s.drop (i+2)) [13,10]) (s.drop (i+2))=_
   rw[replK n (s.drop (i+2)) (by rw[l01];omega) e3]
theorem repl_good {s:Ls}(h:Good s):Lib.replaceAll s [13,10] []=s.filter keep:=by
 unfold Lib.replaceAll Lib.replace Lib.replaceNum;rw[if_neg Dc,if_pos (.inl Dc)];exact replK _ _ (l0e _) h
theorem alpha_fre :∀c∈(61::B64.alpha),c≠13∧c≠10:=by decide
theorem alpha_at (k:Nat):B64.alpha.getD k 0∈(61::B64.alpha)∨B64.alpha.getD k 0=0:=by
 by_cases h:k<B64.alpha.length
 · rw[B64.getD_in _ _ _ h];exact .inl (l0E _ (l0N h))
 rw[B64.getD_out _ _ _ Om];exact .inr rfl
theorem outp_fre (l:Ls):fre (B64.outp l 4):=fun c hc=>by
 rw[B64.outp_eq] at hc;have hch :∀i,B64.ch l i≠13∧B64.ch l i≠10:=fun i=>by
  unfold B64.ch;split
  · decide
  rcases alpha_at (B64.accN l 3 / 2 ^ (18-6*i) % 64) with h|h
  · exact alpha_fre _ h
  rw[h];decide
 simp only[l0T,l0G,or_false] at hc;rcases hc with rfl|rfl|rfl|rfl <;> exact hch _
theorem chars64_fre (l:Ls):fre (B64.chars64 l):=fun c hc=>by
 rw[B64.chars_grps] at hc;obtain⟨g,hg,hc⟩:=List.mem_flatten.1 hc;unfold B64.grps B64.grpsTo at hg;obtain⟨k,_,rfl⟩:=List.mem_map.1 hg;exact outp_fre _ c hc
theorem fre_sub {a b:Ls}(h:fre b)(hs :∀c∈a,c∈b):fre a:=fun c hc=>h c (hs c hc)
theorem wrapTo_good {cs:Ls}(h:fre cs):∀m,Good (B64.wrapTo cs m)∧(B64.wrapTo cs m).filter keep=cs.take (76*m)
 | 0=>⟨.nil,rfl⟩
 | m+1=>by
   obtain⟨h1,h2⟩:=wrapTo_good h m;have hf:fre ((cs.drop (76*m)).take 76):=fre_sub h fun c hc=>l2w (l1p hc)
   rw[B64.wrapTo];refine⟨(h1.app (.of hf)).app (.crlf .nil),?_⟩;rw[l2j,l2j,h2,keep_fre hf,show ([13,10]:Ls).filter keep=[] by decide,l0k];rw[show 76*(m+1)=76*m+76 by omega,List.take_add]
theorem lines_good {cs:Ls}(h:fre cs):Good (B64.lines64 cs)∧(B64.lines64 cs).filter keep=cs:=by
 obtain⟨h1,h2⟩:=wrapTo_good h ((cs.length-1) / 76);have hf:fre (cs.drop (76*((cs.length-1) / 76))):=fre_sub h fun c hc=>l2w hc
 unfold B64.lines64;split
 · rename_i hd;refine⟨h1.app .nil,?_⟩;rw[l0k,h2];have:=l0J (76*((cs.length-1) / 76)) cs;rw[hd,l0k] at this;exact this
 refine⟨h1.app ((Good.of hf).app (.crlf .nil)),?_⟩;rw[l2j,l2j,h2,keep_fre hf,show ([13,10]:Ls).filter keep=[] by decide,l0k,l0J]
theorem flat_eq (b:Ls)(hb:b.length≤12000):Y3o b=some (B64.chars64 b):=by
 unfold Y3o Y3j Y10;have hl:=B64.encode_len b;rw[if_pos hb,bsome];dsimp only;rw[if_pos ⟨by omega,by decide,by simp;omega⟩,bsome,B64.encode_lines];obtain⟨h1,h2⟩:=lines_good (chars64_fre b);rw[repl_good h1,h2]
abbrev nam (k:Nat):Ls:=setN.getD k []
theorem setOf_nam :∀k,k<4→setOf (nam k)=some k:=by decide
theorem nam_len :∀k,k<4→(nam k).length≤7:=by decide
theorem nam_utf8 :∀k,k<4→(nam k=[117,116,102,56]↔k=2):=by decide
def enc (k:Nat)(l:Ls):Ls:=(chars l).flatMap fun c=>(encK k c.1).getD []
structure okE (k:Nat)(l:Ls):Prop where
 v:vld l=true
 e :∀c∈chars l,∃b,encK k c.1=some b
theorem enc_go {k:Nat}{l:Ls}(h:okE k l):encGo (encK k) (chars l) 0 = .ok (enc k l):=by
 obtain⟨b,hb⟩:=Chs.encGo_all (chars l) 0 h.e;rw[hb];obtain⟨bs,h1,h2⟩:=Chs.encGo_ok _ _ _ hb;have:enc k l=(bs.map some).flatMap (fun o=>o.getD []):=by
  rw[←h1];unfold enc;rw [List.flatMap_map]
 rw[this,h2,List.flatMap_map];simp
theorem chars_len (l:Ls):(chars l).length≤l.length:=by
 have h:=Gr.flat_le ((chars l).map (·.2)) (fun p hp=>by
  obtain⟨c,hc,rfl⟩:=List.mem_map.1 hp;exact Gr.chars_ne l c hc)
 rw[Gr.chars_flat,l0a] at h;exact h
theorem flatMap_len {α β:Type}(f:α→List β)(n:Nat):∀(l:List α),(∀a∈l,(f a).length≤n)→(l.flatMap f).length≤n*l.length
 | [],_=>by simp
 | a::l,h=>by
   have h1:=h a Sm;have h2:=flatMap_len f n l (fun x hx=>h x (by simp [hx]));simp only[l0u,l00,l02,Nat.mul_succ];omega
theorem enc_len (k:Nat)(l:Ls):(enc k l).length≤4*l.length:=by
 have h:=flatMap_len (fun c:Ch=>(encK k c.1).getD []) 4 (chars l) (fun c _=>by
  cases he:encK k c.1 with
  | none=>simp
  | some b=>exact Chs.encK_len he)
 have h2:=chars_len l;unfold enc;omega
def wrap (k:Nat)(b:Ls):Ls:=[61,63]++nam k++(if k=2 then [63,66,63]++B64.chars64 b else [63,81,63]++dq b)++[63,61]
def W (k:Nat)(l:Ls):Ls:=wrap k (enc k l)
theorem rin_eq (a b c:Int):R_In a b c=some (decide (b≤a∧a≤c)):=by
 unfold R_In;by_cases h:b≤a
 · rw[if_pos h,bsome];simp [h]
 rw[if_neg h,bsome];simp [h]
theorem alnum_eq (c:UInt8):((R_In (c.toNat:Int) 48 57).bind fun b27=>(if b27=true then some true else(R_In (c.toNat:Int) 65 90).bind fun b29=>(if b29=true then some true else(R_In (c.toNat:Int) 97 122).bind fun b31=>some b31)))=some (alnum c):=by
 refine allB (p:=fun c=>((R_In (c.toNat:Int) 48 57).bind fun b27=>(if b27=true then some true else(R_In (c.toNat:Int) 65 90).bind fun b29=>(if b29=true then some true else(R_In (c.toNat:Int) 97 122).bind fun b31=>some b31)))=some (alnum c)) ?_ c;decide +kernel
theorem rdata_eq (b o:Ls)(hb:b.length≤1000000)(ho:o.length≤1000000):Y3a b FU o 0=some (o++dq b):=by
 rw[foldI0 (L:=fun m s i=>Y3a b m s i) b (fun o c=>o++dq1 c) id (fun i s=>s.length≤o.length+3*i) Om ?_ ?_ o Sm,foldl_app]
 · rfl
 · intro m s hs;rw[Y3a,if_neg Om];rfl
 intro m s i a ha hs;have hi:=(List.getElem?_eq_some_iff.1 ha).1;have hl:=dq1_len a;refine⟨by rw[l00];omega,?_⟩;rw[Y3a,if_pos Om,idx_nat,ha,bsome];unfold dq1;by_cases h1:a=32
 · rw[if_pos (by rw[h1];rfl),if_pos h1,cat_ok (by simp;omega),bsome,chk_succ Om,bsome]
 rw[if_neg (fun e=>h1 (UInt8.toNat_inj.1 (by simpa using(by omega:a.toNat=32)))),if_neg h1,alnum_eq,bsome];by_cases h2:alnum a=true
 · rw[if_pos h2,if_pos h2,bsome,cat_ok (by simp;omega),bsome,chk_succ Om,bsome]
 rw[if_neg h2,if_neg h2,cat_ok (by simp;omega),bsome,bsome,two_eq,bsome,cat_ok (by simp;omega),bsome,chk_succ Om,bsome,l0d];rfl
theorem rset_nam {k:Nat}(hk:k<4):R_SetOf (nam k)=some (k:Int):=by
 unfold R_SetOf;have hn:=nam_len k hk;rw[if_pos Om,setOf_nam k hk]
theorem renc_eq {k:Nat}{l:Ls}(hk:k<4)(hl:l.length≤12000)(h:okE k l):Y45 (k:Int) l=some (enc k l,-1):=by
 unfold Y45;rw[if_pos ⟨by omega,by omega,by omega,h.v⟩,l0t,enc_go h]
theorem rword_eq {k:Nat}{l:Ls}(hk:k<3)(hl:l.length≤3000)(h:okE k l):R_Word (nam k) l=some (W k l):=by
 have hn:=nam_len k Om;have he:=enc_len k l;have hd:=dq_len (enc k l);have hc:=B64.chars_len (enc k l);have hu:=nam_utf8 k Om;unfold R_Word W wrap Y3J;rw[rset_nam Om,bsome,renc_eq Om Om h,bsome];dsimp only;by_cases h2:k=2
 · rw[if_pos (hu.2 h2),if_pos h2,if_pos Om,bsome,cat_ok (by simp only[l02,l03];omega),bsome,cat_ok (by simp only[l00,l02,l03];omega),bsome,hu.2 h2];simp only[l0d];rfl
 rw[if_neg (fun e=>h2 (hu.1 e)),if_neg h2,cat_ok (by simp only[l02,l03];omega),bsome,cat_ok (by simp only[l00,l02,l03];omega),bsome,
  rdata_eq _ _ Om (by simp only[l00,l02,l03];omega),bsome,cat_ok (by simp only[l00,l02,l03];omega),bsome]
 simp only[l0d]
end Go.Ph.Wd
end
section
namespace Go.Ph.Wd
open Go.Ph.Pl Go.Ph.Pf
open Go.Ph.Gr (chars Ch byts segs)
open Go.Ph.Chs (vld setN setOf encK encGo decoded utf8)
open Go.Ph.Utf (rune dr)
theorem chars_mid {l:Ls}{A g B:List Ch}(h:chars l=A++g++B):chars (byts g)=g:=by
 obtain⟨h1,_⟩:=Gr.chars_split (A++g) B l h;exact(Gr.chars_split A g _ h1).2
theorem okE.mid {k:Nat}{l:Ls}(h:okE k l){A g B:List Ch}(hs:chars l=A++g++B):okE k (byts g):=by
 have hc:=chars_mid hs;have hm :∀c∈g,c∈chars l:=fun c hc=>by rw[hs];simp [hc]
 refine⟨?_,fun c hcg=>h.e c (hm c (by rwa [hc] at hcg))⟩;have hv:=h.v;unfold vld at hv ⊢;rw[hc];rw[List.all_eq_true] at hv ⊢;exact fun c hcg=>hv c (hm c hcg)
theorem byts_app (a b:List Ch):byts (a++b)=byts a++byts b:=by simp [byts]
theorem byts_len {l:Ls}{A g B:List Ch}(h:chars l=A++g++B):(byts g).length≤l.length:=by
 have:=Gr.chars_flat l;rw[h] at this;simp only[l0R,l2z] at this;rw[←this];simp only[l00,byts];omega
end Go.Ph.Wd
end
section
namespace Go.Ph.Wd
open Go.Ph.Pl Go.Ph.Pf
open Go.Ph.Gr (chars Ch byts segs)
open Go.Ph.Chs (vld setN setOf encK encGo decoded utf8)
open Go.Ph.Utf (rune dr)
def p2 (k:Nat)(now:List Ch):List (List Ch)→List (List Ch)
 | []=>[now]
 | u::us=>if (W k (byts (now++u))).length≤75 then p2 k (now++u) us else now::p2 k u us
def parts (k:Nat):List (List Ch)→List (List Ch)
 | []=>[]
 | u::us=>p2 k u us
theorem wrap_len (k:Nat)(hk:k<4)(b:Ls):(wrap k b).length≤20+4*(b.length+2):=by
 have hn:=nam_len k hk;have hd:=dq_len b;have hc:=B64.chars_len b;unfold wrap;simp only[l00,l02,l03];split
 · simp only[l00,l02,l03];omega
 simp only[l00,l02,l03];omega
theorem W_len (k:Nat)(hk:k<4)(l:Ls):(W k l).length≤28+16*l.length:=by
 have:=wrap_len k hk (enc k l);have:=enc_len k l;unfold W;omega
def ext (k:Nat)(now:List Ch):List (List Ch)→Nat × List Ch
 | []=>(0,now)
 | u::us=>if (W k (byts (now++u))).length≤75 then((ext k (now++u) us).1+1,(ext k (now++u) us).2) else(0,now)
theorem ext_le (k:Nat):∀(us:List (List Ch)) (now:List Ch),(ext k now us).1≤us.length
 | [],now=>l0e _
 | u::us,now=>by
   rw[ext];split
   · have:=ext_le k us (now++u);simp;omega
   simp
theorem p2_ext (k:Nat):∀(us:List (List Ch)) (now:List Ch),p2 k now us=(ext k now us).2::parts k (us.drop (ext k now us).1)
 | [],now=>rfl
 | u::us,now=>by
   rw[p2,ext];split
   · rw[p2_ext k us];rfl
   rfl
theorem rwords_L2 {k:Nat}(hk:k<3){l:Ls}(hl:l.length≤1000)(hok:okE k l)(us:List (List Ch))(hus:us.length≤1000):∀(d n m:Nat) (now:List Ch) (A:List Ch),us.length-n≤d→d<m→n≤us.length→chars l=A++now++(us.drop n).flatten→
 Y3M (nam k) (us.map byts) m (n:Int) (byts now)=some (((n+(ext k now (us.drop n)).1:Nat):Int),byts (ext k now (us.drop n)).2):=by
 intro d;induction d with
 | zero =>
   intro n m now A h1 h2 h3 hs;obtain⟨m,rfl⟩ :∃k,m=k+1:=⟨m-1,by omega⟩
   rw[Y3M,if_neg (by rw[l0a];omega),bsome,if_neg l06,l08 Om];rfl
 | succ d ih =>
   intro n m now A h1 h2 h3 hs;obtain⟨m,rfl⟩ :∃k,m=k+1:=⟨m-1,by omega⟩
   rw[Y3M];by_cases hn:n<us.length
   · have hd:=l09 hn;have hs2:chars l=A++(now++us[n])++(us.drop (n+1)).flatten:=by rw[hs,hd,l0x];simp only[l0d]
     have h4:=hok.mid hs2;have h5:=byts_len hs2;have h6:=byts_app now us[n];have h7:(byts (now++us[n])).length=(byts now).length+(byts us[n]).length:=by rw[h6,l00]
     have hi:(us.map byts)[n]? = some (byts us[n]):=by rw[List.getElem?_map,List.getElem?_eq_getElem hn];rfl
     rw[if_pos (by rw[l0a];omega),idx_nat,hi,bsome,cat_ok Om,bsome,←h6,rword_eq hk Om h4,bsome,bsome,hd,ext];by_cases hw:(W k (byts (now++us[n]))).length≤75
     · rw[if_pos (decide_eq_true Om),if_pos hw,bsome,cat_ok Om,bsome,←h6,chk_succ Om,bsome,ih (n+1) m (now++us[n]) A Om Om Om hs2];simp only[l1u,l2g 1]
     rw[if_neg (by rw[decide_eq_true_eq];omega),if_neg hw];rfl
   rw[if_neg (by rw[l0a];omega),bsome,if_neg l06,l08 Om];rfl
theorem W_ne (k:Nat)(l:Ls):W k l≠ []:=by unfold W wrap;simp
def more (ws:List Ls):Ls:=ws.flatMap fun w=>32::w
theorem jn_more :∀(w:Ls) (ws:List Ls),jn [32] (w::ws)=w++more ws
 | w,[]=>by simp [jn,more]
 | w,x::ws=>by rw[jn,jn_more x ws];simp [more]
theorem ext_flat (k:Nat):∀(us:List (List Ch)) (now:List Ch),(ext k now us).2++(us.drop (ext k now us).1).flatten=now++us.flatten
 | [],now=>by simp [ext]
 | u :: us,now=>by
   rw[ext];split
   · show(ext k (now++u) us).2++(us.drop (ext k (now++u) us).1).flatten=_
     rw[ext_flat k us];simp
   rfl
theorem rwords_L1 {k:Nat}(hk:k<3){l:Ls}(hl:l.length≤1000)(hok:okE k l)(us:List (List Ch))(hus:us.length≤1000):∀(d n m:Nat) (o:Ls) (A:List Ch),us.length-n≤d→d<m→n≤us.length→chars l=A++(us.drop n).flatten→o.length≤17000*n→
 Y2Y (nam k) (us.map byts) m o (n:Int)=some (if o=[] then jn [32] ((parts k (us.drop n)).map fun g=>W k (byts g)) else o++more ((parts k (us.drop n)).map fun g=>W k (byts g))):=by
 intro d;induction d with
 | zero =>
   intro n m o A h1 h2 h3 hs ho;obtain⟨m,rfl⟩ :∃k,m=k+1:=⟨m-1,by omega⟩
   rw[Y2Y,if_neg (by rw[l0a];omega),l08 Om];split
   · rename_i h;subst h;rfl
   simp [parts,more]
 | succ d ih =>
   intro n m o A h1 h2 h3 hs ho;obtain⟨m,rfl⟩ :∃k,m=k+1:=⟨m-1,by omega⟩
   rw[Y2Y];by_cases hn:n<us.length
   · have hd:=l09 hn;have hs2:chars l=A++us[n]++(us.drop (n+1)).flatten:=by rw[hs,hd,l0x];simp only[l0d]
     have hi:(us.map byts)[n]? = some (byts us[n]):=by rw[List.getElem?_map,List.getElem?_eq_getElem hn];rfl
     have hx:=ext_le k (us.drop (n+1)) us[n];rw[l01] at hx;have hxf:=ext_flat k (us.drop (n+1)) us[n];rw[l0l] at hxf;have hs3:chars l=A++(ext k us[n] (us.drop (n+1))).2++(us.drop (n+1+(ext k us[n] (us.drop (n+1))).1)).flatten:=by rw[hs2,l0d,l0d,hxf]
     have h4:=hok.mid hs3;have h5:=byts_len hs3;have h6:=W_len k Om (byts (ext k us[n] (us.drop (n+1))).2);rw[if_pos (by rw[l0a];omega),idx_nat,hi,bsome,chk_succ Om,bsome,rwords_L2 hk hl hok us hus (us.length-(n+1)) (n+1) FU us[n] A Om (by rw[FU_eq];omega) Om hs2,bsome];dsimp only;have hpp:parts k (us.drop n)=(ext k us[n] (us.drop (n+1))).2::parts k (us.drop (n+1+(ext k us[n] (us.drop (n+1))).1)):=by rw[hd,parts,p2_ext,l0l]
     by_cases h0:o=[]
     · subst h0;rw[if_pos rfl,if_pos rfl,bsome,rword_eq hk Om h4,bsome,cat_ok (by simp only[l03];omega),bsome,ih _ m _ (A++(ext k us[n] (us.drop (n+1))).2) Om Om Om hs3 (by simp only[l00,l03];omega),if_neg (by rw[l07];exact W_ne _ _),hpp,l0i,jn_more];rfl
     rw[if_neg h0,if_neg h0,cat_ok (by simp only[l02,l03];omega),bsome,bsome,rword_eq hk Om h4,bsome,cat_ok (by simp only[l00,l02,l03];omega),bsome,ih _ m _ (A++(ext k us[n] (us.drop (n+1))).2) Om Om Om hs3 (by simp only[l00,l02,l03];omega),if_neg (by simp [h0]),hpp,l0i];simp [more]
   rw[if_neg (by rw[l0a];omega),l08 Om];split
   · rename_i h;subst h;rfl
   simp [parts,more]
end Go.Ph.Wd
end
section
namespace Go.Ph.Wd
open Go.Ph.Pl Go.Ph.Pf
open Go.Ph.Gr (chars Ch byts segs)
open Go.Ph.Chs (vld setN setOf encK encGo decoded utf8)
open Go.Ph.Utf (rune dr)
theorem prefix_eq (s p:Ls)(hs:s.length≤9223372036854775807):Y0L s p=some (decide (p <+: s)):=by
 unfold Y0L Y0X;by_cases h:p.length≤s.length
 · rw[if_pos Om,cut_to rfl h,bsome,bsome,bsome];congr 1;rw[decide_eq_decide,List.prefix_iff_eq_take];exact⟨fun e=>e.symm,fun e=>e.symm⟩
 rw[if_neg Om,bsome,bsome,decide_eq_false (fun e=>h e.length_le)]
theorem index_short {l sub:Ls}(h:l.length<sub.length):Lib.index l sub = -1:=by
 have h1:=Lib.index_ge l sub;have h2:=Lib.index_room l sub;by_cases h3:0≤Lib.index l sub
 · have:=h2 h3;omega
 omega
def fnd (s sub:Ls)(i:Nat):Int:=if Lib.index (s.drop i) sub = -1 then -1 else(i:Int)+Lib.index (s.drop i) sub
theorem fnd_here {s sub:Ls}{i:Nat}(hi:i<s.length)(h:sub <+: s.drop i):fnd s sub i=(i:Int):=by
 unfold fnd;rw[l09 hi] at h ⊢;have:Lib.index (s[i]::s.drop (i+1)) sub=0:=by rw[Lib.index,if_pos (List.isPrefixOf_iff_prefix.2 h)]
 rw[this];simp
theorem fnd_next {s sub:Ls}{i:Nat}(hi:i<s.length)(h :¬sub <+: s.drop i):fnd s sub i=fnd s sub (i+1):=by
 unfold fnd;have hd:=l09 hi;rw[hd] at h ⊢;have hn :¬sub.isPrefixOf (s[i]::s.drop (i+1))=true:=fun e=>h (List.isPrefixOf_iff_prefix.1 e)
 have h1:=Lib.index_ge (s.drop (i+1)) sub;rw[Lib.index,if_neg hn];by_cases h2:Lib.index (s.drop (i+1)) sub = -1
 · rw[h2];simp
 have h3 :¬(Lib.index (s.drop (i+1)) sub == -1)=true:=by simpa using h2
 rw[if_neg h3,if_neg h2,if_neg Om];omega
theorem fnd_none {s sub:Ls}{i:Nat}(hi:i≤s.length)(h:s.length<i+sub.length):fnd s sub i = -1:=by
 unfold fnd;rw[if_pos (index_short (by rw[l01];omega))]
theorem find_L1 (s sub:Ls)(hs:s.length≤1000000000)(hb:sub.length≤1000)(h0:sub≠ []):∀(d i m:Nat),s.length-i≤d→d<m→i≤s.length→Y39 s sub m (i:Int)=some (if fnd s sub i = -1 then .inl () else .inr (fnd s sub i)):=by
 have h0':=List.length_pos_iff.2 h0;intro d;induction d with
 | zero =>
   intro i m h1 h2 h3;obtain⟨m,rfl⟩ :∃k,m=k+1:=⟨m-1,by omega⟩
   rw[Y39,chk_ok Om Om,bsome,if_neg Om,fnd_none Om Om,if_pos rfl]
 | succ d ih =>
   intro i m h1 h2 h3;obtain⟨m,rfl⟩ :∃k,m=k+1:=⟨m-1,by omega⟩
   rw[Y39,chk_ok Om Om,bsome];by_cases hr:i+sub.length≤s.length
   · rw[if_pos Om,bsome,show ((i:Int)+(sub.length:Int))=((i+sub.length:Nat):Int) by omega,cut_of rfl rfl Om hr,bsome];have hpe:(s.take (i+sub.length)).drop i=(s.drop i).take sub.length:=by rw[l0S];congr 1;omega
     by_cases hp:sub <+: s.drop i
     · rw[if_pos (by rw[hpe];exact (List.prefix_iff_eq_take.1 hp).symm),fnd_here Om hp,if_neg Om]
     rw[if_neg (fun e=>hp (by rw[hpe] at e;exact List.prefix_iff_eq_take.2 e.symm)),chk_succ Om,bsome,ih (i+1) m Om Om Om,fnd_next Om hp]
   rw[if_neg Om,fnd_none Om Om,if_pos rfl]
theorem find_eq (s sub:Ls)(i:Nat)(hs:s.length≤1000000000)(hb:sub.length≤1000)(h0:sub≠ [])(hi:i≤s.length):R_Find s sub (i:Int)=some (fnd s sub i):=by
 unfold R_Find;rw[find_L1 s sub hs hb h0 s.length i FU Om (by rw[FU_eq];omega) hi,bsome];by_cases h:fnd s sub i = -1
 · rw[if_pos h,h]
 rw[if_neg h]
theorem pre1 (s:Ls)(c:UInt8):[c] <+: s↔s.head? = some c:=by
 cases s with
 | nil=>simp
 | cons a s=>simp [List.cons_prefix_cons,eq_comm]
end Go.Ph.Wd
end
section
namespace Go.Ph.Wd
open Go.Ph.Pl Go.Ph.Pf
open Go.Ph.Gr (chars Ch byts segs)
open Go.Ph.Chs (vld setN setOf encK encGo decoded utf8 lower lowB)
open Go.Ph.Utf (rune dr)
def q1 : Ls→Option (Ls × Ls)
 | []=>none
 | c::t=>if c=63 then some ([],t) else(q1 t).map fun p=>(c::p.1,p.2)
theorem q1_some :∀{x A r:Ls},q1 x=some (A,r)→x=A++63::r∧63∉A
 | [],A,r,h=>by cases h
 | c::t,A,r,h=>by
   rw[q1] at h;split at h
   · rename_i hc;cases h;exact ⟨by rw[hc];rfl,by simp⟩
   rename_i hc;obtain⟨⟨A',r'⟩,h1,h2⟩:=Option.map_eq_some_iff.1 h;cases h2;obtain⟨h3,h4⟩:=q1_some h1;exact⟨by rw[h3];rfl,by simp [Ne.symm hc,h4]⟩
theorem q1_of :∀{A r:Ls},63∉A→q1 (A++63::r)=some (A,r)
 | [],r,_=>by simp [q1]
 | c::A,r,h=>by
   simp only[l0T,not_or] at h;rw[l05,q1,if_neg (fun e=>h.1 e.symm),q1_of h.2];rfl
theorem q1_none :∀{x:Ls},q1 x=none↔63∉x
 | []=>by simp [q1]
 | c::t=>by
   rw[q1];split
   · rename_i hc;simp [hc]
   rename_i hc;rw [Option.map_eq_none_iff,q1_none];simp [Ne.symm hc]
theorem q1_take (x:Ls)(n:Nat):q1 (x.take n)=match q1 x with|some (A,r)=>if A.length<n then some (A,r.take (n-A.length-1)) else none|none=>none:=by
 cases hq:q1 x with
 | none =>
   have:=q1_none.1 hq;exact q1_none.2 (fun hm=>this (l1p hm))
 | some p =>
   obtain⟨A,r⟩:=p;obtain⟨h1,h2⟩:=q1_some hq;dsimp only;split
   · rename_i hn;rw[h1,l1Z,l0r Om,show n-A.length=(n-A.length-1)+1 by omega,l0D];exact q1_of h2
   rename_i hn;refine q1_none.2 (fun hm=>h2 ?_);rw[h1,l1Z,show n-A.length=0 by omega,l1d,l0k] at hm;exact l1p hm
theorem index_q1 :∀x:Ls,Lib.index x [63]=match q1 x with|some p=>(p.1.length:Int)|none => -1
 | []=>rfl
 | c :: t=>by
   rw[Lib.index,q1];by_cases hc:c=63
   · rw[if_pos (by simp [List.isPrefixOf,hc]),if_pos hc];rfl
   rw[if_neg (by simp [List.isPrefixOf,Ne.symm hc]),if_neg hc,index_q1 t];cases q1 t with
   | none=>rfl
   | some p =>
     have :¬(((p.1.length:Int) == -1)=true):=by simp
     rw[l1g];dsimp only;rw[if_neg this,l02];exact(Int.natCast_succ _).symm
theorem splitK_q1 (k:Nat)(x:Ls):Lib.splitK [63] 0 (k+1) x=match q1 x with|some p=>p.1::Lib.splitK [63] 0 k p.2|none=>[x]:=by
 rw[Lib.splitK,index_q1];cases hq:q1 x with
 | none=>rfl
 | some p =>
   obtain⟨A,r⟩:=p;obtain⟨h1,h2⟩:=q1_some hq;have :¬(((A.length:Int) == -1)=true):=by simp
   simp only[if_neg this,l0t,l1A,l02,l03,l0s];rw[h1,l1i rfl,List.drop_append,l08 Om,show A.length+1-A.length=1 by omega];rfl
def sp3 (x:Ls):Option (Ls × Ls × Ls × Ls) :=
 (q1 x).bind fun a=>(q1 a.2).bind fun b=>(q1 b.2).bind fun c=>some (a.1,b.1,c.1,c.2)
theorem splitK_len :∀(k:Nat) (x:Ls),(Lib.splitK [63] 0 k x).length≤k+1
 | 0,x=>by simp [Lib.splitK]
 | k+1,x=>by
   rw[splitK_q1];cases q1 x with
   | none=>simp
   | some p=>have:=splitK_len k p.2;simp;omega
theorem sp3_some {x A K D r:Ls}(h:sp3 x=some (A,K,D,r)):x=A++63::(K++63::(D++63::r))∧63∉A∧63∉K∧63∉D:=by
 unfold sp3 at h;obtain⟨⟨A',r1⟩,h1,h⟩:=bnd h;obtain⟨⟨K',r2⟩,h2,h⟩:=bnd h;obtain⟨⟨D',r3⟩,h3,h⟩:=bnd h;cases h;obtain⟨e1,n1⟩:=q1_some h1;obtain⟨e2,n2⟩:=q1_some h2;obtain⟨e3,n3⟩:=q1_some h3;dsimp only at e2 e3;exact⟨by rw[e1,e2,e3],n1,n2,n3⟩
theorem split4_some {x A K D r:Ls}(h:sp3 x=some (A,K,D,r)):Lib.splitN x [63] 4=[A,K,D,r]:=by
 have hx:=(sp3_some h).1;have hl:3≤x.length:=by rw[hx];simp;omega
 unfold sp3 at h;obtain⟨a,h1,h⟩:=bnd h;obtain⟨b,h2,h⟩:=bnd h;obtain⟨c,h3,h⟩:=bnd h;cases h;unfold Lib.splitN;rw[show min 4 (x.length+1)-1=3 by omega,splitK_q1,h1];dsimp only;rw[splitK_q1,h2];dsimp only;rw[splitK_q1,h3];rfl
theorem split4_none {x:Ls}(h:sp3 x=none):(Lib.splitN x [63] 4).length<4:=by
 unfold Lib.splitN;by_cases hl:3≤x.length
 · rw[show min 4 (x.length+1)-1=3 by omega,splitK_q1];unfold sp3 at h;cases h1:q1 x with
   | none=>simp
   | some a =>
     rw[h1,bsome] at h;dsimp only;rw[splitK_q1];cases h2:q1 a.2 with
     | none=>simp
     | some b =>
       rw[h2,bsome] at h;dsimp only;rw[splitK_q1];cases h3:q1 b.2 with
       | none=>simp
       | some c=>rw[h3,bsome] at h;cases h
 have:=splitK_len (min 4 (x.length+1)-1) x;omega
theorem sp3_take (x:Ls)(n:Nat):sp3 (x.take n)=match sp3 x with|some (A,K,D,r)=>if A.length+K.length+D.length+2<n then some (A,K,D,r.take (n-(A.length+K.length+D.length+3))) else none|none=>none:=by
 cases h:sp3 x with
 | none =>
   unfold sp3 at h ⊢;rw[q1_take];cases h1:q1 x with
   | none=>rfl
   | some a =>
     rw[h1,bsome] at h;dsimp only;split
     · rw[bsome,q1_take];dsimp only;cases h2:q1 a.2 with
       | none=>rfl
       | some b =>
         rw[h2,bsome] at h;dsimp only;split
         · rw[bsome,q1_take];dsimp only;cases h3:q1 b.2 with
           | none=>rfl
           | some c=>rw[h3,bsome] at h;cases h
         rfl
     rfl
 | some p =>
   obtain⟨A,K,D,r⟩:=p;unfold sp3 at h ⊢;obtain⟨⟨A',r1⟩,h1,h⟩:=bnd h;obtain⟨⟨K',r2⟩,h2,h⟩:=bnd h;obtain⟨⟨D',r3⟩,h3,h⟩:=bnd h;cases h;dsimp only at h2 h3 ⊢;rw[q1_take,h1];dsimp only;by_cases n1:A'.length<n
   · rw[if_pos n1,bsome,q1_take,h2];dsimp only;by_cases n2:K'.length<n-A'.length-1
     · rw[if_pos n2,bsome,q1_take,h3];dsimp only;by_cases n3:D'.length<n-A'.length-1-K'.length-1
       · rw[if_pos n3,bsome,if_pos (by show A'.length+K'.length+D'.length+2<n;omega)];rw[show n-A'.length-1-K'.length-1-D'.length-1=n-(A'.length+K'.length+D'.length+3) by omega]
       rw[if_neg n3,if_neg (by show ¬A'.length+K'.length+D'.length+2<n;omega)];rfl
     rw[if_neg n2,if_neg (by show ¬A'.length+K'.length+D'.length+2<n;omega)];rfl
   rw[if_neg n1,if_neg (by show ¬A'.length+K'.length+D'.length+2<n;omega)];rfl
def hexv (c:UInt8):Option Nat:=if 48≤c.toNat∧c.toNat≤57 then some (c.toNat-48) else if 65≤c.toNat∧c.toNat≤70 then some (c.toNat-55) else if 97≤c.toNat∧c.toNat≤102 then some (c.toNat-87) else none
def hexi (c:UInt8):Int:=match hexv c with|some x=>(x:Int)|none => -1
theorem hexv_lt {c:UInt8}{x:Nat}(h:hexv c=some x):x<16:=by
 have :∀c:UInt8,∀x,hexv c=some x→x<16:=fun c=>by
  refine allB (p:=fun c =>∀x,hexv c=some x→x<16) ?_ c;intro n hn x hx;have h2 :∀n,n<256→(hexv (UInt8.ofNat n)).all (fun x=>decide (x<16))=true:=by decide +kernel
  have:=h2 n hn;rw[hx] at this;exact of_decide_eq_true this
 exact this c x h
theorem hex_eq (c:UInt8):Y3K c=some ((match hexv c with|some x=>UInt8.ofNat x|none=>0),(hexv c).isSome):=by
 refine allB (p:=fun c=>Y3K c=some ((match hexv c with|some x=>UInt8.ofNat x|none=>0),(hexv c).isSome)) ?_ c;decide +kernel
theorem rhex_eq (c:UInt8):R_Hex c=some (hexi c):=by
 refine allB (p:=fun c=>R_Hex c=some (hexi c)) ?_ c;decide +kernel
theorem hexi_nonneg (c:UInt8):0≤hexi c↔(hexv c).isSome=true:=by
 unfold hexi;cases hexv c with
 | none=>simp
 | some x=>simp
theorem two16 :∀x,x<16→∀y,y<16→(UInt8.ofNat ((UInt8.ofNat x).toNat*2 ^ 4)) ||| UInt8.ofNat y=UInt8.ofNat (16*x+y):=by decide +kernel
def hex2 (a b:UInt8):Option UInt8:=match hexv a,hexv b with|some x,some y=>some (UInt8.ofNat (16*x+y))|_,_=>none
theorem pair_short {s:Ls}(h:s.length<2):Y2X s=some (0,false):=by
 unfold Y2X;rw [if_pos Om]
theorem pair_eq (a b:UInt8)(t:Ls):∃c,Y2X (a::b::t)=some (c,(hex2 a b).isSome)∧∀z,hex2 a b=some z→c=z:=by
 unfold Y2X;rw[if_neg (by simp;omega),show (0:Int)=((0:Nat):Int) from rfl,idx_nat,show (1:Int)=((1:Nat):Int) from rfl,idx_nat];simp only[List.getElem?_cons_zero,List.getElem?_cons_succ,bsome,hex_eq];unfold hex2;cases ha:hexv a with
 | none=>exact⟨_,by rfl,fun z hz=>by cases hz⟩
 | some x =>
   cases hb:hexv b with
   | none=>exact⟨_,by rfl,fun z hz=>by cases hz⟩
   | some y=>exact⟨_,by rfl,fun z hz=>by cases hz;exact two16 x (hexv_lt ha) y (hexv_lt hb)⟩
def hexd2 : Ls→Option (UInt8 × Ls)
 | a::b::t=>(hex2 a b).map fun z=>(z,t)
 | _=>none
theorem hexd2_len {t:Ls}{p:UInt8 × Ls}(h:hexd2 t=some p):p.2=t.drop 2∧2≤t.length:=by
 rcases t with _|⟨a,_|⟨b,t⟩⟩
 · cases h
 · cases h
 obtain⟨z,_,rfl⟩:=Option.map_eq_some_iff.1 h;exact⟨G,by simp⟩
def uqF : Nat→Ls→Option Ls
 | 0,_=>none
 | n+1,[]=>some []
 | n+1,c::t=>if c=95 then(uqF n t).map (32 :: ·) else if c=61 then(hexd2 t).bind fun p=>(uqF n p.2).map (p.1 :: ·) else if 33≤c.toNat∧c.toNat≤126 then(uqF n t).map (c :: ·) else none
theorem uqF_more :∀(n m:Nat) (l:Ls),l.length<n→l.length<m→uqF n l=uqF m l
 | n+1,m+1,[],_,_=>rfl
 | n + 1,m+1,c::t,h1,h2=>by
   simp only[l02] at h1 h2;rw[uqF,uqF];have h0:=uqF_more n m t Om Om;rw[h0];cases hp:hexd2 t with
   | none=>rfl
   | some p =>
     obtain⟨h3,h4⟩:=hexd2_len hp;rw[bsome,bsome,uqF_more n m p.2 (by rw[h3,l01];omega) (by rw[h3,l01];omega)]
def uq (l:Ls):Option Ls:=uqF (l.length+1) l
theorem uq_nil : uq []=some []:=rfl
theorem uq_cons (c:UInt8)(t:Ls):uq (c::t)=if c=95 then(uq t).map (32 :: ·) else if c=61 then(hexd2 t).bind fun p=>(uq p.2).map (p.1 :: ·) else if 33≤c.toNat∧c.toNat≤126 then(uq t).map (c :: ·) else none:=by
 unfold uq;rw[l02,uqF];cases hp:hexd2 t with
 | none=>rfl
 | some p =>
   obtain⟨h3,h4⟩:=hexd2_len hp;rw[bsome,bsome,uqF_more (t.length+1) (p.2.length+1) p.2 (by rw[h3,l01];omega) Om]
theorem uq_L1 (D:Ls)(hD:D.length≤1000000):∀(d i m:Nat) (acc:Ls),D.length-i≤d→d<m→i≤D.length→acc.length≤i→
 Y0R D m acc (i:Int)=some (match uq (D.drop i) with|some r => .inl (acc++r)|none => .inr ([],false)):=by
 intro d;induction d using Nat.strongRecOn with
 | ind d ih =>
   intro i m acc h1 h2 h3 h4;obtain⟨m,rfl⟩ :∃k,m=k+1:=⟨m-1,by omega⟩
   rw[Y0R];by_cases hi:i<D.length
   · have hd:=l09 hi;rw[if_pos Om,idx_nat,List.getElem?_eq_getElem hi,bsome,hd,uq_cons];by_cases c1:D[i]=95
     · rw[if_pos c1,if_pos c1,app_ok (by simp;omega),bsome,chk_succ Om,bsome,ih (d-1) Om (i+1) m _ Om Om Om (by simp;omega)];cases uq (D.drop (i+1)) <;> simp
     rw[if_neg c1,if_neg c1,bsome];by_cases c2:D[i]=61
     · rw [if_pos c2,if_pos c2,chk_succ Om,bsome,cut_from rfl Om,bsome];by_cases hs:(D.drop (i+1)).length<2
       · rw[pair_short hs,bsome];dsimp only;rw[if_neg l06];have:hexd2 (D.drop (i+1))=none:=by
          cases hx:hexd2 (D.drop (i+1)) with
          | none=>rfl
          | some p=>have:=hexd2_len hx;omega
         rw[this];rfl
       rw[l01] at hs;have e1:=l09 (show i+1<D.length by omega);have e2:=l09 (show i+1+1<D.length by omega);rw[e1,e2];obtain⟨c,hc1,hc2⟩:=pair_eq D[i+1] D[i+1+1] (D.drop (i+1+1+1));rw[hc1,bsome];dsimp only[hexd2];cases hx:hex2 D[i+1] D[i+1+1] with
       | none=>rw[if_neg Sm];rfl
       | some z =>
         obtain rfl:=hc2 z hx;rw[if_pos Sm,app_ok (by simp;omega),bsome,show (i:Int)+2=((i+1+1:Nat):Int) by omega,chk_ok Om Om,bsome,chk_succ Om,bsome,ih (d-3) Om (i+1+1+1) m _ Om Om Om (by simp;omega)];rw[l1g,bsome];dsimp only;cases uq (D.drop (i+1+1+1)) <;> simp
     rw[if_neg c2,if_neg c2,bsome];by_cases c3:33≤D[i].toNat
     · rw[if_pos c3,bsome,bsome];by_cases c4:D[i].toNat≤126
       · rw[if_pos (decide_eq_true c4),if_pos ⟨c3,c4⟩,bsome,app_ok (by simp;omega),bsome,chk_succ Om,bsome,ih (d-1) Om (i+1) m _ Om Om Om (by simp;omega)];cases uq (D.drop (i+1)) <;> simp
       rw[if_neg (by rw[decide_eq_true_eq];exact c4),if_neg (fun e=>c4 e.2)]
     rw[if_neg c3,bsome,if_neg l06,if_neg (fun e=>c3 e.1)]
   rw[if_neg Om,l08 Om,uq_nil];simp
def bytesP (K D:Ls):Option Ls:=if lower K=[98] then(if B64.chars64 (B64.lenient D)=D then some (B64.lenient D) else none) else if lower K=[113] then uq D else none
theorem lower_one (K:Ls)(a b:UInt8)(h :∀c,lowB c=b↔c=a∨c=b):lower K=[b]↔K=[a]∨K=[b]:=by
 rcases K with _|⟨c,_|⟨d,K⟩⟩
 · simp [lower]
 · simp [lower,h c]
 simp [lower]
theorem lowB_b (c:UInt8):lowB c=98↔c=66∨c=98:=by
 refine allB (p:=fun c=>lowB c=98↔c=66∨c=98) ?_ c;decide +kernel
theorem lowB_q (c:UInt8):lowB c=113↔c=81∨c=113:=by
 refine allB (p:=fun c=>lowB c=113↔c=81∨c=113) ?_ c;decide +kernel
theorem kind_b (K:Ls):(if K=[66] then some (decide (K=[66])) else some (decide (K=[98])))=some (decide (lower K=[98])):=by
 have h:=lower_one K 66 98 lowB_b;by_cases h1:K=[66]
 · rw[if_pos h1,decide_eq_true h1,decide_eq_true (h.2 (.inl h1))]
 rw[if_neg h1];congr 1;rw [decide_eq_decide,h];simp [h1]
theorem kind_q (K:Ls):(if K=[81] then some (decide (K=[81])) else some (decide (K=[113])))=some (decide (lower K=[113])):=by
 have h:=lower_one K 81 113 lowB_q;by_cases h1:K=[81]
 · rw[if_pos h1,decide_eq_true h1,decide_eq_true (h.2 (.inl h1))]
 rw[if_neg h1];congr 1;rw [decide_eq_decide,h];simp [h1]
theorem lenient_len (D:Ls):(B64.lenient D).length≤D.length:=by
 unfold B64.lenient;refine l0A (B64.lrun_len _) ?_;unfold B64.upto61;exact(List.takeWhile_sublist _).length_le
theorem uqF_len :∀(n:Nat) (l r:Ls),uqF n l=some r→r.length≤l.length:=by
 intro n;induction n with
 | zero=>intro l r h;cases h
 | succ n ih =>
   intro l r h;cases l with
   | nil=>rw[uqF] at h;cases h;simp
   | cons c t =>
     rw[uqF] at h;split at h
     · obtain⟨y,hy,rfl⟩:=Option.map_eq_some_iff.1 h;have:=ih t y hy;simp;omega
     split at h
     · obtain⟨p,hp,h⟩:=bnd h;obtain⟨y,hy,rfl⟩:=Option.map_eq_some_iff.1 h;have:=ih p.2 y hy;obtain⟨h3,h4⟩:=hexd2_len hp;rw[h3,l01] at this;simp;omega
     split at h
     · obtain⟨y,hy,rfl⟩:=Option.map_eq_some_iff.1 h;have:=ih t y hy;simp;omega
     cases h
theorem Y5i (K D:Ls)(hD:D.length≤10000):∃b,Y2M K D=some (b,(bytesP K D).isSome)∧b.length≤D.length∧∀x,bytesP K D=some x→b=x:=by
 have hl:=lenient_len D;unfold Y2M bytesP;rw[kind_b,bsome];by_cases h1:lower K=[98]
 · rw[if_pos (decide_eq_true h1),if_pos h1,toB_ok Om,bsome];unfold Y36;rw[if_pos Om,bsome];dsimp only;rw[flat_eq _ Om,bsome];refine⟨B64.lenient D,?_,hl,fun x hx=>?_⟩
   · by_cases h2:B64.chars64 (B64.lenient D)=D
     · rw[decide_eq_true h2,if_pos h2];rfl
     rw[decide_eq_false h2,if_neg h2];rfl
   split at hx
   · cases hx;rfl
   cases hx
 rw[if_neg (by rw[decide_eq_true_eq];exact h1),if_neg h1,kind_q,bsome];by_cases h2:lower K=[113]
 · rw[if_pos (decide_eq_true h2),if_pos h2];have:=uq_L1 D Om D.length 0 FU [] Om (by rw[FU_eq];omega) Om Sm;rw[show ((0:Nat):Int)=0 from rfl,l0m] at this;rw[this,bsome];cases hq:uq D with
   | none=>exact⟨[],rfl,by simp,fun x hx=>by cases hx⟩
   | some r=>exact⟨r,rfl,uqF_len _ _ _ hq,fun x hx=>by cases hx;rfl⟩
 rw[if_neg (by rw[decide_eq_true_eq];exact h2),if_neg h2];exact⟨[],G,by simp,fun x hx=>by cases hx⟩
def body (A K D:Ls):Option Ls:=(setOf A).bind fun k=>(bytesP K D).map (decoded k)
def pw (t:Ls):Option (Ls × Nat) :=
 if [61,63] <+: t then(sp3 (t.drop 2)).bind fun p=>if [61] <+: p.2.2.2∧p.1.length+p.2.1.length+p.2.2.1.length+6≤75 then(body p.1 p.2.1 p.2.2.1).map fun x=>(x,p.1.length+p.2.1.length+p.2.2.1.length+6) else none else none
theorem pre_take {c:UInt8}{r:Ls}{n:Nat}(hn:1≤n):[c] <+: r.take n↔ [c] <+: r:=by
 rw[pre1,pre1];cases r with
 | nil=>simp
 | cons a r=>obtain⟨n,rfl⟩ :∃k,n=k+1:=⟨n-1,by omega⟩;simp
theorem decode_prog (A b:Ls)(hA:A.length≤10000)(hb:b.length≤10000):∃x n m,Y2t A b=some (x,(n,m))∧(decide (n=(0:Int))=(setOf A).isSome)∧∀k,setOf A=some k→x=decoded k b:=by
 unfold Y2t;rw[if_pos ⟨by omega,by omega⟩];cases h:setOf A with
 | none=>exact⟨[],18,-2,rfl,rfl,fun k hk=>by cases hk⟩
 | some k=>exact⟨decoded k b,0,0,rfl,rfl,fun k' hk=>by cases hk;rfl⟩
theorem read_eq (t:Ls)(ht:t.length≤10000):∃x n,Y2n t=some (x,n,(pw t).isSome)∧∀p,pw t=some p→x=p.1∧n=(p.2:Int):=by
 unfold Y2n pw;rw[prefix_eq t [61,63] Om,bsome];by_cases hp:[61,63] <+: t
 · have hl2:2≤t.length:=hp.length_le;rw[if_pos (decide_eq_true hp),if_pos hp,cut_of (i:=2) (a:=2) (b:=min t.length 75) rfl Om Om Om,bsome];have hw:(t.take (min t.length 75)).drop 2=(t.drop 2).take 73:=by
    rw[l0S];by_cases h75:t.length≤75
    · rw[l0L h75,l0r (by rw[l01];omega),l0r (by rw[l01];omega)]
    rw[Nat.min_eq_right Om]
   rw[hw];unfold Y1U;have hxl:((t.drop 2).take 73).length≤73:=List.length_take_le _ _;rw[if_pos ⟨by omega,by decide,by decide,by decide⟩,bsome,show (4:Int).toNat=4 from rfl];have hst:=sp3_take (t.drop 2) 73;cases hs:sp3 (t.drop 2) with
   | none =>
     rw[hs] at hst;have h4:=split4_none hst;rw[if_pos Om,bsome,if_pos rfl];exact⟨_,_,G,fun p hp=>by cases hp⟩
   | some p =>
     obtain⟨A,K,D,r⟩:=p;rw[hs] at hst;dsimp only at hst;have hxe:=(sp3_some hs).1;have hlen:=congrArg List.length hxe;simp only[l00,l02,l01] at hlen;rw[bsome];dsimp only;by_cases hn:A.length+K.length+D.length+2<73
     · rw [if_pos hn] at hst;have h4:=split4_some hst;rw[h4];simp only[l02,l03];rw[if_neg Om];have i0:idx [A,K,D,r.take (73-(A.length+K.length+D.length+3))] 0=some A:=rfl;have i1:idx [A,K,D,r.take (73-(A.length+K.length+D.length+3))] 1=some K:=rfl;have i2:idx [A,K,D,r.take (73-(A.length+K.length+D.length+3))] 2=some D:=rfl;have i3:idx [A,K,D,r.take (73-(A.length+K.length+D.length+3))] 3=some (r.take (73-(A.length+K.length+D.length+3))):=rfl;rw[i0,i1,i2,i3,bsome,prefix_eq _ _ (by rw[l04];omega),bsome,bsome];have hpt:([61] <+: r.take (73-(A.length+K.length+D.length+3)))↔([61] <+: r∧A.length+K.length+D.length+6≤75):=by
        by_cases h1:1≤73-(A.length+K.length+D.length+3)
        · rw[pre_take h1];exact⟨fun h=>⟨h,by omega⟩,fun h=>h.1⟩
        rw[show 73-(A.length+K.length+D.length+3)=0 by omega,l1d];exact⟨fun h=>by have:=h.length_le;simp at this,fun h=>by omega⟩
       by_cases hq:[61] <+: r∧A.length+K.length+D.length+6≤75
       · rw[decide_eq_true (hpt.2 hq),if_neg Dc,if_pos hq,bsome,bsome];obtain⟨b,hb1,hbl,hb2⟩:=Y5i K D Om;rw[hb1,bsome];dsimp only;rw[bsome];obtain⟨x,n,m,hx1,hx2,hx3⟩:=decode_prog A b Om Om;rw[hx1,bsome];dsimp only;rw[bsome,chk_ok Om Om,bsome,bsome,chk_ok Om Om,bsome,bsome,chk_ok Om Om,bsome,chk_ok Om Om,bsome];unfold Y1k body;cases hbp:bytesP K D with
         | none =>
           simp only[l1w,l0h,if_false,bsome];cases hA:setOf A with
           | none=>exact⟨_,_,rfl,fun p hp=>by cases hp⟩
           | some k=>exact⟨_,_,rfl,fun p hp=>by cases hp⟩
         | some y =>
           obtain rfl:=hb2 y hbp;simp only[l1V,if_true,bsome];cases hA:setOf A with
           | none =>
             rw[hA] at hx2;simp only[l1w] at hx2;rw[hx2];exact⟨_,_,G,fun p hp=>by cases hp⟩
           | some k =>
             rw[hA] at hx2;simp only[l1V] at hx2;rw[hx2,hx3 k hA];refine⟨_,_,G,fun p hp=>?_⟩;cases hp;exact⟨G,by dsimp only;omega⟩
       rw[decide_eq_false (fun e=>hq (hpt.1 e)),if_pos Dc,if_neg hq];exact⟨_,_,G,fun p hp=>by cases hp⟩
     rw[if_neg hn] at hst;have h4:=split4_none hst;rw[if_pos Om,bsome,if_pos rfl,if_neg (fun e=>by have:=e.2;omega)];exact⟨_,_,G,fun p hp=>by cases hp⟩
 rw[if_neg (by rw[decide_eq_true_eq];exact hp),if_neg hp];exact⟨_,_,G,fun p hp=>by cases hp⟩
theorem ruq_L1 (D:Ls)(hD:D.length≤1000000):∀(d i m:Nat) (acc:Ls),D.length-i≤d→d<m→i≤D.length→acc.length≤i→
 Y1K D m acc (i:Int)=some (match uq (D.drop i) with|some r => .inl (acc++r)|none => .inr ([],0)):=by
 intro d;induction d using Nat.strongRecOn with
 | ind d ih =>
   intro i m acc h1 h2 h3 h4;obtain⟨m,rfl⟩ :∃k,m=k+1:=⟨m-1,by omega⟩
   rw[Y1K];by_cases hi:i<D.length
   · have hd := l09 hi;rw[if_pos Om,idx_nat,List.getElem?_eq_getElem hi,bsome,hd,uq_cons];by_cases c1:D[i]=95
     · rw[if_pos c1,if_pos c1,app_ok (by simp;omega),bsome,chk_succ Om,bsome,ih (d-1) Om (i+1) m _ Om Om Om (by simp;omega)];cases uq (D.drop (i+1)) <;> simp
     rw[if_neg c1,if_neg c1];have tail :∀h :¬D[i]=61,((R_In (D[i].toNat:Int) 33 126).bind fun b102=>some (!b102)).bind (fun b100=>(if b100=true then some (Sum.inr (([]:Ls),(0:Int))) else(app 1 acc ([D[i]]:Ls)).bind fun l106=>(chk ((i:Int)+1)).bind fun n107=>Y1K D m l106 n107))=some (match (if 33≤D[i].toNat∧D[i].toNat≤126 then(uq (D.drop (i+1))).map (D[i] :: ·) else none) with|some r => .inl (acc++r)|none => .inr ([],0)):=fun h=>by
      rw[rin_eq,bsome,bsome];by_cases c3:33≤D[i].toNat∧D[i].toNat≤126
      · rw[decide_eq_true Om,if_neg Dc,if_pos c3,app_ok (by simp;omega),bsome,chk_succ Om,bsome,ih (d-1) Om (i+1) m _ Om Om Om (by simp;omega)];cases uq (D.drop (i+1)) <;> simp
      rw[decide_eq_false Om,if_pos Dc,if_neg c3]
     by_cases c2:D[i]=61
     · rw[if_pos c2,if_pos c2,if_pos c2,show (i:Int)+2=((i+1+1:Nat):Int) by omega,chk_ok Om Om,bsome];by_cases hs:i+1+1<D.length
       · have e1:=l09 (show i+1<D.length by omega);have e2:=l09 hs;have a1:idx D ((i:Int)+1)=some D[i+1]:=by rw[show (i:Int)+1=((i+1:Nat):Int) by omega,idx_nat,List.getElem?_eq_getElem Om]
         have a2:idx D (((i+1+1:Nat):Int))=some D[i+1+1]:=by rw[idx_nat,List.getElem?_eq_getElem Om]
         rw[if_pos Om,chk_ok Om Om,bsome,a1,bsome,rhex_eq,bsome,bsome,a2,bsome,rhex_eq,bsome,e1,e2];dsimp only[hexd2];unfold hex2;have n1:=hexi_nonneg D[i+1];have n2:=hexi_nonneg D[i+1+1];cases h1x:hexv D[i+1] with
         | none =>
           rw[h1x] at n1;rw[if_neg (fun e=>by have:=n1.1 e;cases this),bsome,if_neg l06,bsome,if_pos rfl];rfl
         | some x =>
           rw[h1x] at n1;rw[if_pos (n1.2 rfl),bsome];cases h2x:hexv D[i+1+1] with
           | none =>
             rw[h2x] at n2;rw[decide_eq_false (fun e=>by have:=n2.1 e;cases this),if_neg l06,bsome,if_pos rfl];rfl
           | some y =>
             rw[h2x] at n2;have q1x:hexi D[i+1]=(x:Int):=by unfold hexi;rw [h1x]
             have q2x:hexi D[i+1+1]=(y:Int):=by unfold hexi;rw [h2x]
             have l1x:=hexv_lt h1x;have l2x:=hexv_lt h2x;have hub:ub8 (16*(x:Int)+(y:Int))=UInt8.ofNat (16*x+y):=by unfold ub8;congr 1;omega
             rw[decide_eq_true (n2.2 rfl),if_pos rfl,bsome,a1,bsome,rhex_eq,bsome,q1x,chk_ok Om Om,bsome,bsome,a2,bsome,rhex_eq,bsome,q2x,chk_ok Om Om,bsome,hub,app_ok (by simp;omega),bsome,bsome,show ((i+1+1:Nat):Int)+1=((i+1+1+1:Nat):Int) by omega,chk_ok Om Om,bsome,ih (d-3) Om (i+1+1+1) m _ Om Om Om (by simp;omega)];simp only[l1g,bsome];cases uq (D.drop (i+1+1+1)) <;> simp
       have:hexd2 (D.drop (i+1))=none:=by
        cases hx:hexd2 (D.drop (i+1)) with
        | none=>rfl
        | some p=>have:=hexd2_len hx;rw [l01] at this;omega
       rw[if_neg Om,bsome,if_neg l06,this,bsome,if_pos rfl];rfl
     rw[if_neg c2,bsome,if_neg l06,if_neg c2,if_neg c2];exact tail c2
   rw[if_neg Om,l08 Om,uq_nil];simp
end Go.Ph.Wd
end
