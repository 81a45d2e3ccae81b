/-
  Fnd, Cod, Rdc, Ren, B64Plain, Ref, Dec, Grp, Lp, Wpf, Wpg, Fpf, Fct1: own texts of this repository (wip/tpl, wip/plans), merged and shaken by wip/tools/pack.py.
-/
import Derived.KernelRfl
import Derived.Test.YtkmjdamkifbddaaGreatDoorProg
import Derived.Test.YtkmjdamkifbddaaGreatDoorE7b
set_option maxRecDepth 100000
set_option linter.unusedVariables false
set_option linter.unusedSimpArgs false
section
namespace Go.Proofs.YtkmjdamkifbddaaGreatDoor
open Go Go.RowKit Go.Ph
open Go.Ph.Gr Go.Ph.Utf Go.Ph.Chs
theorem units_spec (v:Value)(l:Ls)(hs:l.length≤12000):Ct Tryz.prog 197 [v] (fun M=>Bs M v l) (fun r M=>Sl M encR r (decW l)):=by
 refine Ct.of Tryz.func197 (enters Tryz.func197 Kr G) G G G ?_;intro w0 M0 H hp;refine SQ (RG (q1z [_] H G (One.cells (by first|exact q1u _ _ _|exact Sl.one (by assumption)|exact q1P H Km)) (q00 G) G ?_));intro b1 w H;obtain⟨M,hle,hM,H⟩:=H.freezeBlk Kv;replace hp:=hp.mono hle;have hcell:CellM M ⟨b1,0,none⟩ v:=⟨rfl,_,_,_,hM,rfl⟩
 refine AS G G (NL (TN (SQ (RG (AS G G (NL (TN (SQ (RG (ST (q1T G) G (AS G G (NL (TN (SQ (SQ (RG (AS G G (NL (TN (BL ?_))))))))))))))))))));replace H:=H.newRow 21 encR;refine q1O (fun(i:Nat) (ov:Value) (o:List Int)=>[(1,ptr b1 0),(3,ov),(4, .func (.func 216) #[] #[ptr b1 0]),(5,encN i)]) (fun(i:Nat) (ov:Value) (o:List Int) w=>i≤l.length∧o.length≤i∧decW l=o++decW (l.drop i)∧∃M,St w0 M0 M [RowI 21 encR ov o] w∧Bs M v l∧CellM M ⟨b1,0,none⟩ v) (fun(i:Nat) (ov:Value) (o:List Int)=>l.length-i) (0) (_) (_) ⟨rfl,rfl,rfl,rfl,trivial⟩ (⟨by omega,by simp,rfl,M,H,hp,hcell⟩) ?_;intro i ov o w;rintro⟨hi,hol,hdec,M,H,hp,hcell⟩;refine SQ (SQ (RG (MV G G ?_)));first|refine q02 (q08 H rfl (by assumption) Ta88) (q00 rfl) rfl rfl ?_|refine q02 (XL H Ta88) (q00 rfl) rfl rfl ?_
 first|refine q02 (q0D Tu88 (by assumption) rfl) (q00 rfl) rfl rfl ?_|refine q02 (q0M Tu88 H Km rfl) (q00 rfl) rfl rfl ?_|refine q02 (q0G Tu88 rfl) (q00 rfl) rfl rfl ?_
 refine q0a (q0n G G) (q00 G) G G (fun h4_3=>?_) (fun h4_3=>?_)
 · obtain ⟨x,hx⟩ :∃c,l[i]? = some c:=⟨_,List.getElem?_eq_getElem Om⟩
   refine NL (TN (CT G (SK (TN (SQ (BL (SQ (SQ (RG (MV G G (ST (q0f G G Om) G ?_)))))))))));first|refine q02 (q08 H rfl (by assumption) Ta88) (q00 rfl) rfl rfl ?_|refine q02 (XL H Ta88) (q00 rfl) rfl rfl ?_
   first|refine q02 (q0D Tu88 (by assumption) rfl) (q00 rfl) rfl rfl ?_|refine q02 (q0M Tu88 H Km rfl) (q00 rfl) rfl rfl ?_|refine q02 (q0G Tu88 rfl) (q00 rfl) rfl rfl ?_
   refine q0a (q0e G G) (q00 G) G G (fun h6_4=>?_) (fun h6_4=>?_)
   · have hlast:l.drop i=[x]:=by
      obtain⟨e1,e2⟩:=List.getElem?_eq_some_iff.1 hx;rw[l09 e1,e2,l08 Om]
     refine NL (TN (CT G (SQ (RG (MV G G (q0F (enc:=encR) ty212 [_] H G Kf (fun _=>G) G G (q00 G) G ?_))))));intro v21 M w H hle hl21;replace hp:=hp.mono hle;replace hcell:=hcell.mono hle;refine q0J ty212 (fun _=>G) H G (fun _=>by repeat first|exact .head|apply Upd.tail) G (by assumption) (by first|omega|(simp only[l00,l02,l03,l05,l01];omega)) (by first|(simp only[maxLen];omega)|(simp only[maxLen,l00,l02,l03,l05,l01];omega)) (q00 G) G ?_;intro v22 w H;refine AS G G (NL (TN (RT ?_)));obtain⟨M,hle,hf,H⟩:=H.freezeRow (v:=v22) (enc:=encR) (t:=21) Kv;refine q07 G G H.ext (?_);rw[hdec,hlast];simpa [decW] using hf
   obtain⟨y,hy⟩ :∃c,l[i+1]? = some c:=⟨_,List.getElem?_eq_getElem Om⟩
   have hd:l.drop i=x::y::l.drop (i+2):=by
    obtain⟨e1,e2⟩:=List.getElem?_eq_some_iff.1 hx;obtain⟨e3,e4⟩:=List.getElem?_eq_some_iff.1 hy;rw[l09 e1,e2,l09 e3,e4]
   have hul:=unit_lt x y;refine NL (TN (CF G (SK (TN (SQ (RG (MV G G (MV G G (q1w (cap:=[ptr b1 0]) H (unit_spec v l b1 i x y hs hx hy) G G (⟨by assumption,by assumption⟩) (q00 G) G ?_)))))))));intro v25 M w H hle hr25;replace hp:=hp.mono hle;replace hcell:=hcell.mono hle;obtain rfl:=hr25;refine AS G G (NL (TN (SQ (SQ (RG (MV G G ?_))))));refine q0a (q1a G G) (q00 G) G G (fun h9_1=>?_) (fun h9_1=>?_)
   · refine MV G G (SG (q01 G) G G G ?_);refine q0a (q0n G G) (q04 G G G) G G (fun h9_4=>?_) (fun h9_4=>?_)
     · refine PT G G G (MV G G (SG (q01 G) G G G (SG (q0f G G Om) G G G ?_)));first|refine q02 (q08 H rfl (by assumption) Ta88) (q04 rfl rfl rfl) rfl rfl ?_|refine q02 (XL H Ta88) (q04 rfl rfl rfl) rfl rfl ?_
       first|refine q02 (q0D Tu88 (by assumption) rfl) (q04 rfl rfl rfl) rfl rfl ?_|refine q02 (q0M Tu88 H Km rfl) (q04 rfl rfl rfl) rfl rfl ?_|refine q02 (q0G Tu88 rfl) (q04 rfl rfl rfl) rfl rfl ?_
       refine q0a (q0n G G) (q04 G G G) G G (fun h9_11=>?_) (fun h9_11=>?_)
       · obtain⟨x2,hx2⟩ :∃c,l[i+2]? = some c:=⟨_,List.getElem?_eq_getElem Om⟩
         obtain⟨y2,hy2⟩ :∃c,l[i+3]? = some c:=⟨_,List.getElem?_eq_getElem Om⟩
         have hd2:l.drop (i+2)=x2::y2::l.drop (i+2+2):=by
          obtain⟨e1,e2⟩:=List.getElem?_eq_some_iff.1 hx2;obtain⟨e3,e4⟩:=List.getElem?_eq_some_iff.1 hy2;rw[l09 e1,e2,l09 e3,e4]
         have hul2:=unit_lt x2 y2;refine PT G G G (NL (TN (CT G (SQ (RG (MV G G (MV G G (q09 (v':=encN (i+2)) (q0f G G Om) G (q00 G) G G ?_))))))));refine q1w (cap:=[ptr b1 0]) H (unit_spec v l b1 (i+2) x2 y2 hs hx2 hy2) G G (⟨by assumption,by assumption⟩) (q00 G) G ?_;intro v42 M w H hle hr42;replace hp:=hp.mono hle;replace hcell:=hcell.mono hle;obtain rfl:=hr42;refine AS G G (NL (TN (SQ (RG (MV G G ?_)))));refine q0a (q1a G G) (q00 G) G G (fun h11_1=>?_) (fun h11_1=>?_)
         · refine MV G G (SG (q01 G) G G G ?_);refine q0a (q0n G G) (q04 G G G) G G (fun h11_4=>?_) (fun h11_4=>?_)
           · refine PT G G G (NL (TN (CT G (SQ (RG (MV G G (q09 (v':=encR (((unit x y-55296).toNat:Nat):Int)) (Ex.subW G G (i32_in Om)) (congrArg encR Om) (q00 G) G G ?_)))))));refine q09 (v':=encR (1024*(unit x y-55296))) (q1N (m:=(unit x y-55296).toNat) (s:=10) G G Dc) (congrArg encR (by rw[i32_in Om];omega)) (q00 G) G G ?_;refine ST (Ex.addW G G (i32_in Om)) G ?_;refine MV G G (ST (Ex.addW G G (i32_in Om)) G ?_);refine ST (Ex.subW G G (i32_in Om)) G ?_;refine AS G G (NL (TN (RG (MV G G (q09 (v':=encN (i+2)) (q0f G G Om) G (q00 G) G G ?_)))));refine AS G G (NL (TN (SQ (SQ (RG (MV G G (q1F (q1a G G) Om (q00 G) G G ?_)))))));refine MV G G (SG (q01 G) G G G (q0V (q0n G G) Om (q04 G G G) G G ?_));refine PT G G G (NL (TN (CF G (SK (TN (RG (MV G G (MV G G (q0F (enc:=encR) ty212 [_] H G Kf (fun _=>G) G G (q00 G) G ?_)))))))));intro v66 M w H hle hl66;replace hp:=hp.mono hle;replace hcell:=hcell.mono hle;refine q0J ty212 (fun _=>G) H G (fun _=>by repeat first|exact .head|apply Upd.tail) G (by assumption) (by first|omega|(simp only[l00,l02,l03,l05,l01];omega)) (by first|(simp only[maxLen];omega)|(simp only[maxLen,l00,l02,l03,l05,l01];omega)) (q00 G) G ?_;intro v67 w H;refine AS G G (NL (IB (TN (RG (MV G G (q09 (v':=encN (i+2+2)) (q0f G G Om) G (q00 G) G G ?_))))));refine AS G G (NL ?_);refine q0W (i+2+2) (v67) (o++[65536+1024*(unit x y-55296)+unit x2 y2-56320]) ⟨G,G,G,G,trivial⟩ ?_ ?_
             · exact⟨by omega,by simp;omega,by rw[hdec,hd,hd2,decW_pair ⟨h9_1,h9_4⟩ ⟨h11_1,h11_4⟩];simp,M,H,hp,hcell⟩
             omega
           have hone:decW (x::y::l.drop (i+2))=unsur (unit x y)::decW (l.drop (i+2)):=decW_one (by
            rintro⟨_,c',d',r',hr,h3,h4⟩;rw[hd2] at hr;cases hr;omega)
           refine PT G G G (NL (TN (CF G (SK (TN (SQ (SQ (RG (MV G G ?_)))))))));refine q0a (q1a G G) (q00 G) G G (fun h14_1=>?_) (fun h14_1=>?_)
           · refine MV G G (SG (q01 G) G G G ?_);refine q0a (q0n G G) (q04 G G G) G G (fun h14_4=>?_) (fun h14_4=>?_)
             · refine PT G G G (NL (TN (CT G (RG (AS G G (NL (TN (RG (MV G G (MV G G (q0F (enc:=encR) ty212 [_] H G Kf (fun _=>G) G G (q00 G) G ?_)))))))))));intro v66 M w H hle hl66;replace hp:=hp.mono hle;replace hcell:=hcell.mono hle;refine q0J ty212 (fun _=>G) H G (fun _=>by repeat first|exact .head|apply Upd.tail) G (by assumption) (by first|omega|(simp only[l00,l02,l03,l05,l01];omega)) (by first|(simp only[maxLen];omega)|(simp only[maxLen,l00,l02,l03,l05,l01];omega)) (q00 G) G ?_;intro v67 w H;refine AS G G (NL (IB (TN (RG (MV G G (q09 (v':=encN (i+2)) (q0f G G Om) G (q00 G) G G ?_))))));refine AS G G (NL ?_);refine q0W (i+2) (v67) (o++[65533]) ⟨G,G,G,G,trivial⟩ ?_ ?_
               · exact⟨by omega,by simp;omega,by rw[hdec,hd,hone,unsur,if_pos ⟨h14_1,h14_4⟩];simp,M,H,hp,hcell⟩
               omega
             refine PT G G G (NL (TN (CF G (SK (TN (RG (MV G G (MV G G (q0F (enc:=encR) ty212 [_] H G Kf (fun _=>G) G G (q00 G) G ?_)))))))));intro v66 M w H hle hl66;replace hp:=hp.mono hle;replace hcell:=hcell.mono hle;refine q0J ty212 (fun _=>G) H G (fun _=>by repeat first|exact .head|apply Upd.tail) G (by assumption) (by first|omega|(simp only[l00,l02,l03,l05,l01];omega)) (by first|(simp only[maxLen];omega)|(simp only[maxLen,l00,l02,l03,l05,l01];omega)) (q00 G) G ?_;intro v67 w H;refine AS G G (NL (IB (TN (RG (MV G G (q09 (v':=encN (i+2)) (q0f G G Om) G (q00 G) G G ?_))))));refine AS G G (NL ?_);refine q0W (i+2) (v67) (o++[unit x y]) ⟨G,G,G,G,trivial⟩ ?_ ?_
             · exact⟨by omega,by simp;omega,by rw[hdec,hd,hone,unsur,if_neg Om];simp,M,H,hp,hcell⟩
             omega
           refine MV G G (GF G G G (GF G G G (PF G G G (NL (TN (CF G (SK (TN (RG (MV G G (MV G G (q0F (enc:=encR) ty212 [_] H G Kf (fun _=>G) G G (q00 G) G ?_))))))))))));intro v66 M w H hle hl66;replace hp:=hp.mono hle;replace hcell:=hcell.mono hle;refine q0J ty212 (fun _=>G) H G (fun _=>by repeat first|exact .head|apply Upd.tail) G (by assumption) (by first|omega|(simp only[l00,l02,l03,l05,l01];omega)) (by first|(simp only[maxLen];omega)|(simp only[maxLen,l00,l02,l03,l05,l01];omega)) (q00 G) G ?_;intro v67 w H;refine AS G G (NL (IB (TN (RG (MV G G (q09 (v':=encN (i+2)) (q0f G G Om) G (q00 G) G G ?_))))));refine AS G G (NL ?_);refine q0W (i+2) (v67) (o++[unit x y]) ⟨G,G,G,G,trivial⟩ ?_ ?_
           · exact⟨by omega,by simp;omega,by rw[hdec,hd,hone,unsur,if_neg Om];simp,M,H,hp,hcell⟩
           omega
         have hone:decW (x::y::l.drop (i+2))=unsur (unit x y)::decW (l.drop (i+2)):=decW_one (by
          rintro⟨_,c',d',r',hr,h3,h4⟩;rw[hd2] at hr;cases hr;omega)
         refine MV G G (GF G G G (GF G G G (PF G G G (NL (TN (CF G (SK (TN (SQ (SQ (RG (MV G G ?_))))))))))));refine q0a (q1a G G) (q00 G) G G (fun h14_1=>?_) (fun h14_1=>?_)
         · refine MV G G (SG (q01 G) G G G ?_);refine q0a (q0n G G) (q04 G G G) G G (fun h14_4=>?_) (fun h14_4=>?_)
           · refine PT G G G (NL (TN (CT G (RG (AS G G (NL (TN (RG (MV G G (MV G G (q0F (enc:=encR) ty212 [_] H G Kf (fun _=>G) G G (q00 G) G ?_)))))))))));intro v66 M w H hle hl66;replace hp:=hp.mono hle;replace hcell:=hcell.mono hle;refine q0J ty212 (fun _=>G) H G (fun _=>by repeat first|exact .head|apply Upd.tail) G (by assumption) (by first|omega|(simp only[l00,l02,l03,l05,l01];omega)) (by first|(simp only[maxLen];omega)|(simp only[maxLen,l00,l02,l03,l05,l01];omega)) (q00 G) G ?_;intro v67 w H;refine AS G G (NL (IB (TN (RG (MV G G (q09 (v':=encN (i+2)) (q0f G G Om) G (q00 G) G G ?_))))));refine AS G G (NL ?_);refine q0W (i+2) (v67) (o++[65533]) ⟨G,G,G,G,trivial⟩ ?_ ?_
             · exact⟨by omega,by simp;omega,by rw[hdec,hd,hone,unsur,if_pos ⟨h14_1,h14_4⟩];simp,M,H,hp,hcell⟩
             omega
           refine PT G G G (NL (TN (CF G (SK (TN (RG (MV G G (MV G G (q0F (enc:=encR) ty212 [_] H G Kf (fun _=>G) G G (q00 G) G ?_)))))))));intro v66 M w H hle hl66;replace hp:=hp.mono hle;replace hcell:=hcell.mono hle;refine q0J ty212 (fun _=>G) H G (fun _=>by repeat first|exact .head|apply Upd.tail) G (by assumption) (by first|omega|(simp only[l00,l02,l03,l05,l01];omega)) (by first|(simp only[maxLen];omega)|(simp only[maxLen,l00,l02,l03,l05,l01];omega)) (q00 G) G ?_;intro v67 w H;refine AS G G (NL (IB (TN (RG (MV G G (q09 (v':=encN (i+2)) (q0f G G Om) G (q00 G) G G ?_))))));refine AS G G (NL ?_);refine q0W (i+2) (v67) (o++[unit x y]) ⟨G,G,G,G,trivial⟩ ?_ ?_
           · exact⟨by omega,by simp;omega,by rw[hdec,hd,hone,unsur,if_neg Om];simp,M,H,hp,hcell⟩
           omega
         refine MV G G (GF G G G (GF G G G (PF G G G (NL (TN (CF G (SK (TN (RG (MV G G (MV G G (q0F (enc:=encR) ty212 [_] H G Kf (fun _=>G) G G (q00 G) G ?_))))))))))));intro v66 M w H hle hl66;replace hp:=hp.mono hle;replace hcell:=hcell.mono hle;refine q0J ty212 (fun _=>G) H G (fun _=>by repeat first|exact .head|apply Upd.tail) G (by assumption) (by first|omega|(simp only[l00,l02,l03,l05,l01];omega)) (by first|(simp only[maxLen];omega)|(simp only[maxLen,l00,l02,l03,l05,l01];omega)) (q00 G) G ?_;intro v67 w H;refine AS G G (NL (IB (TN (RG (MV G G (q09 (v':=encN (i+2)) (q0f G G Om) G (q00 G) G G ?_))))));refine AS G G (NL ?_);refine q0W (i+2) (v67) (o++[unit x y]) ⟨G,G,G,G,trivial⟩ ?_ ?_
         · exact⟨by omega,by simp;omega,by rw[hdec,hd,hone,unsur,if_neg Om];simp,M,H,hp,hcell⟩
         omega
       have hone:decW (x::y::l.drop (i+2))=unsur (unit x y)::decW (l.drop (i+2)):=decW_one (by
        rintro⟨_,c',d',r',hr,_⟩;have:=congrArg List.length hr;rw[l01] at this;simp at this;omega)
       refine PT G G G (NL (TN (CF G (SK (TN (SQ (SQ (RG (MV G G ?_)))))))));refine q0a (q1a G G) (q00 G) G G (fun h14_1=>?_) (fun h14_1=>?_)
       · refine MV G G (SG (q01 G) G G G ?_);refine q0a (q0n G G) (q04 G G G) G G (fun h14_4=>?_) (fun h14_4=>?_)
         · refine PT G G G (NL (TN (CT G (RG (AS G G (NL (TN (RG (MV G G (MV G G (q0F (enc:=encR) ty212 [_] H G Kf (fun _=>G) G G (q00 G) G ?_)))))))))));intro v66 M w H hle hl66;replace hp:=hp.mono hle;replace hcell:=hcell.mono hle;refine q0J ty212 (fun _=>G) H G (fun _=>by repeat first|exact .head|apply Upd.tail) G (by assumption) (by first|omega|(simp only[l00,l02,l03,l05,l01];omega)) (by first|(simp only[maxLen];omega)|(simp only[maxLen,l00,l02,l03,l05,l01];omega)) (q00 G) G ?_;intro v67 w H;refine AS G G (NL (IB (TN (RG (MV G G (q09 (v':=encN (i+2)) (q0f G G Om) G (q00 G) G G ?_))))));refine AS G G (NL ?_);refine q0W (i+2) (v67) (o++[65533]) ⟨G,G,G,G,trivial⟩ ?_ ?_
           · exact⟨by omega,by simp;omega,by rw[hdec,hd,hone,unsur,if_pos ⟨h14_1,h14_4⟩];simp,M,H,hp,hcell⟩
           omega
         refine PT G G G (NL (TN (CF G (SK (TN (RG (MV G G (MV G G (q0F (enc:=encR) ty212 [_] H G Kf (fun _=>G) G G (q00 G) G ?_)))))))));intro v66 M w H hle hl66;replace hp:=hp.mono hle;replace hcell:=hcell.mono hle;refine q0J ty212 (fun _=>G) H G (fun _=>by repeat first|exact .head|apply Upd.tail) G (by assumption) (by first|omega|(simp only[l00,l02,l03,l05,l01];omega)) (by first|(simp only[maxLen];omega)|(simp only[maxLen,l00,l02,l03,l05,l01];omega)) (q00 G) G ?_;intro v67 w H;refine AS G G (NL (IB (TN (RG (MV G G (q09 (v':=encN (i+2)) (q0f G G Om) G (q00 G) G G ?_))))));refine AS G G (NL ?_);refine q0W (i+2) (v67) (o++[unit x y]) ⟨G,G,G,G,trivial⟩ ?_ ?_
         · exact⟨by omega,by simp;omega,by rw[hdec,hd,hone,unsur,if_neg Om];simp,M,H,hp,hcell⟩
         omega
       refine MV G G (GF G G G (GF G G G (PF G G G (NL (TN (CF G (SK (TN (RG (MV G G (MV G G (q0F (enc:=encR) ty212 [_] H G Kf (fun _=>G) G G (q00 G) G ?_))))))))))));intro v66 M w H hle hl66;replace hp:=hp.mono hle;replace hcell:=hcell.mono hle;refine q0J ty212 (fun _=>G) H G (fun _=>by repeat first|exact .head|apply Upd.tail) G (by assumption) (by first|omega|(simp only[l00,l02,l03,l05,l01];omega)) (by first|(simp only[maxLen];omega)|(simp only[maxLen,l00,l02,l03,l05,l01];omega)) (q00 G) G ?_;intro v67 w H;refine AS G G (NL (IB (TN (RG (MV G G (q09 (v':=encN (i+2)) (q0f G G Om) G (q00 G) G G ?_))))));refine AS G G (NL ?_);refine q0W (i+2) (v67) (o++[unit x y]) ⟨G,G,G,G,trivial⟩ ?_ ?_
       · exact⟨by omega,by simp;omega,by rw[hdec,hd,hone,unsur,if_neg Om];simp,M,H,hp,hcell⟩
       omega
     have hone:decW (x::y::l.drop (i+2))=unsur (unit x y)::decW (l.drop (i+2)):=decW_one (fun h=>absurd h.1.2 h9_4);refine PT G G G (MV G G (GF G G G (GF G G G (GF G G G (GF G G G (GF G G G (PF G G G (NL (TN (CF G (SK (TN (SQ (SQ (RG (MV G G ?_))))))))))))))));refine q0a (q1a G G) (q00 G) G G (fun h14_1=>?_) (fun h14_1=>?_)
     · refine MV G G (SG (q01 G) G G G ?_);refine q0a (q0n G G) (q04 G G G) G G (fun h14_4=>?_) (fun h14_4=>?_)
       · refine PT G G G (NL (TN (CT G (RG (AS G G (NL (TN (RG (MV G G (MV G G (q0F (enc:=encR) ty212 [_] H G Kf (fun _=>G) G G (q00 G) G ?_)))))))))));intro v66 M w H hle hl66;replace hp:=hp.mono hle;replace hcell:=hcell.mono hle;refine q0J ty212 (fun _=>G) H G (fun _=>by repeat first|exact .head|apply Upd.tail) G (by assumption) (by first|omega|(simp only[l00,l02,l03,l05,l01];omega)) (by first|(simp only[maxLen];omega)|(simp only[maxLen,l00,l02,l03,l05,l01];omega)) (q00 G) G ?_;intro v67 w H;refine AS G G (NL (IB (TN (RG (MV G G (q09 (v':=encN (i+2)) (q0f G G Om) G (q00 G) G G ?_))))));refine AS G G (NL ?_);refine q0W (i+2) (v67) (o++[65533]) ⟨G,G,G,G,trivial⟩ ?_ ?_
         · exact⟨by omega,by simp;omega,by rw[hdec,hd,hone,unsur,if_pos ⟨h14_1,h14_4⟩];simp,M,H,hp,hcell⟩
         omega
       refine PT G G G (NL (TN (CF G (SK (TN (RG (MV G G (MV G G (q0F (enc:=encR) ty212 [_] H G Kf (fun _=>G) G G (q00 G) G ?_)))))))));intro v66 M w H hle hl66;replace hp:=hp.mono hle;replace hcell:=hcell.mono hle;refine q0J ty212 (fun _=>G) H G (fun _=>by repeat first|exact .head|apply Upd.tail) G (by assumption) (by first|omega|(simp only[l00,l02,l03,l05,l01];omega)) (by first|(simp only[maxLen];omega)|(simp only[maxLen,l00,l02,l03,l05,l01];omega)) (q00 G) G ?_;intro v67 w H;refine AS G G (NL (IB (TN (RG (MV G G (q09 (v':=encN (i+2)) (q0f G G Om) G (q00 G) G G ?_))))));refine AS G G (NL ?_);refine q0W (i+2) (v67) (o++[unit x y]) ⟨G,G,G,G,trivial⟩ ?_ ?_
       · exact⟨by omega,by simp;omega,by rw[hdec,hd,hone,unsur,if_neg Om];simp,M,H,hp,hcell⟩
       omega
     refine MV G G (GF G G G (GF G G G (PF G G G (NL (TN (CF G (SK (TN (RG (MV G G (MV G G (q0F (enc:=encR) ty212 [_] H G Kf (fun _=>G) G G (q00 G) G ?_))))))))))));intro v66 M w H hle hl66;replace hp:=hp.mono hle;replace hcell:=hcell.mono hle;refine q0J ty212 (fun _=>G) H G (fun _=>by repeat first|exact .head|apply Upd.tail) G (by assumption) (by first|omega|(simp only[l00,l02,l03,l05,l01];omega)) (by first|(simp only[maxLen];omega)|(simp only[maxLen,l00,l02,l03,l05,l01];omega)) (q00 G) G ?_;intro v67 w H;refine AS G G (NL (IB (TN (RG (MV G G (q09 (v':=encN (i+2)) (q0f G G Om) G (q00 G) G G ?_))))));refine AS G G (NL ?_);refine q0W (i+2) (v67) (o++[unit x y]) ⟨G,G,G,G,trivial⟩ ?_ ?_
     · exact⟨by omega,by simp;omega,by rw[hdec,hd,hone,unsur,if_neg Om];simp,M,H,hp,hcell⟩
     omega
   have hone:decW (x::y::l.drop (i+2))=unsur (unit x y)::decW (l.drop (i+2)):=decW_one (fun h=>absurd h.1.1 h9_1);refine MV G G (GF G G G (GF G G G (PF G G G (MV G G (GF G G G (GF G G G (GF G G G (GF G G G (GF G G G (PF G G G (NL (TN (CF G (SK (TN (SQ (SQ (RG (MV G G ?_)))))))))))))))))));refine q0a (q1a G G) (q00 G) G G (fun h14_1=>?_) (fun h14_1=>?_)
   · refine MV G G (SG (q01 G) G G G ?_);refine q0a (q0n G G) (q04 G G G) G G (fun h14_4=>?_) (fun h14_4=>?_)
     · refine PT G G G (NL (TN (CT G (RG (AS G G (NL (TN (RG (MV G G (MV G G (q0F (enc:=encR) ty212 [_] H G Kf (fun _=>G) G G (q00 G) G ?_)))))))))));intro v66 M w H hle hl66;replace hp:=hp.mono hle;replace hcell:=hcell.mono hle;refine q0J ty212 (fun _=>G) H G (fun _=>by repeat first|exact .head|apply Upd.tail) G (by assumption) (by first|omega|(simp only[l00,l02,l03,l05,l01];omega)) (by first|(simp only[maxLen];omega)|(simp only[maxLen,l00,l02,l03,l05,l01];omega)) (q00 G) G ?_;intro v67 w H;refine AS G G (NL (IB (TN (RG (MV G G (q09 (v':=encN (i+2)) (q0f G G Om) G (q00 G) G G ?_))))));refine AS G G (NL ?_);refine q0W (i+2) (v67) (o++[65533]) ⟨G,G,G,G,trivial⟩ ?_ ?_
       · exact⟨by omega,by simp;omega,by rw[hdec,hd,hone,unsur,if_pos ⟨h14_1,h14_4⟩];simp,M,H,hp,hcell⟩
       omega
     refine PT G G G (NL (TN (CF G (SK (TN (RG (MV G G (MV G G (q0F (enc:=encR) ty212 [_] H G Kf (fun _=>G) G G (q00 G) G ?_)))))))));intro v66 M w H hle hl66;replace hp:=hp.mono hle;replace hcell:=hcell.mono hle;refine q0J ty212 (fun _=>G) H G (fun _=>by repeat first|exact .head|apply Upd.tail) G (by assumption) (by first|omega|(simp only[l00,l02,l03,l05,l01];omega)) (by first|(simp only[maxLen];omega)|(simp only[maxLen,l00,l02,l03,l05,l01];omega)) (q00 G) G ?_;intro v67 w H;refine AS G G (NL (IB (TN (RG (MV G G (q09 (v':=encN (i+2)) (q0f G G Om) G (q00 G) G G ?_))))));refine AS G G (NL ?_);refine q0W (i+2) (v67) (o++[unit x y]) ⟨G,G,G,G,trivial⟩ ?_ ?_
     · exact⟨by omega,by simp;omega,by rw[hdec,hd,hone,unsur,if_neg Om];simp,M,H,hp,hcell⟩
     omega
   refine MV G G (GF G G G (GF G G G (PF G G G (NL (TN (CF G (SK (TN (RG (MV G G (MV G G (q0F (enc:=encR) ty212 [_] H G Kf (fun _=>G) G G (q00 G) G ?_))))))))))));intro v66 M w H hle hl66;replace hp:=hp.mono hle;replace hcell:=hcell.mono hle;refine q0J ty212 (fun _=>G) H G (fun _=>by repeat first|exact .head|apply Upd.tail) G (by assumption) (by first|omega|(simp only[l00,l02,l03,l05,l01];omega)) (by first|(simp only[maxLen];omega)|(simp only[maxLen,l00,l02,l03,l05,l01];omega)) (q00 G) G ?_;intro v67 w H;refine AS G G (NL (IB (TN (RG (MV G G (q09 (v':=encN (i+2)) (q0f G G Om) G (q00 G) G G ?_))))));refine AS G G (NL ?_);refine q0W (i+2) (v67) (o++[unit x y]) ⟨G,G,G,G,trivial⟩ ?_ ?_
   · exact⟨by omega,by simp;omega,by rw[hdec,hd,hone,unsur,if_neg Om];simp,M,H,hp,hcell⟩
   omega
 have hend:decW l=o:=by rw[hdec,l08 Om];simp [decW]
 refine NL (TN (CF G (q0m (q06 (q06 (q0d (TN (SQ (RG (MV G G (AS G G (NL (TN (RT ?_))))))))))))));obtain⟨M,hle,hf,H⟩:=H.freezeRow (v:=ov) (enc:=encR) (t:=21) Kv;refine q07 G G H.ext (?_);rw[hend];exact hf
theorem ub_mod (a:Int):ub (a % 256)=ub a:=by
 unfold ub;rw [Int.emod_emod_of_dvd _ (Int.dvd_refl 256)]
theorem encK0 : encK 0=encS 128:=rfl
theorem encK1 : encK 1=encS 256:=rfl
theorem encK2 : encK 2=encU:=rfl
theorem encK3 : encK 3=encW:=rfl
def encWb (c:Int):Ls:=if c<65536 then [ub (c / 256),ub (c % 256)] else [ub (hiS c / 256),ub (hiS c % 256),ub (loS c / 256),ub (loS c % 256)]
theorem hiS_nat {m:Nat}(h:65536≤m):hiS (m:Int)=((55296+(m-65536) / 2 ^ 10:Nat):Int):=by unfold hiS;omega
theorem loS_nat {m:Nat}(h:65536≤m):loS (m:Int)=((56320+(m-65536) % 1024:Nat):Int):=by unfold loS;omega
theorem div256 (n:Nat):((n / 2 ^ 8:Nat):Int)=(n:Int) / 256:=by omega
theorem double_spec (m:Nat)(hm:m≤1114111):Ct Tryz.prog 198 [encR (m:Int)] (fun _=>True) (fun r M =>∃v,r = .tuple #[v, .bool true]∧Bs M v (encWb (m:Int))):=by
 refine Ct.of Tryz.func198 (enters Tryz.func198 Kr G) G G G ?_;intro w0 M0 H hp;refine SQ (RG (AS G G (AS G G (NL (TN (SQ (SQ (RG (MV G G ?_)))))))));refine q0a (q0n G G) (q00 G) G G (fun h1_1=>?_) (fun h1_1=>?_)
 · refine NL (TN (CT G (SQ (RG (MV G G (ST (Ex.shrN (m:=m) (s:=8) G G (by first|(show _≤64;omega)|(show _≤8;omega)|decide)) G ?_))))));refine ST (q1b Tu21 Tu5 G) G (MV G G (ST (q1b Tu21 Tu5 G) G (q0F (enc:=encB) ty88 [_,_] H G Kf (fun _=>G) G G (q00 G) G ?_)));intro v13 M w H hle hl13;refine AS G G (AS G G (NL (TN (RT ?_))));refine q0y G G G H.ext ?_;refine⟨_,G,?_⟩;unfold encWb;rw[if_pos Om,ub_mod,←div256];exact hl13
 refine NL (TN (CF G (SK (TN (SQ (RG (MV G G (q09 (v':=encR ((m-65536:Nat):Int)) (Ex.subW G G (i32_in Om)) (congrArg encR Om) (q00 G) G G ?_))))))));refine AS G G (NL (TN (SQ (RG (MV G G (ST (Ex.shrN (m:=(m-65536)) (s:=10) G G (by first|(show _≤64;omega)|(show _≤8;omega)|decide)) G ?_))))));refine q09 (v':=encR ((55296+(m-65536) / 2 ^ 10:Nat):Int)) (Ex.addW G G (i32_in Om)) (congrArg encR Om) (q00 G) G G ?_;refine MV G G (q09 (v':=encR (((m-65536) % 1024:Nat):Int)) (Ex.andK (m:=(m-65536)) (s:=1023) G G (by first|decide|(show _<256;omega)|(show _<4294967296;omega)|(show _<18446744073709551616;omega)) (by first|decide|(show _<256;omega)|(show _<4294967296;omega)|(show _<18446744073709551616;omega))) (congrArg encR (by rw[l2a (m-65536) 10];exact i32_in Om)) (q00 G) G G ?_);refine q09 (v':=encR ((56320+(m-65536) % 1024:Nat):Int)) (Ex.addW G G (i32_in Om)) (congrArg encR Om) (q00 G) G G ?_;refine AS G G (AS G G (NL (TN (SQ (RG (MV G G (ST (Ex.shrN (m:=(55296+(m-65536) / 2 ^ 10)) (s:=8) G G (by first|(show _≤64;omega)|(show _≤8;omega)|decide)) G ?_)))))));refine ST (q1b Tu21 Tu5 G) G (MV G G (ST (q1b Tu21 Tu5 G) G (MV G G (ST (Ex.shrN (m:=(56320+(m-65536) % 1024)) (s:=8) G G (by first|(show _≤64;omega)|(show _≤8;omega)|decide)) G ?_))));refine ST (q1b Tu21 Tu5 G) G (MV G G (ST (q1b Tu21 Tu5 G) G (q0F (enc:=encB) ty88 [_,_,_,_] H G Kf (fun _=>G) G G (q00 G) G ?_)));intro v32 M w H hle hl32;refine AS G G (AS G G (NL (TN (RT ?_))));refine q0y G G G H.ext ?_;refine⟨_,G,?_⟩;unfold encWb;rw[if_neg Om,ub_mod,ub_mod,hiS_nat Om,loS_nat Om,←div256,←div256];exact hl32
theorem single_spec (nm:Ls)(bound:Int):Ct Tryz.prog 193 [S nm,encR bound] (fun _=>True) (fun r M =>∃b,r = .agg #[S nm, .func (.func 213) #[] #[ptr b 0], .func (.func 214) #[] #[ptr b 0]]∧CellM M ⟨b,0,none⟩ (encR bound)):=by
 refine Ct.of Tryz.func193 (enters Tryz.func193 Kr G) G G G ?_;intro w0 M0 H hp;refine SQ (RG (q1z [_] H G G (q00 G) G ?_));intro b3 w H;refine q0j [_,_,_] H Tz188 G (q00 G) G ?_;intro b4 w H;refine NL (TN (SQ (RG (MV G G (ST (q1T G) G (ST (q1T G) G (ST (q0N [_,_,_] Tu188 Tz188 (places188 Tu188) G G) G (q0c [_,_,_] H G G G Ku Ts188 G Kf Kf (q00 G) ?_))))))));intro w H;refine NL (TN (RT ?_));obtain⟨M,hle,hM,H⟩:=H.freezeBlk (b:=b3) Kv;refine q07 G ⟨_,G,H.loadAgg Km Ta188 Ts188 Kf⟩ H.ext ?_;exact⟨b3,G,G,_,_,_,hM,G⟩
theorem ty214 : ElemTy Tryz.prog 214 188 (.agg #[.string ⟨#[]⟩, .nilFunc, .nilFunc]) 3 32:=q1L Tu214 Kr rfl Dc
abbrev encT (s:Value × Value × Value):List Value:=[s.1,s.2.1,s.2.2]
def rowsV (b0 b1:Nat):List (Value × Value × Value):=[(S [97,115,99,105,105], .func (.func 213) #[] #[ptr b0 0], .func (.func 214) #[] #[ptr b0 0]),(S [108,97,116,105,110,49], .func (.func 213) #[] #[ptr b1 0], .func (.func 214) #[] #[ptr b1 0]),(S [117,116,102,56], .func (.func 194) #[] #[], .func (.func 195) #[] #[]),(S [117,116,102,49,54,98,101], .func (.func 197) #[] #[], .func (.func 198) #[] #[])]
theorem row_at (b0 b1 k:Nat)(hk:k<4):∃x dv fv,setN[k]? = some x∧(rowsV b0 b1)[k]? = some (S x,dv,fv)∧dv.oneCell'=true∧fv.oneCell'=true∧x.length≤7:=by
 rcases k with _|_|_|_|k
 · exact⟨_,_,_,G,G,G,G,by decide⟩
 · exact⟨_,_,_,G,G,G,G,by decide⟩
 · exact⟨_,_,_,G,G,G,G,by decide⟩
 · exact⟨_,_,_,G,G,G,G,by decide⟩
 omega
def found (b0 b1:Nat):Option Nat→Value
 | none => .tuple #[.agg #[S [], .nilFunc, .nilFunc], .bool false]
 | some k=>match (rowsV b0 b1)[k]? with
   | some s => .tuple #[.agg (encT s).toArray, .bool true]
   | none => .tuple #[]
theorem find_spec (name:Ls)(hs:name.length≤maxLen):Ct Tryz.prog 170 [S name] (fun _=>True) (fun r M =>∃b0 b1,CellM M ⟨b0,0,none⟩ (encR 128)∧CellM M ⟨b1,0,none⟩ (encR 256)∧r=found b0 b1 (setOf name)):=by
 refine Ct.of Tryz.func170 (enters Tryz.func170 Kr G) G G G ?_;intro w0 M0 H hp;refine SQ (RG (q0j [_,_,_] H Tz188 G (q00 G) G ?_));intro b2 w H;refine AS G G (NL (TN (SQ (RG (q05 H (single_spec _ _) G (trivial) (q00 G) G ?_)))));intro v7 M w H hle hr7;obtain⟨bb7,rfl,hcell7⟩:=hr7;refine q05 H (single_spec _ _) G (trivial) (q00 G) G ?_;intro v8 M w H hle hr8;replace hcell7:=hcell7.mono hle;obtain⟨bb8,rfl,hcell8⟩:=hr8;refine q09 (v' := .agg #[S [117,116,102,56], .func (.func 194) #[] #[], .func (.func 195) #[] #[]]) (q0N [_,_,_] Tu188 Tz188 (places188 Tu188) G G) G (q00 G) G G (q09 (v' := .agg #[S [117,116,102,49,54,98,101], .func (.func 197) #[] #[], .func (.func 198) #[] #[]]) (q0N [_,_,_] Tu188 Tz188 (places188 Tu188) G G) G (q00 G) G G (q1J (enc:=encT) ty214 (rowsV bb7 bb8) H (fun _=>G) G Kr G G G (q00 G) G ?_));intro v11 M w H hle hl11;replace hcell7:=hcell7.mono hle;replace hcell8:=hcell8.mono hle;refine AS G G (NL (TN (SQ (SQ (RG (MV G G (q09 (v':=I 4) (q1o Tu214 (by assumption) G) G (q00 G) G G ?_)))))));refine MV rfl rfl (NL (TN (BL (q1W (fun(k:Nat)=>[(0,S name),(2,ptr b2 0),(12,v11),(13,I 4),(14,encN k)]) (fun(k:Nat) w=>k≤4∧setOf name=((setN.drop k).findIdx? (same name)).map (· + k)∧∃M,St w0 M0 M [.blk b2 (.cells #[S [], .nilFunc, .nilFunc] 188)] w∧SlS M 3 encT v11 (rowsV bb7 bb8)∧CellM M ⟨bb7,0,none⟩ (encR 128)∧CellM M ⟨bb8,0,none⟩ (encR 256)) (fun(k:Nat)=>4-k) (0) ⟨rfl,rfl,rfl,rfl,rfl,trivial⟩ (⟨by omega,by rw[l0l];simp only[l1i,Option.map_id'];rfl,M,H,hl11,hcell7,hcell8⟩) ?_))));intro k w;rintro⟨hk,hso,M,H,hl11,hcell7,hcell8⟩;refine SQ (RG ?_);refine q0a (q0n G G) (q00 G) G G (fun h3_0=>?_) (fun h3_0=>?_)
 · obtain⟨x,dv,fv,hx,hrow,hd1,hf1,hxl⟩:=row_at bb7 bb8 k Om;refine NL (TN (SQ (CT G (SK (TN (SQ (BL (SQ (RG (WR.idxSlS Tu214 Ts188 (by assumption) G G (hrow) (q00 G) G ?_))))))))));intro b16 o16 hc16;first|refine q02 (q0w H rfl Km Ta188 Ts188 Kf) (q00 rfl) rfl rfl ?_|refine q02 (q1i H rfl (by assumption) Ta188 Ts188 Kf) (q00 rfl) rfl rfl ?_
   refine q0j [_,_,_] H Tz188 G (q00 G) G ?_;intro b6 w H;refine q0c [S x,dv,fv] H G G G Ku Ts188 G Kf (by show(true&&(dv.oneCell'&&(fv.oneCell'&&true)))=true;rw [hd1,hf1];rfl) (q00 G) ?_;intro w H;refine NL (TN (SQ (RG (ST (q03 Tu188 G Ts9 Dc G) G ?_))));first|refine q02 (q08 H rfl (by assumption) Ta9) (q00 rfl) rfl rfl ?_|refine q02 (XL H Ta9) (q00 rfl) rfl rfl ?_
   refine MV G G ?_;by_cases h5_3:lower x=lower name
   · have hr:=(setOf_from hso hx).1 h5_3;refine q05 H (q0C (same_spec _ _ (by simp only[maxLen];omega) hs) (R':=fun r _=>r = .bool true) (fun _ _ h=>h.trans (congrArg Value.bool (decide_eq_true h5_3)))) G (trivial) (q00 G) G ?_;intro v21 M w H hle hr21;replace hl11:=hl11.mono hle;replace hcell7:=hcell7.mono hle;replace hcell8:=hcell8.mono hle;replace hc16:=hc16.mono hle;obtain rfl:=hr21;refine NL (TN (CT G (SQ (RG ?_))));first|refine q02 (q0w H rfl Km Ta188 Ts188 Kf) (q00 rfl) rfl rfl ?_|refine q02 (q1i H rfl (by assumption) Ta188 Ts188 Kf) (q00 rfl) rfl rfl ?_
     refine q0c [S x,dv,fv] H G G G Ku Ts188 G Kf (by show(true&&(dv.oneCell'&&(fv.oneCell'&&true)))=true;rw [hd1,hf1];rfl) (q00 G) ?_;intro w H;refine AS G G (NL (TN (RT ?_)));refine q0y G ⟨_,G,H.loadAgg Km Ta188 Ts188 Kf⟩ G H.ext ?_;exact⟨_,_,hcell7,hcell8,by rw[hr,found,hrow]⟩
   refine q05 H (q0C (same_spec _ _ (by simp only[maxLen];omega) hs) (R':=fun r _=>r = .bool false) (fun _ _ h=>h.trans (congrArg Value.bool (decide_eq_false h5_3)))) G (trivial) (q00 G) G ?_;intro v21 M w H hle hr21;replace hl11:=hl11.mono hle;replace hcell7:=hcell7.mono hle;replace hcell8:=hcell8.mono hle;obtain rfl:=hr21;refine NL (TN (CF G (SK (IB (TN (RG (q09 (v':=encN (k+1)) (q0f G G Om) G (q00 G) G G ?_)))))));refine MV G G (NL ?_);refine q1j (k+1) ⟨G,G,G,G,G,trivial⟩ ?_ ?_
   · exact⟨by omega,(setOf_from hso hx).2 h5_3,M,H.drop (l0v _ _),hl11,hcell7,hcell8⟩
   omega
 have hr:setOf name=none:=by rw[hso,l08 (show setN.length≤k by show 4≤k;omega)];rfl
 refine NL (TN (SQ (CF G (q0m (q06 (q06 (q0d (TN (SQ (RG (ST (q0N [_,_,_] Tu188 Tz188 (places188 Tu188) G G) G (q0c [_,_,_] H G G G Ku Ts188 G Kf Kf (q00 G) ?_))))))))))));intro w H;refine AS G G (NL (TN (RT ?_)));refine q0y G ⟨_,G,H.loadAgg Km Ta188 Ts188 Kf⟩ G H.ext ?_;exact⟨_,_,hcell7,hcell8,by rw[hr,found]⟩
end Go.Proofs.YtkmjdamkifbddaaGreatDoor
end
section
namespace Go.Proofs.YtkmjdamkifbddaaGreatDoor
open Go Go.RowKit Go.Ph
open Go.Ph.Gr Go.Ph.Utf Go.Ph.Chs
theorem decode_unk (name:Ls)(v:Value)(l:Ls)(hn:name.length≤maxLen)(hs:l.length≤12000)(hk:setOf name=none):Ct Tryz.prog 186 [S name,v] (fun M=>Bs M v l) (fun r _=>r = .tuple #[S [],fault 18 (-2)]):=by
 refine Ct.of Tf186 (enters Tf186 Kr G) G G G ?_;intro w0 M0 H hp;refine SQ (RG (AS G G (q0j [_,_] H Tz27 G (q00 G) G ?_)));intro b5 w H;refine NL (TN (SQ (SQ (RG (MV G G ?_)))));first|refine q02 (q0D Tu88 (by assumption) rfl) (q00 rfl) rfl rfl ?_|refine q02 (q0M Tu88 H Km rfl) (q00 rfl) rfl rfl ?_|refine q02 (q0G Tu88 rfl) (q00 rfl) rfl rfl ?_
 refine q0V (q0E G G) Om (q00 G) G G ?_;refine NL (TN (CF rfl (SK (TN (SQ (RG (MV rfl rfl (q05 H (q0C (find_spec name hn) (R':=fun r M =>∃b0 b1,CellM M ⟨b0,0,none⟩ (encR 128)∧CellM M ⟨b1,0,none⟩ (encR 256)∧r = .tuple #[.agg #[S [], .nilFunc, .nilFunc], .bool false]) (fun _ _ ⟨b0,b1,h0,h1,h⟩=>⟨b0,b1,h0,h1,by rw[hk] at h;exact h⟩)) rfl (trivial) (q00 rfl) rfl ?_))))))));intro v14 M w H hle hr14;obtain⟨b0,b1,hc0,hc1,rfl⟩:=hr14;refine MV G G (ST (q0b G G) G (ST (q0b G G) G (q0j [_,_,_] H Tz188 G (q00 G) G ?_)));intro b6 w H;refine q0c [_,_,_] H G G G Ku Ts188 G Kf Kf (q00 G) ?_;intro w H;refine AS G G (NL (TN (SQ (SQ (RG (MV G G (ST (q1Y G) G (NL (TN (CT G (SQ (RG (q05 H (fault_spec _ _) G (trivial) (q00 G) G ?_)))))))))))));intro v19 M w H hle hr19;obtain rfl:=hr19;refine AS G G (q0c [_,_] H G G G Ku Ts27 G Kf Kf (q00 G) ?_);intro w H;refine NL (TN (RT ?_));refine q0y G G ⟨_,G,H.loadAgg Km Ta27 Ts27 Kf⟩ H.ext ?_;exact G
theorem decode_0 (name:Ls)(v:Value)(l:Ls)(hn:name.length≤maxLen)(hs:l.length≤12000)(hk:setOf name=some 0):Ct Tryz.prog 186 [S name,v] (fun M=>Bs M v l) (fun r _=>r = .tuple #[S (decoded 0 l),fault 0 0]):=by
 refine Ct.of Tf186 (enters Tf186 Kr G) G G G ?_;intro w0 M0 H hp;refine SQ (RG (AS G G (q0j [_,_] H Tz27 G (q00 G) G ?_)));intro b5 w H;refine NL (TN (SQ (SQ (RG (MV G G ?_)))));first|refine q02 (q0D Tu88 (by assumption) rfl) (q00 rfl) rfl rfl ?_|refine q02 (q0M Tu88 H Km rfl) (q00 rfl) rfl rfl ?_|refine q02 (q0G Tu88 rfl) (q00 rfl) rfl rfl ?_
 refine q0V (q0E G G) Om (q00 G) G G ?_;refine NL (TN (CF rfl (SK (TN (SQ (RG (MV rfl rfl (q05 H (q0C (find_spec name hn) (R':=fun r M =>∃b0 b1,CellM M ⟨b0,0,none⟩ (encR 128)∧CellM M ⟨b1,0,none⟩ (encR 256)∧r = .tuple #[.agg #[S [97,115,99,105,105], .func (.func 213) #[] #[ptr b0 0], .func (.func 214) #[] #[ptr b0 0]], .bool true]) (fun _ _ ⟨b0,b1,h0,h1,h⟩=>⟨b0,b1,h0,h1,by rw[hk] at h;exact h⟩)) rfl (trivial) (q00 rfl) rfl ?_))))))));intro v14 M w H hle hr14;replace hp:=hp.mono hle;obtain⟨b0,b1,hc0,hc1,rfl⟩:=hr14;refine MV G G (ST (q0b G G) G (ST (q0b G G) G (q0j [_,_,_] H Tz188 G (q00 G) G ?_)));intro b6 w H;refine q0c [_,_,_] H G G G Ku Ts188 G Kf Kf (q00 G) ?_;intro w H;refine AS G G (NL (TN (SQ (SQ (RG (MV G G (ST (q1t G) G (NL (TN (CF G (SK (TN (SQ (q0H (m:=8) G G H ?_))))))))))))));intro w H;refine TK 0 G (fun _=>q03 Tu188 G Ts185 Dc G) G (TK 2 G (fun _=>q01 G) G (ON 1 Kr G ?_));first|refine q02 (q08 H rfl (by assumption) Ta185) (q00 rfl) rfl rfl ?_|refine q02 (XL H Ta185) (q00 rfl) rfl rfl ?_
 refine NA (ON 3 Kr G (q1w (cap:=[ptr b0 0]) H (dec1_spec _ l b0 128 Om) G G (⟨by assumption,by assumption⟩) (q00 G) G ?_));intro v23 M w H hle hr23;replace hp:=hp.mono hle;replace hc0:=hc0.mono hle;replace hc1:=hc1.mono hle;have hf23:=hr23;refine NA ?_;refine q0R (i:=4) (j:=5) Kr G G ?_ ?_
 · refine ST (q2b Tu212 Tu21 Tu9 H (by assumption) G) G ?_;refine NA (ON 5 Kr G (q05 H (none_spec) G (trivial) (q00 G) G ?_));intro v25 M w H hle hr25;obtain rfl:=hr25;refine NA (ON 6 Kr G (AS G G (NA (ON 7 Kr G (q0c [_,_] H G G G Ku Ts27 G Kf Kf (q00 G) ?_)))));intro w H;refine NA (q0l Kr (TN (RT ?_)));refine q0y G G ⟨_,G,H.loadAgg Km Ta27 Ts27 Kf⟩ H.ext ?_;exact G
 refine q05 H (none_spec) G (trivial) (q00 G) G ?_;intro v25 M w H hle hr25;replace hp:=hp.mono hle;replace hc0:=hc0.mono hle;replace hc1:=hc1.mono hle;replace hf23:=hf23.mono hle;obtain rfl:=hr25;refine NA (ON 4 Kr G (ST (q2b Tu212 Tu21 Tu9 H (by assumption) G) G ?_));refine NA (ON 6 Kr G (AS G G (NA (ON 7 Kr G (q0c [_,_] H G G G Ku Ts27 G Kf Kf (q00 G) ?_)))));intro w H;refine NA (q0l Kr (TN (RT ?_)));refine q0y G G ⟨_,G,H.loadAgg Km Ta27 Ts27 Kf⟩ H.ext ?_;exact G
theorem decode_1 (name:Ls)(v:Value)(l:Ls)(hn:name.length≤maxLen)(hs:l.length≤12000)(hk:setOf name=some 1):Ct Tryz.prog 186 [S name,v] (fun M=>Bs M v l) (fun r _=>r = .tuple #[S (decoded 1 l),fault 0 0]):=by
 refine Ct.of Tf186 (enters Tf186 Kr G) G G G ?_;intro w0 M0 H hp;refine SQ (RG (AS G G (q0j [_,_] H Tz27 G (q00 G) G ?_)));intro b5 w H;refine NL (TN (SQ (SQ (RG (MV G G ?_)))));first|refine q02 (q0D Tu88 (by assumption) rfl) (q00 rfl) rfl rfl ?_|refine q02 (q0M Tu88 H Km rfl) (q00 rfl) rfl rfl ?_|refine q02 (q0G Tu88 rfl) (q00 rfl) rfl rfl ?_
 refine q0V (q0E G G) Om (q00 G) G G ?_;refine NL (TN (CF rfl (SK (TN (SQ (RG (MV rfl rfl (q05 H (q0C (find_spec name hn) (R':=fun r M =>∃b0 b1,CellM M ⟨b0,0,none⟩ (encR 128)∧CellM M ⟨b1,0,none⟩ (encR 256)∧r = .tuple #[.agg #[S [108,97,116,105,110,49], .func (.func 213) #[] #[ptr b1 0], .func (.func 214) #[] #[ptr b1 0]], .bool true]) (fun _ _ ⟨b0,b1,h0,h1,h⟩=>⟨b0,b1,h0,h1,by rw[hk] at h;exact h⟩)) rfl (trivial) (q00 rfl) rfl ?_))))))));intro v14 M w H hle hr14;replace hp:=hp.mono hle;obtain⟨b0,b1,hc0,hc1,rfl⟩:=hr14;refine MV G G (ST (q0b G G) G (ST (q0b G G) G (q0j [_,_,_] H Tz188 G (q00 G) G ?_)));intro b6 w H;refine q0c [_,_,_] H G G G Ku Ts188 G Kf Kf (q00 G) ?_;intro w H;refine AS G G (NL (TN (SQ (SQ (RG (MV G G (ST (q1t G) G (NL (TN (CF G (SK (TN (SQ (q0H (m:=8) G G H ?_))))))))))))));intro w H;refine TK 0 G (fun _=>q03 Tu188 G Ts185 Dc G) G (TK 2 G (fun _=>q01 G) G (ON 1 Kr G ?_));first|refine q02 (q08 H rfl (by assumption) Ta185) (q00 rfl) rfl rfl ?_|refine q02 (XL H Ta185) (q00 rfl) rfl rfl ?_
 refine NA (ON 3 Kr G (q1w (cap:=[ptr b1 0]) H (dec1_spec _ l b1 256 Om) G G (⟨by assumption,by assumption⟩) (q00 G) G ?_));intro v23 M w H hle hr23;replace hp:=hp.mono hle;replace hc0:=hc0.mono hle;replace hc1:=hc1.mono hle;have hf23:=hr23;refine NA ?_;refine q0R (i:=4) (j:=5) Kr G G ?_ ?_
 · refine ST (q2b Tu212 Tu21 Tu9 H (by assumption) G) G ?_;refine NA (ON 5 Kr G (q05 H (none_spec) G (trivial) (q00 G) G ?_));intro v25 M w H hle hr25;obtain rfl:=hr25;refine NA (ON 6 Kr G (AS G G (NA (ON 7 Kr G (q0c [_,_] H G G G Ku Ts27 G Kf Kf (q00 G) ?_)))));intro w H;refine NA (q0l Kr (TN (RT ?_)));refine q0y G G ⟨_,G,H.loadAgg Km Ta27 Ts27 Kf⟩ H.ext ?_;exact G
 refine q05 H (none_spec) G (trivial) (q00 G) G ?_;intro v25 M w H hle hr25;replace hp:=hp.mono hle;replace hc0:=hc0.mono hle;replace hc1:=hc1.mono hle;replace hf23:=hf23.mono hle;obtain rfl:=hr25;refine NA (ON 4 Kr G (ST (q2b Tu212 Tu21 Tu9 H (by assumption) G) G ?_));refine NA (ON 6 Kr G (AS G G (NA (ON 7 Kr G (q0c [_,_] H G G G Ku Ts27 G Kf Kf (q00 G) ?_)))));intro w H;refine NA (q0l Kr (TN (RT ?_)));refine q0y G G ⟨_,G,H.loadAgg Km Ta27 Ts27 Kf⟩ H.ext ?_;exact G
theorem decode_2 (name:Ls)(v:Value)(l:Ls)(hn:name.length≤maxLen)(hs:l.length≤12000)(hk:setOf name=some 2):Ct Tryz.prog 186 [S name,v] (fun M=>Bs M v l) (fun r _=>r = .tuple #[S (decoded 2 l),fault 0 0]):=by
 refine Ct.of Tf186 (enters Tf186 Kr G) G G G ?_;intro w0 M0 H hp;refine SQ (RG (AS G G (q0j [_,_] H Tz27 G (q00 G) G ?_)));intro b5 w H;refine NL (TN (SQ (SQ (RG (MV G G ?_)))));first|refine q02 (q0D Tu88 (by assumption) rfl) (q00 rfl) rfl rfl ?_|refine q02 (q0M Tu88 H Km rfl) (q00 rfl) rfl rfl ?_|refine q02 (q0G Tu88 rfl) (q00 rfl) rfl rfl ?_
 refine q0V (q0E G G) Om (q00 G) G G ?_;refine NL (TN (CF rfl (SK (TN (SQ (RG (MV rfl rfl (q05 H (q0C (find_spec name hn) (R':=fun r M =>∃b0 b1,CellM M ⟨b0,0,none⟩ (encR 128)∧CellM M ⟨b1,0,none⟩ (encR 256)∧r = .tuple #[.agg #[S [117,116,102,56], .func (.func 194) #[] #[], .func (.func 195) #[] #[]], .bool true]) (fun _ _ ⟨b0,b1,h0,h1,h⟩=>⟨b0,b1,h0,h1,by rw[hk] at h;exact h⟩)) rfl (trivial) (q00 rfl) rfl ?_))))))));intro v14 M w H hle hr14;replace hp:=hp.mono hle;obtain⟨b0,b1,hc0,hc1,rfl⟩:=hr14;refine MV G G (ST (q0b G G) G (ST (q0b G G) G (q0j [_,_,_] H Tz188 G (q00 G) G ?_)));intro b6 w H;refine q0c [_,_,_] H G G G Ku Ts188 G Kf Kf (q00 G) ?_;intro w H;refine AS G G (NL (TN (SQ (SQ (RG (MV G G (ST (q1t G) G (NL (TN (CF G (SK (TN (SQ (q0H (m:=8) G G H ?_))))))))))))));intro w H;refine TK 0 G (fun _=>q03 Tu188 G Ts185 Dc G) G (TK 2 G (fun _=>q01 G) G (ON 1 Kr G ?_));first|refine q02 (q08 H rfl (by assumption) Ta185) (q00 rfl) rfl rfl ?_|refine q02 (XL H Ta185) (q00 rfl) rfl rfl ?_
 refine NA (ON 3 Kr G (q1w (cap:=[]) H (decU_spec _ l Om) G G (by assumption) (q00 G) G ?_));intro v23 M w H hle hr23;replace hp:=hp.mono hle;replace hc0:=hc0.mono hle;replace hc1:=hc1.mono hle;have hf23:=hr23;refine NA ?_;refine q0R (i:=4) (j:=5) Kr G G ?_ ?_
 · refine ST (q2b Tu212 Tu21 Tu9 H (by assumption) G) G ?_;refine NA (ON 5 Kr G (q05 H (none_spec) G (trivial) (q00 G) G ?_));intro v25 M w H hle hr25;obtain rfl:=hr25;refine NA (ON 6 Kr G (AS G G (NA (ON 7 Kr G (q0c [_,_] H G G G Ku Ts27 G Kf Kf (q00 G) ?_)))));intro w H;refine NA (q0l Kr (TN (RT ?_)));refine q0y G G ⟨_,G,H.loadAgg Km Ta27 Ts27 Kf⟩ H.ext ?_;exact G
 refine q05 H (none_spec) G (trivial) (q00 G) G ?_;intro v25 M w H hle hr25;replace hp:=hp.mono hle;replace hc0:=hc0.mono hle;replace hc1:=hc1.mono hle;replace hf23:=hf23.mono hle;obtain rfl:=hr25;refine NA (ON 4 Kr G (ST (q2b Tu212 Tu21 Tu9 H (by assumption) G) G ?_));refine NA (ON 6 Kr G (AS G G (NA (ON 7 Kr G (q0c [_,_] H G G G Ku Ts27 G Kf Kf (q00 G) ?_)))));intro w H;refine NA (q0l Kr (TN (RT ?_)));refine q0y G G ⟨_,G,H.loadAgg Km Ta27 Ts27 Kf⟩ H.ext ?_;exact G
theorem decode_3 (name:Ls)(v:Value)(l:Ls)(hn:name.length≤maxLen)(hs:l.length≤12000)(hk:setOf name=some 3):Ct Tryz.prog 186 [S name,v] (fun M=>Bs M v l) (fun r _=>r = .tuple #[S (decoded 3 l),fault 0 0]):=by
 refine Ct.of Tf186 (enters Tf186 Kr G) G G G ?_;intro w0 M0 H hp;refine SQ (RG (AS G G (q0j [_,_] H Tz27 G (q00 G) G ?_)));intro b5 w H;refine NL (TN (SQ (SQ (RG (MV G G ?_)))));first|refine q02 (q0D Tu88 (by assumption) rfl) (q00 rfl) rfl rfl ?_|refine q02 (q0M Tu88 H Km rfl) (q00 rfl) rfl rfl ?_|refine q02 (q0G Tu88 rfl) (q00 rfl) rfl rfl ?_
 refine q0V (q0E G G) Om (q00 G) G G ?_;refine NL (TN (CF rfl (SK (TN (SQ (RG (MV rfl rfl (q05 H (q0C (find_spec name hn) (R':=fun r M =>∃b0 b1,CellM M ⟨b0,0,none⟩ (encR 128)∧CellM M ⟨b1,0,none⟩ (encR 256)∧r = .tuple #[.agg #[S [117,116,102,49,54,98,101], .func (.func 197) #[] #[], .func (.func 198) #[] #[]], .bool true]) (fun _ _ ⟨b0,b1,h0,h1,h⟩=>⟨b0,b1,h0,h1,by rw[hk] at h;exact h⟩)) rfl (trivial) (q00 rfl) rfl ?_))))))));intro v14 M w H hle hr14;replace hp:=hp.mono hle;obtain⟨b0,b1,hc0,hc1,rfl⟩:=hr14;refine MV G G (ST (q0b G G) G (ST (q0b G G) G (q0j [_,_,_] H Tz188 G (q00 G) G ?_)));intro b6 w H;refine q0c [_,_,_] H G G G Ku Ts188 G Kf Kf (q00 G) ?_;intro w H;refine AS G G (NL (TN (SQ (SQ (RG (MV G G (ST (q1t G) G (NL (TN (CF G (SK (TN (SQ (q0H (m:=8) G G H ?_))))))))))))));intro w H;refine TK 0 G (fun _=>q03 Tu188 G Ts185 Dc G) G (TK 2 G (fun _=>q01 G) G (ON 1 Kr G ?_));first|refine q02 (q08 H rfl (by assumption) Ta185) (q00 rfl) rfl rfl ?_|refine q02 (XL H Ta185) (q00 rfl) rfl rfl ?_
 refine NA (ON 3 Kr G (q1w (cap:=[]) H (units_spec _ l Om) G G (by assumption) (q00 G) G ?_));intro v23 M w H hle hr23;replace hp:=hp.mono hle;replace hc0:=hc0.mono hle;replace hc1:=hc1.mono hle;have hf23:=hr23;refine NA ?_;refine q0R (i:=4) (j:=5) Kr G G ?_ ?_
 · refine ST (q2b Tu212 Tu21 Tu9 H (by assumption) G) G ?_;refine NA (ON 5 Kr G (q05 H (none_spec) G (trivial) (q00 G) G ?_));intro v25 M w H hle hr25;obtain rfl:=hr25;refine NA (ON 6 Kr G (AS G G (NA (ON 7 Kr G (q0c [_,_] H G G G Ku Ts27 G Kf Kf (q00 G) ?_)))));intro w H;refine NA (q0l Kr (TN (RT ?_)));refine q0y G G ⟨_,G,H.loadAgg Km Ta27 Ts27 Kf⟩ H.ext ?_;exact G
 refine q05 H (none_spec) G (trivial) (q00 G) G ?_;intro v25 M w H hle hr25;replace hp:=hp.mono hle;replace hc0:=hc0.mono hle;replace hc1:=hc1.mono hle;replace hf23:=hf23.mono hle;obtain rfl:=hr25;refine NA (ON 4 Kr G (ST (q2b Tu212 Tu21 Tu9 H (by assumption) G) G ?_));refine NA (ON 6 Kr G (AS G G (NA (ON 7 Kr G (q0c [_,_] H G G G Ku Ts27 G Kf Kf (q00 G) ?_)))));intro w H;refine NA (q0l Kr (TN (RT ?_)));refine q0y G G ⟨_,G,H.loadAgg Km Ta27 Ts27 Kf⟩ H.ext ?_;exact G
theorem decode_spec_k (name:Ls)(v:Value)(l:Ls)(hn:name.length≤maxLen)(hs:l.length≤12000)(k:Nat)(hk:setOf name=some k):Ct Tryz.prog 186 [S name,v] (fun M=>Bs M v l) (fun r _=>r = .tuple #[S (decoded k l),fault 0 0]):=by
 have h4:=setOf_lt hk;rcases k with _|_|_|_|k
 · exact decode_0 name v l hn hs hk
 · exact decode_1 name v l hn hs hk
 · exact decode_2 name v l hn hs hk
 · exact decode_3 name v l hn hs hk
 omega
theorem dr_fix0 (l:Ls):((dr l).1:Int)=fix0 (rune l).1:=by
 rw[rune_dr];unfold fix0;split
 · rfl
 simp only[];omega
theorem fix0_id {n:Int}(h:0≤n):fix0 n=n:=by unfold fix0;rw [if_neg Om]
theorem encode_unk (name l:Ls)(hn:name.length≤maxLen)(hs:l.length≤12000)(hk:setOf name=none):Ct Tryz.prog 140 [S name,S l] (fun M=>Tabs M) (fun r _=>r = .tuple #[.slice none 0 0,fault 18 (-2)]):=by
 refine Ct.of Tf140 (enters Tf140 Kr G) G G G ?_;intro w0 M0 H hp;refine SQ (RG (AS G G (q0j [_,_] H Tz27 G (q00 G) G ?_)));intro b5 w H;refine NL (TN (SQ (SQ (RG (MV G G (ST (q0g Tu9 G) G (q0V (q0E G G) Om (q00 G) G G ?_)))))));refine NL (TN (CF rfl (SK (TN (SQ (RG (MV rfl rfl (q05 H (q0C (find_spec name hn) (R':=fun r M =>∃b0 b1,CellM M ⟨b0,0,none⟩ (encR 128)∧CellM M ⟨b1,0,none⟩ (encR 256)∧r = .tuple #[.agg #[S [], .nilFunc, .nilFunc], .bool false]) (fun _ _ ⟨b0,b1,h0,h1,h⟩=>⟨b0,b1,h0,h1,by rw[hk] at h;exact h⟩)) rfl (trivial) (q00 rfl) rfl ?_))))))));intro v19 M w H hle hr19;obtain⟨b0,b1,hc0,hc1,rfl⟩:=hr19;refine MV G G (ST (q0b G G) G (ST (q0b G G) G (q0j [_,_,_] H Tz188 G (q00 G) G ?_)));intro b6 w H;refine q0c [_,_,_] H G G G Ku Ts188 G Kf Kf (q00 G) ?_;intro w H;refine AS G G (NL (TN (SQ (SQ (RG (MV G G (ST (q1Y G) G (NL (TN (CT G (SQ (RG (q05 H (fault_spec _ _) G (trivial) (q00 G) G ?_)))))))))))));intro v24 M w H hle hr24;obtain rfl:=hr24;refine AS G G (q0c [_,_] H G G G Ku Ts27 G Kf Kf (q00 G) ?_);intro w H;refine NL (TN (RT ?_));refine q0y G G ⟨_,G,H.loadAgg Km Ta27 Ts27 Kf⟩ H.ext ?_;exact G
theorem encode_mal0 (name l:Ls)(hn:name.length≤maxLen)(hs:l.length≤12000)(hk:setOf name=some 0)(hv:vld l=false):Ct Tryz.prog 140 [S name,S l] (fun M=>Tabs M) (fun r _=>r = .tuple #[.slice none 0 0,fault 5 (-3)]):=by
 refine Ct.of Tf140 (enters Tf140 Kr G) G G G ?_;intro w0 M0 H hp;refine SQ (RG (AS G G (q0j [_,_] H Tz27 G (q00 G) G ?_)));intro b5 w H;refine NL (TN (SQ (SQ (RG (MV G G (ST (q0g Tu9 G) G (q0V (q0E G G) Om (q00 G) G G ?_)))))));refine NL (TN (CF rfl (SK (TN (SQ (RG (MV rfl rfl (q05 H (q0C (find_spec name hn) (R':=fun r M =>∃b0 b1,CellM M ⟨b0,0,none⟩ (encR 128)∧CellM M ⟨b1,0,none⟩ (encR 256)∧r = .tuple #[.agg #[S [97,115,99,105,105], .func (.func 213) #[] #[ptr b0 0], .func (.func 214) #[] #[ptr b0 0]], .bool true]) (fun _ _ ⟨b0,b1,h0,h1,h⟩=>⟨b0,b1,h0,h1,by rw[hk] at h;exact h⟩)) rfl (trivial) (q00 rfl) rfl ?_))))))));intro v19 M w H hle hr19;replace hp:=hp.mono hle;obtain⟨b0,b1,hc0,hc1,rfl⟩:=hr19;refine MV G G (ST (q0b G G) G (ST (q0b G G) G (q0j [_,_,_] H Tz188 G (q00 G) G ?_)));intro b6 w H;refine q0c [_,_,_] H G G G Ku Ts188 G Kf Kf (q00 G) ?_;intro w H;refine AS G G (NL (TN (SQ (SQ (RG (MV G G (ST (q1t G) G (NL (TN (CF G (SK (TN (SQ (SQ (RG (MV G G (q05 H (q0C (validString_spec l Om) (R':=fun r _=>r = .bool false) (fun _ _ h=>by rw[hv] at h;exact h)) G (by assumption) (q00 G) G ?_)))))))))))))))));intro v26 M w H hle hr26;obtain rfl:=hr26;refine ST (q1Y G) G (NL (TN (CT G (SQ (RG (q05 H (fault_spec _ _) G (trivial) (q00 G) G ?_))))));intro v28 M w H hle hr28;obtain rfl:=hr28;refine AS G G (q0c [_,_] H G G G Ku Ts27 G Kf Kf (q00 G) ?_);intro w H;refine NL (TN (RT ?_));refine q0y G G ⟨_,G,H.loadAgg Km Ta27 Ts27 Kf⟩ H.ext ?_;exact G
theorem encode_mal1 (name l:Ls)(hn:name.length≤maxLen)(hs:l.length≤12000)(hk:setOf name=some 1)(hv:vld l=false):Ct Tryz.prog 140 [S name,S l] (fun M=>Tabs M) (fun r _=>r = .tuple #[.slice none 0 0,fault 5 (-3)]):=by
 refine Ct.of Tf140 (enters Tf140 Kr G) G G G ?_;intro w0 M0 H hp;refine SQ (RG (AS G G (q0j [_,_] H Tz27 G (q00 G) G ?_)));intro b5 w H;refine NL (TN (SQ (SQ (RG (MV G G (ST (q0g Tu9 G) G (q0V (q0E G G) Om (q00 G) G G ?_)))))));refine NL (TN (CF rfl (SK (TN (SQ (RG (MV rfl rfl (q05 H (q0C (find_spec name hn) (R':=fun r M =>∃b0 b1,CellM M ⟨b0,0,none⟩ (encR 128)∧CellM M ⟨b1,0,none⟩ (encR 256)∧r = .tuple #[.agg #[S [108,97,116,105,110,49], .func (.func 213) #[] #[ptr b1 0], .func (.func 214) #[] #[ptr b1 0]], .bool true]) (fun _ _ ⟨b0,b1,h0,h1,h⟩=>⟨b0,b1,h0,h1,by rw[hk] at h;exact h⟩)) rfl (trivial) (q00 rfl) rfl ?_))))))));intro v19 M w H hle hr19;replace hp:=hp.mono hle;obtain⟨b0,b1,hc0,hc1,rfl⟩:=hr19;refine MV G G (ST (q0b G G) G (ST (q0b G G) G (q0j [_,_,_] H Tz188 G (q00 G) G ?_)));intro b6 w H;refine q0c [_,_,_] H G G G Ku Ts188 G Kf Kf (q00 G) ?_;intro w H;refine AS G G (NL (TN (SQ (SQ (RG (MV G G (ST (q1t G) G (NL (TN (CF G (SK (TN (SQ (SQ (RG (MV G G (q05 H (q0C (validString_spec l Om) (R':=fun r _=>r = .bool false) (fun _ _ h=>by rw[hv] at h;exact h)) G (by assumption) (q00 G) G ?_)))))))))))))))));intro v26 M w H hle hr26;obtain rfl:=hr26;refine ST (q1Y G) G (NL (TN (CT G (SQ (RG (q05 H (fault_spec _ _) G (trivial) (q00 G) G ?_))))));intro v28 M w H hle hr28;obtain rfl:=hr28;refine AS G G (q0c [_,_] H G G G Ku Ts27 G Kf Kf (q00 G) ?_);intro w H;refine NL (TN (RT ?_));refine q0y G G ⟨_,G,H.loadAgg Km Ta27 Ts27 Kf⟩ H.ext ?_;exact G
theorem encode_mal2 (name l:Ls)(hn:name.length≤maxLen)(hs:l.length≤12000)(hk:setOf name=some 2)(hv:vld l=false):Ct Tryz.prog 140 [S name,S l] (fun M=>Tabs M) (fun r _=>r = .tuple #[.slice none 0 0,fault 5 (-3)]):=by
 refine Ct.of Tf140 (enters Tf140 Kr G) G G G ?_;intro w0 M0 H hp;refine SQ (RG (AS G G (q0j [_,_] H Tz27 G (q00 G) G ?_)));intro b5 w H;refine NL (TN (SQ (SQ (RG (MV G G (ST (q0g Tu9 G) G (q0V (q0E G G) Om (q00 G) G G ?_)))))));refine NL (TN (CF rfl (SK (TN (SQ (RG (MV rfl rfl (q05 H (q0C (find_spec name hn) (R':=fun r M =>∃b0 b1,CellM M ⟨b0,0,none⟩ (encR 128)∧CellM M ⟨b1,0,none⟩ (encR 256)∧r = .tuple #[.agg #[S [117,116,102,56], .func (.func 194) #[] #[], .func (.func 195) #[] #[]], .bool true]) (fun _ _ ⟨b0,b1,h0,h1,h⟩=>⟨b0,b1,h0,h1,by rw[hk] at h;exact h⟩)) rfl (trivial) (q00 rfl) rfl ?_))))))));intro v19 M w H hle hr19;replace hp:=hp.mono hle;obtain⟨b0,b1,hc0,hc1,rfl⟩:=hr19;refine MV G G (ST (q0b G G) G (ST (q0b G G) G (q0j [_,_,_] H Tz188 G (q00 G) G ?_)));intro b6 w H;refine q0c [_,_,_] H G G G Ku Ts188 G Kf Kf (q00 G) ?_;intro w H;refine AS G G (NL (TN (SQ (SQ (RG (MV G G (ST (q1t G) G (NL (TN (CF G (SK (TN (SQ (SQ (RG (MV G G (q05 H (q0C (validString_spec l Om) (R':=fun r _=>r = .bool false) (fun _ _ h=>by rw[hv] at h;exact h)) G (by assumption) (q00 G) G ?_)))))))))))))))));intro v26 M w H hle hr26;obtain rfl:=hr26;refine ST (q1Y G) G (NL (TN (CT G (SQ (RG (q05 H (fault_spec _ _) G (trivial) (q00 G) G ?_))))));intro v28 M w H hle hr28;obtain rfl:=hr28;refine AS G G (q0c [_,_] H G G G Ku Ts27 G Kf Kf (q00 G) ?_);intro w H;refine NL (TN (RT ?_));refine q0y G G ⟨_,G,H.loadAgg Km Ta27 Ts27 Kf⟩ H.ext ?_;exact G
theorem encode_mal3 (name l:Ls)(hn:name.length≤maxLen)(hs:l.length≤12000)(hk:setOf name=some 3)(hv:vld l=false):Ct Tryz.prog 140 [S name,S l] (fun M=>Tabs M) (fun r _=>r = .tuple #[.slice none 0 0,fault 5 (-3)]):=by
 refine Ct.of Tf140 (enters Tf140 Kr G) G G G ?_;intro w0 M0 H hp;refine SQ (RG (AS G G (q0j [_,_] H Tz27 G (q00 G) G ?_)));intro b5 w H;refine NL (TN (SQ (SQ (RG (MV G G (ST (q0g Tu9 G) G (q0V (q0E G G) Om (q00 G) G G ?_)))))));refine NL (TN (CF rfl (SK (TN (SQ (RG (MV rfl rfl (q05 H (q0C (find_spec name hn) (R':=fun r M =>∃b0 b1,CellM M ⟨b0,0,none⟩ (encR 128)∧CellM M ⟨b1,0,none⟩ (encR 256)∧r = .tuple #[.agg #[S [117,116,102,49,54,98,101], .func (.func 197) #[] #[], .func (.func 198) #[] #[]], .bool true]) (fun _ _ ⟨b0,b1,h0,h1,h⟩=>⟨b0,b1,h0,h1,by rw[hk] at h;exact h⟩)) rfl (trivial) (q00 rfl) rfl ?_))))))));intro v19 M w H hle hr19;replace hp:=hp.mono hle;obtain⟨b0,b1,hc0,hc1,rfl⟩:=hr19;refine MV G G (ST (q0b G G) G (ST (q0b G G) G (q0j [_,_,_] H Tz188 G (q00 G) G ?_)));intro b6 w H;refine q0c [_,_,_] H G G G Ku Ts188 G Kf Kf (q00 G) ?_;intro w H;refine AS G G (NL (TN (SQ (SQ (RG (MV G G (ST (q1t G) G (NL (TN (CF G (SK (TN (SQ (SQ (RG (MV G G (q05 H (q0C (validString_spec l Om) (R':=fun r _=>r = .bool false) (fun _ _ h=>by rw[hv] at h;exact h)) G (by assumption) (q00 G) G ?_)))))))))))))))));intro v26 M w H hle hr26;obtain rfl:=hr26;refine ST (q1Y G) G (NL (TN (CT G (SQ (RG (q05 H (fault_spec _ _) G (trivial) (q00 G) G ?_))))));intro v28 M w H hle hr28;obtain rfl:=hr28;refine AS G G (q0c [_,_] H G G G Ku Ts27 G Kf Kf (q00 G) ?_);intro w H;refine NL (TN (RT ?_));refine q0y G G ⟨_,G,H.loadAgg Km Ta27 Ts27 Kf⟩ H.ext ?_;exact G
theorem encode_0 (name l:Ls)(hn:name.length≤maxLen)(hs:l.length≤12000)(hk:setOf name=some 0)(hv:vld l=true):Ct Tryz.prog 140 [S name,S l] (fun M=>Tabs M) (fun r M=>match encGo (encK 0) (chars l) 0 with | .ok b =>∃v,r = .tuple #[v,fault 0 0]∧Bs M v b | .error e=>r = .tuple #[.slice none 0 0,fault 17 (e:Int)]):=by
 refine Ct.of Tf140 (enters Tf140 Kr G) G G G ?_;intro w0 M0 H hp;refine SQ (RG (AS G G (q0j [_,_] H Tz27 G (q00 G) G ?_)));intro b5 w H;refine NL (TN (SQ (SQ (RG (MV G G (ST (q0g Tu9 G) G (q0V (q0E G G) Om (q00 G) G G ?_)))))));refine NL (TN (CF rfl (SK (TN (SQ (RG (MV rfl rfl (q05 H (q0C (find_spec name hn) (R':=fun r M =>∃b0 b1,CellM M ⟨b0,0,none⟩ (encR 128)∧CellM M ⟨b1,0,none⟩ (encR 256)∧r = .tuple #[.agg #[S [97,115,99,105,105], .func (.func 213) #[] #[ptr b0 0], .func (.func 214) #[] #[ptr b0 0]], .bool true]) (fun _ _ ⟨b0,b1,h0,h1,h⟩=>⟨b0,b1,h0,h1,by rw[hk] at h;exact h⟩)) rfl (trivial) (q00 rfl) rfl ?_))))))));intro v19 M w H hle hr19;replace hp:=hp.mono hle;obtain⟨b0,b1,hc0,hc1,rfl⟩:=hr19;refine MV G G (ST (q0b G G) G (ST (q0b G G) G (q0j [_,_,_] H Tz188 G (q00 G) G ?_)));intro b6 w H;refine q0c [_,_,_] H G G G Ku Ts188 G Kf Kf (q00 G) ?_;intro w H;refine AS G G (NL (TN (SQ (SQ (RG (MV G G (ST (q1t G) G (NL (TN (CF G (SK (TN (SQ (SQ (RG (MV G G (q05 H (q0C (validString_spec l Om) (R':=fun r _=>r = .bool true) (fun _ _ h=>by rw[hv] at h;exact h)) G (by assumption) (q00 G) G ?_)))))))))))))))));intro v26 M w H hle hr26;replace hp:=hp.mono hle;replace hc0:=hc0.mono hle;replace hc1:=hc1.mono hle;obtain rfl:=hr26;refine ST (q1t G) G (NL (TN (CF G (SK (TN (SQ (RG ?_)))))));replace H:=H.newRow 5 encB;refine AS G G (NL (TN (SQ (SQ (RG (MV G G (q2c H Tu9 G (q00 G) G ?_)))))));intro b30 w H
 refine NL (TN (BL (q1O (fun(q:Nat) (ov:Value) (o:Ls)=>[(5,ptr b5 0),(6,ptr b6 0),(8,ov),(30,ptr b30 0)]) (fun(q:Nat) (ov:Value) (o:Ls) w=>(q≤l.length∧o.length≤4*q)∧vld (l.drop q)=true∧encGo (encK 0) (chars l) 0=pre o (encGo (encK 0) (chars (l.drop q)) q)∧∃M,St w0 M0 M [.blk b30 (.stringIter ⟨l.toArray⟩ q),RowI 5 encB ov o, .blk b6 (.cells #[S [97,115,99,105,105], .func (.func 213) #[] #[ptr b0 0], .func (.func 214) #[] #[ptr b0 0]] 188), .blk b5 (.cells #[I 0,I 0] 27)] w∧CellM M ⟨b0,0,none⟩ (encR 128)) (fun(q:Nat) (ov:Value) (o:Ls)=>l.length-q) (0) (_) (_) ⟨rfl,rfl,rfl,rfl,trivial⟩ (⟨by simp,hv,(pre_nil _).symm,M,H,hc0⟩) ?_)));intro q ov o w;rintro⟨hq,hvq,hgo,M,H,hc0⟩;refine SQ (RG ?_);by_cases h10_0:q<l.length
 · have hne:=drop_ne (t:=l) (n:=q) h10_0;have hrs:=rune_size (l.drop q);have hrs3:=hrs.2.2 hne;rw[l01] at hrs3;rw[vld_cons hne,l0j] at hvq;have hr0:=of_decide_eq_true hvq.1;have hvn:=hvq.2;have hrl:=rune_lt (l.drop q);have hdr:((dr (l.drop q)).1:Int)=(rune (l.drop q)).1:=by rw[dr_fix0,fix0_id hr0]
   have hch:chars (l.drop q)=((rune (l.drop q)).1,(l.drop q).take (rune (l.drop q)).2)::chars (l.drop (q+(rune (l.drop q)).2)):=by rw[chars_cons hne,l0n]
   refine WR.nextT H h10_0 G Ku (q00 G) G ?_;intro w H;refine ST (q0b G G) G (NL (TN (SQ (CT G (SK (TN (BL (SQ (RG (ST (q0b G G) G (q09 (v':=encR (rune (l.drop q)).1) (q0b G G) (congrArg encR hdr) (q00 G) G G (AS G G (AS G G (NL (TN (SQ (RG (ST (q03 Tu188 G Ts186 Dc G) G ?_))))))))))))))))));first|refine q02 (q08 H rfl (by assumption) Ta186) (q00 rfl) rfl rfl ?_|refine q02 (XL H Ta186) (q00 rfl) rfl rfl ?_
   refine MV G G ?_;by_cases hok:(rune (l.drop q)).1<128
   · have hstep:encK 0 (rune (l.drop q)).1=some ([ub (rune (l.drop q)).1]):=by rw[encK0,Chs.encS,if_pos hok]
     have hbl:=encK_len hstep;refine q1w (cap:=[ptr b0 0]) H (q0C (enc1_spec (rune (l.drop q)).1 b0 128) (R':=fun r M =>∃v,r = .tuple #[v, .bool true]∧Bs M v ([ub (rune (l.drop q)).1])) (fun _ _ ⟨v,h1,h2⟩=>⟨v,by rw[decide_eq_true hok] at h1;exact h1,h2⟩)) rfl rfl (by assumption) (q00 rfl) rfl ?_;intro v39 M w H hle hr39;replace hc0:=hc0.mono hle;obtain⟨v39,rfl,hf39⟩:=hr39;refine MV G G (ST (q0b G G) G (ST (q0b G G) G (AS G G (AS G G (NL (TN (SQ (SQ (RG (MV G G (ST (q1t G) G (NL (TN (CF G (SK (TN (RG (MV G G (MV G G (q0J ty88 (fun _=>G) H G (fun _=>by repeat first|exact .head|apply Upd.tail) G (by assumption) (by first|omega|(simp only[l00,l02,l03,l05,l01];omega)) (by first|(simp only[maxLen];omega)|(simp only[maxLen,l00,l02,l03,l05,l01];omega)) (q00 G) G ?_))))))))))))))))))));intro v48 w H;refine AS G G (NL (IB ?_));refine q0W (q+(dr (l.drop q)).2) (v48) (o++([ub (rune (l.drop q)).1])) ⟨G,G,G,G,trivial⟩ ?_ ?_
     · refine⟨by rw[dr_size,l00];omega,?_,?_,M,H,hc0⟩
       · rw[dr_size,←l0n];exact hvn
       rw[hgo,hch,encGo_step o hstep,dr_size];simp only[l05,l01];rw[l0Z Om]
     rw[dr_size];omega
   have hres:encGo (encK 0) (chars l) 0 = .error q:=by rw[hgo,hch];exact encGo_stop o (by rw[encK0,Chs.encS,if_neg hok])
   refine q1w (cap:=[ptr b0 0]) H (q0C (enc1_spec (rune (l.drop q)).1 b0 128) (R':=fun r M =>∃v,r = .tuple #[v, .bool false]∧Bs M v ([ub (rune (l.drop q)).1])) (fun _ _ ⟨v,h1,h2⟩=>⟨v,by rw[decide_eq_false hok] at h1;exact h1,h2⟩)) rfl rfl (by assumption) (q00 rfl) rfl ?_;intro v39 M w H hle hr39;obtain⟨v39,rfl,hf39⟩:=hr39;refine MV G G (ST (q0b G G) G (ST (q0b G G) G (AS G G (AS G G (NL (TN (SQ (SQ (RG (MV G G (ST (q1Y G) G (NL (TN (CT G (SQ (RG (MV G G (q05 H (fault_spec _ _) G (trivial) (q00 G) G ?_))))))))))))))))));intro v45 M w H hle hr45;obtain rfl:=hr45;refine AS G G (q0c [_,_] H G G G Ku Ts27 G Kf Kf (q00 G) ?_);intro w H;refine NL (TN (RT ?_));refine q0y G G ⟨_,G,H.loadAgg Km Ta27 Ts27 Kf⟩ H.ext ?_;refine  ?_;rw[hres]
 have hres:encGo (encK 0) (chars l) 0 = .ok o:=by rw[hgo,l08 Om,chars_nil];simp [encGo,pre]
 refine WR.nextF H (l1B h10_0) G Km (q00 G) G ?_;refine ST (q0b G G) G (NL (TN (SQ (CF G (q0m (q06 (q06 (q0d (TN (SQ (RG (MV G G (q05 H (none_spec) G (trivial) (q00 G) G ?_)))))))))))));intro v50 M w H hle hr50;obtain rfl:=hr50;refine AS G G (q0c [_,_] H G G G Ku Ts27 G Kf Kf (q00 G) ?_);intro w H;refine NL (TN (RT ?_));obtain⟨M,hle,hf,H⟩:=H.freezeRow (v:=ov) (enc:=encB) (t:=5) Kv;refine q0y G G ⟨_,G,H.loadAgg Km Ta27 Ts27 Kf⟩ H.ext ?_;refine  ?_;rw[hres];exact⟨_,G,hf⟩
theorem encode_1 (name l:Ls)(hn:name.length≤maxLen)(hs:l.length≤12000)(hk:setOf name=some 1)(hv:vld l=true):Ct Tryz.prog 140 [S name,S l] (fun M=>Tabs M) (fun r M=>match encGo (encK 1) (chars l) 0 with | .ok b =>∃v,r = .tuple #[v,fault 0 0]∧Bs M v b | .error e=>r = .tuple #[.slice none 0 0,fault 17 (e:Int)]):=by
 refine Ct.of Tf140 (enters Tf140 Kr G) G G G ?_;intro w0 M0 H hp;refine SQ (RG (AS G G (q0j [_,_] H Tz27 G (q00 G) G ?_)));intro b5 w H;refine NL (TN (SQ (SQ (RG (MV G G (ST (q0g Tu9 G) G (q0V (q0E G G) Om (q00 G) G G ?_)))))));refine NL (TN (CF rfl (SK (TN (SQ (RG (MV rfl rfl (q05 H (q0C (find_spec name hn) (R':=fun r M =>∃b0 b1,CellM M ⟨b0,0,none⟩ (encR 128)∧CellM M ⟨b1,0,none⟩ (encR 256)∧r = .tuple #[.agg #[S [108,97,116,105,110,49], .func (.func 213) #[] #[ptr b1 0], .func (.func 214) #[] #[ptr b1 0]], .bool true]) (fun _ _ ⟨b0,b1,h0,h1,h⟩=>⟨b0,b1,h0,h1,by rw[hk] at h;exact h⟩)) rfl (trivial) (q00 rfl) rfl ?_))))))));intro v19 M w H hle hr19;replace hp:=hp.mono hle;obtain⟨b0,b1,hc0,hc1,rfl⟩:=hr19;refine MV G G (ST (q0b G G) G (ST (q0b G G) G (q0j [_,_,_] H Tz188 G (q00 G) G ?_)));intro b6 w H;refine q0c [_,_,_] H G G G Ku Ts188 G Kf Kf (q00 G) ?_;intro w H;refine AS G G (NL (TN (SQ (SQ (RG (MV G G (ST (q1t G) G (NL (TN (CF G (SK (TN (SQ (SQ (RG (MV G G (q05 H (q0C (validString_spec l Om) (R':=fun r _=>r = .bool true) (fun _ _ h=>by rw[hv] at h;exact h)) G (by assumption) (q00 G) G ?_)))))))))))))))));intro v26 M w H hle hr26;replace hp:=hp.mono hle;replace hc0:=hc0.mono hle;replace hc1:=hc1.mono hle;obtain rfl:=hr26;refine ST (q1t G) G (NL (TN (CF G (SK (TN (SQ (RG ?_)))))));replace H:=H.newRow 5 encB;refine AS G G (NL (TN (SQ (SQ (RG (MV G G (q2c H Tu9 G (q00 G) G ?_)))))));intro b30 w H
 refine NL (TN (BL (q1O (fun(q:Nat) (ov:Value) (o:Ls)=>[(5,ptr b5 0),(6,ptr b6 0),(8,ov),(30,ptr b30 0)]) (fun(q:Nat) (ov:Value) (o:Ls) w=>(q≤l.length∧o.length≤4*q)∧vld (l.drop q)=true∧encGo (encK 1) (chars l) 0=pre o (encGo (encK 1) (chars (l.drop q)) q)∧∃M,St w0 M0 M [.blk b30 (.stringIter ⟨l.toArray⟩ q),RowI 5 encB ov o, .blk b6 (.cells #[S [108,97,116,105,110,49], .func (.func 213) #[] #[ptr b1 0], .func (.func 214) #[] #[ptr b1 0]] 188), .blk b5 (.cells #[I 0,I 0] 27)] w∧CellM M ⟨b1,0,none⟩ (encR 256)) (fun(q:Nat) (ov:Value) (o:Ls)=>l.length-q) (0) (_) (_) ⟨rfl,rfl,rfl,rfl,trivial⟩ (⟨by simp,hv,(pre_nil _).symm,M,H,hc1⟩) ?_)));intro q ov o w;rintro⟨hq,hvq,hgo,M,H,hc1⟩;refine SQ (RG ?_);by_cases h10_0:q<l.length
 · have hne:=drop_ne (t:=l) (n:=q) h10_0;have hrs:=rune_size (l.drop q);have hrs3:=hrs.2.2 hne;rw[l01] at hrs3;rw[vld_cons hne,l0j] at hvq;have hr0:=of_decide_eq_true hvq.1;have hvn:=hvq.2;have hrl:=rune_lt (l.drop q);have hdr:((dr (l.drop q)).1:Int)=(rune (l.drop q)).1:=by rw[dr_fix0,fix0_id hr0]
   have hch:chars (l.drop q)=((rune (l.drop q)).1,(l.drop q).take (rune (l.drop q)).2)::chars (l.drop (q+(rune (l.drop q)).2)):=by rw[chars_cons hne,l0n]
   refine WR.nextT H h10_0 G Ku (q00 G) G ?_;intro w H;refine ST (q0b G G) G (NL (TN (SQ (CT G (SK (TN (BL (SQ (RG (ST (q0b G G) G (q09 (v':=encR (rune (l.drop q)).1) (q0b G G) (congrArg encR hdr) (q00 G) G G (AS G G (AS G G (NL (TN (SQ (RG (ST (q03 Tu188 G Ts186 Dc G) G ?_))))))))))))))))));first|refine q02 (q08 H rfl (by assumption) Ta186) (q00 rfl) rfl rfl ?_|refine q02 (XL H Ta186) (q00 rfl) rfl rfl ?_
   refine MV G G ?_;by_cases hok:(rune (l.drop q)).1<256
   · have hstep:encK 1 (rune (l.drop q)).1=some ([ub (rune (l.drop q)).1]):=by rw[encK1,Chs.encS,if_pos hok]
     have hbl:=encK_len hstep;refine q1w (cap:=[ptr b1 0]) H (q0C (enc1_spec (rune (l.drop q)).1 b1 256) (R':=fun r M =>∃v,r = .tuple #[v, .bool true]∧Bs M v ([ub (rune (l.drop q)).1])) (fun _ _ ⟨v,h1,h2⟩=>⟨v,by rw[decide_eq_true hok] at h1;exact h1,h2⟩)) rfl rfl (by assumption) (q00 rfl) rfl ?_;intro v39 M w H hle hr39;replace hc1:=hc1.mono hle;obtain⟨v39,rfl,hf39⟩:=hr39;refine MV G G (ST (q0b G G) G (ST (q0b G G) G (AS G G (AS G G (NL (TN (SQ (SQ (RG (MV G G (ST (q1t G) G (NL (TN (CF G (SK (TN (RG (MV G G (MV G G (q0J ty88 (fun _=>G) H G (fun _=>by repeat first|exact .head|apply Upd.tail) G (by assumption) (by first|omega|(simp only[l00,l02,l03,l05,l01];omega)) (by first|(simp only[maxLen];omega)|(simp only[maxLen,l00,l02,l03,l05,l01];omega)) (q00 G) G ?_))))))))))))))))))));intro v48 w H;refine AS G G (NL (IB ?_));refine q0W (q+(dr (l.drop q)).2) (v48) (o++([ub (rune (l.drop q)).1])) ⟨G,G,G,G,trivial⟩ ?_ ?_
     · refine⟨by rw[dr_size,l00];omega,?_,?_,M,H,hc1⟩
       · rw[dr_size,←l0n];exact hvn
       rw[hgo,hch,encGo_step o hstep,dr_size];simp only[l05,l01];rw[l0Z Om]
     rw[dr_size];omega
   have hres:encGo (encK 1) (chars l) 0 = .error q:=by rw[hgo,hch];exact encGo_stop o (by rw[encK1,Chs.encS,if_neg hok])
   refine q1w (cap:=[ptr b1 0]) H (q0C (enc1_spec (rune (l.drop q)).1 b1 256) (R':=fun r M =>∃v,r = .tuple #[v, .bool false]∧Bs M v ([ub (rune (l.drop q)).1])) (fun _ _ ⟨v,h1,h2⟩=>⟨v,by rw[decide_eq_false hok] at h1;exact h1,h2⟩)) rfl rfl (by assumption) (q00 rfl) rfl ?_;intro v39 M w H hle hr39;obtain⟨v39,rfl,hf39⟩:=hr39;refine MV G G (ST (q0b G G) G (ST (q0b G G) G (AS G G (AS G G (NL (TN (SQ (SQ (RG (MV G G (ST (q1Y G) G (NL (TN (CT G (SQ (RG (MV G G (q05 H (fault_spec _ _) G (trivial) (q00 G) G ?_))))))))))))))))));intro v45 M w H hle hr45;obtain rfl:=hr45;refine AS G G (q0c [_,_] H G G G Ku Ts27 G Kf Kf (q00 G) ?_);intro w H;refine NL (TN (RT ?_));refine q0y G G ⟨_,G,H.loadAgg Km Ta27 Ts27 Kf⟩ H.ext ?_;refine  ?_;rw[hres]
 have hres:encGo (encK 1) (chars l) 0 = .ok o:=by rw[hgo,l08 Om,chars_nil];simp [encGo,pre]
 refine WR.nextF H (l1B h10_0) G Km (q00 G) G ?_;refine ST (q0b G G) G (NL (TN (SQ (CF G (q0m (q06 (q06 (q0d (TN (SQ (RG (MV G G (q05 H (none_spec) G (trivial) (q00 G) G ?_)))))))))))));intro v50 M w H hle hr50;obtain rfl:=hr50;refine AS G G (q0c [_,_] H G G G Ku Ts27 G Kf Kf (q00 G) ?_);intro w H;refine NL (TN (RT ?_));obtain⟨M,hle,hf,H⟩:=H.freezeRow (v:=ov) (enc:=encB) (t:=5) Kv;refine q0y G G ⟨_,G,H.loadAgg Km Ta27 Ts27 Kf⟩ H.ext ?_;refine  ?_;rw[hres];exact⟨_,G,hf⟩
theorem encode_2 (name l:Ls)(hn:name.length≤maxLen)(hs:l.length≤12000)(hk:setOf name=some 2)(hv:vld l=true):Ct Tryz.prog 140 [S name,S l] (fun M=>Tabs M) (fun r M=>match encGo (encK 2) (chars l) 0 with | .ok b =>∃v,r = .tuple #[v,fault 0 0]∧Bs M v b | .error e=>r = .tuple #[.slice none 0 0,fault 17 (e:Int)]):=by
 refine Ct.of Tf140 (enters Tf140 Kr G) G G G ?_;intro w0 M0 H hp;refine SQ (RG (AS G G (q0j [_,_] H Tz27 G (q00 G) G ?_)));intro b5 w H;refine NL (TN (SQ (SQ (RG (MV G G (ST (q0g Tu9 G) G (q0V (q0E G G) Om (q00 G) G G ?_)))))));refine NL (TN (CF rfl (SK (TN (SQ (RG (MV rfl rfl (q05 H (q0C (find_spec name hn) (R':=fun r M =>∃b0 b1,CellM M ⟨b0,0,none⟩ (encR 128)∧CellM M ⟨b1,0,none⟩ (encR 256)∧r = .tuple #[.agg #[S [117,116,102,56], .func (.func 194) #[] #[], .func (.func 195) #[] #[]], .bool true]) (fun _ _ ⟨b0,b1,h0,h1,h⟩=>⟨b0,b1,h0,h1,by rw[hk] at h;exact h⟩)) rfl (trivial) (q00 rfl) rfl ?_))))))));intro v19 M w H hle hr19;replace hp:=hp.mono hle;obtain⟨b0,b1,hc0,hc1,rfl⟩:=hr19;refine MV G G (ST (q0b G G) G (ST (q0b G G) G (q0j [_,_,_] H Tz188 G (q00 G) G ?_)));intro b6 w H;refine q0c [_,_,_] H G G G Ku Ts188 G Kf Kf (q00 G) ?_;intro w H;refine AS G G (NL (TN (SQ (SQ (RG (MV G G (ST (q1t G) G (NL (TN (CF G (SK (TN (SQ (SQ (RG (MV G G (q05 H (q0C (validString_spec l Om) (R':=fun r _=>r = .bool true) (fun _ _ h=>by rw[hv] at h;exact h)) G (by assumption) (q00 G) G ?_)))))))))))))))));intro v26 M w H hle hr26;replace hp:=hp.mono hle;replace hc0:=hc0.mono hle;replace hc1:=hc1.mono hle;obtain rfl:=hr26;refine ST (q1t G) G (NL (TN (CF G (SK (TN (SQ (RG ?_)))))));replace H:=H.newRow 5 encB;refine AS G G (NL (TN (SQ (SQ (RG (MV G G (q2c H Tu9 G (q00 G) G ?_)))))));intro b30 w H;refine NL (TN (BL (q1O (fun(q:Nat) (ov:Value) (o:Ls)=>[(5,ptr b5 0),(6,ptr b6 0),(8,ov),(30,ptr b30 0)]) (fun(q:Nat) (ov:Value) (o:Ls) w=>(q≤l.length∧o.length≤4*q)∧vld (l.drop q)=true∧encGo (encK 2) (chars l) 0=pre o (encGo (encK 2) (chars (l.drop q)) q)∧∃M,St w0 M0 M [.blk b30 (.stringIter ⟨l.toArray⟩ q),RowI 5 encB ov o, .blk b6 (.cells #[S [117,116,102,56], .func (.func 194) #[] #[], .func (.func 195) #[] #[]] 188), .blk b5 (.cells #[I 0,I 0] 27)] w) (fun(q:Nat) (ov:Value) (o:Ls)=>l.length-q) (0) (_) (_) ⟨rfl,rfl,rfl,rfl,trivial⟩ (⟨by simp,hv,(pre_nil _).symm,M,H⟩) ?_)));intro q ov o w
 rintro⟨hq,hvq,hgo,M,H⟩;refine SQ (RG ?_);by_cases h10_0:q<l.length
 · have hne:=drop_ne (t:=l) (n:=q) h10_0;have hrs:=rune_size (l.drop q);have hrs3:=hrs.2.2 hne;rw[l01] at hrs3;rw[vld_cons hne,l0j] at hvq;have hr0:=of_decide_eq_true hvq.1;have hvn:=hvq.2;have hrl:=rune_lt (l.drop q);have hdr:((dr (l.drop q)).1:Int)=(rune (l.drop q)).1:=by rw[dr_fix0,fix0_id hr0]
   have hch:chars (l.drop q)=((rune (l.drop q)).1,(l.drop q).take (rune (l.drop q)).2)::chars (l.drop (q+(rune (l.drop q)).2)):=by rw[chars_cons hne,l0n]
   have hstep:encK 2 (rune (l.drop q)).1=some (utf8 (rune (l.drop q)).1):=by rw[encK2];rfl
   have hbl:=encK_len hstep;refine WR.nextT H h10_0 G Ku (q00 G) G ?_;intro w H;refine ST (q0b G G) G (NL (TN (SQ (CT G (SK (TN (BL (SQ (RG (ST (q0b G G) G (q09 (v':=encR (rune (l.drop q)).1) (q0b G G) (congrArg encR hdr) (q00 G) G G (AS G G (AS G G (NL (TN (SQ (RG (ST (q03 Tu188 G Ts186 Dc G) G ?_))))))))))))))))));first|refine q02 (q08 H rfl (by assumption) Ta186) (q00 rfl) rfl rfl ?_|refine q02 (XL H Ta186) (q00 rfl) rfl rfl ?_
   refine MV G G (q1w (cap:=[]) H (encU_spec (rune (l.drop q)).1 Om Om) G G (trivial) (q00 G) G ?_);intro v39 M w H hle hr39;obtain⟨v39,rfl,hf39⟩:=hr39;refine MV G G (ST (q0b G G) G (ST (q0b G G) G (AS G G (AS G G (NL (TN (SQ (SQ (RG (MV G G (ST (q1t G) G (NL (TN (CF G (SK (TN (RG (MV G G (MV G G (q0J ty88 (fun _=>G) H G (fun _=>by repeat first|exact .head|apply Upd.tail) G (by assumption) (by first|omega|(simp only[l00,l02,l03,l05,l01];omega)) (by first|(simp only[maxLen];omega)|(simp only[maxLen,l00,l02,l03,l05,l01];omega)) (q00 G) G ?_))))))))))))))))))));intro v48 w H;refine AS G G (NL (IB ?_));refine q0W (q+(dr (l.drop q)).2) (v48) (o++(utf8 (rune (l.drop q)).1)) ⟨G,G,G,G,trivial⟩ ?_ ?_
   · refine⟨by rw[dr_size,l00];omega,?_,?_,M,H⟩
     · rw[dr_size,←l0n];exact hvn
     rw[hgo,hch,encGo_step o hstep,dr_size];simp only[l05,l01];rw[l0Z Om]
   rw[dr_size];omega
 have hres:encGo (encK 2) (chars l) 0 = .ok o:=by rw[hgo,l08 Om,chars_nil];simp [encGo,pre]
 refine WR.nextF H (l1B h10_0) G Km (q00 G) G ?_;refine ST (q0b G G) G (NL (TN (SQ (CF G (q0m (q06 (q06 (q0d (TN (SQ (RG (MV G G (q05 H (none_spec) G (trivial) (q00 G) G ?_)))))))))))));intro v50 M w H hle hr50;obtain rfl:=hr50;refine AS G G (q0c [_,_] H G G G Ku Ts27 G Kf Kf (q00 G) ?_);intro w H;refine NL (TN (RT ?_));obtain⟨M,hle,hf,H⟩:=H.freezeRow (v:=ov) (enc:=encB) (t:=5) Kv;refine q0y G G ⟨_,G,H.loadAgg Km Ta27 Ts27 Kf⟩ H.ext ?_;refine  ?_;rw[hres];exact⟨_,G,hf⟩
theorem encode_3 (name l:Ls)(hn:name.length≤maxLen)(hs:l.length≤12000)(hk:setOf name=some 3)(hv:vld l=true):Ct Tryz.prog 140 [S name,S l] (fun M=>Tabs M) (fun r M=>match encGo (encK 3) (chars l) 0 with | .ok b =>∃v,r = .tuple #[v,fault 0 0]∧Bs M v b | .error e=>r = .tuple #[.slice none 0 0,fault 17 (e:Int)]):=by
 refine Ct.of Tf140 (enters Tf140 Kr G) G G G ?_;intro w0 M0 H hp;refine SQ (RG (AS G G (q0j [_,_] H Tz27 G (q00 G) G ?_)));intro b5 w H;refine NL (TN (SQ (SQ (RG (MV G G (ST (q0g Tu9 G) G (q0V (q0E G G) Om (q00 G) G G ?_)))))));refine NL (TN (CF rfl (SK (TN (SQ (RG (MV rfl rfl (q05 H (q0C (find_spec name hn) (R':=fun r M =>∃b0 b1,CellM M ⟨b0,0,none⟩ (encR 128)∧CellM M ⟨b1,0,none⟩ (encR 256)∧r = .tuple #[.agg #[S [117,116,102,49,54,98,101], .func (.func 197) #[] #[], .func (.func 198) #[] #[]], .bool true]) (fun _ _ ⟨b0,b1,h0,h1,h⟩=>⟨b0,b1,h0,h1,by rw[hk] at h;exact h⟩)) rfl (trivial) (q00 rfl) rfl ?_))))))));intro v19 M w H hle hr19;replace hp:=hp.mono hle;obtain⟨b0,b1,hc0,hc1,rfl⟩:=hr19;refine MV G G (ST (q0b G G) G (ST (q0b G G) G (q0j [_,_,_] H Tz188 G (q00 G) G ?_)));intro b6 w H;refine q0c [_,_,_] H G G G Ku Ts188 G Kf Kf (q00 G) ?_;intro w H;refine AS G G (NL (TN (SQ (SQ (RG (MV G G (ST (q1t G) G (NL (TN (CF G (SK (TN (SQ (SQ (RG (MV G G (q05 H (q0C (validString_spec l Om) (R':=fun r _=>r = .bool true) (fun _ _ h=>by rw[hv] at h;exact h)) G (by assumption) (q00 G) G ?_)))))))))))))))));intro v26 M w H hle hr26;replace hp:=hp.mono hle;replace hc0:=hc0.mono hle;replace hc1:=hc1.mono hle;obtain rfl:=hr26;refine ST (q1t G) G (NL (TN (CF G (SK (TN (SQ (RG ?_)))))));replace H:=H.newRow 5 encB;refine AS G G (NL (TN (SQ (SQ (RG (MV G G (q2c H Tu9 G (q00 G) G ?_)))))));intro b30 w H;refine NL (TN (BL (q1O (fun(q:Nat) (ov:Value) (o:Ls)=>[(5,ptr b5 0),(6,ptr b6 0),(8,ov),(30,ptr b30 0)]) (fun(q:Nat) (ov:Value) (o:Ls) w=>(q≤l.length∧o.length≤4*q)∧vld (l.drop q)=true∧encGo (encK 3) (chars l) 0=pre o (encGo (encK 3) (chars (l.drop q)) q)∧∃M,St w0 M0 M [.blk b30 (.stringIter ⟨l.toArray⟩ q),RowI 5 encB ov o, .blk b6 (.cells #[S [117,116,102,49,54,98,101], .func (.func 197) #[] #[], .func (.func 198) #[] #[]] 188), .blk b5 (.cells #[I 0,I 0] 27)] w) (fun(q:Nat) (ov:Value) (o:Ls)=>l.length-q) (0) (_) (_) ⟨rfl,rfl,rfl,rfl,trivial⟩ (⟨by simp,hv,(pre_nil _).symm,M,H⟩) ?_)))
 intro q ov o w;rintro⟨hq,hvq,hgo,M,H⟩;refine SQ (RG ?_);by_cases h10_0:q<l.length
 · have hne:=drop_ne (t:=l) (n:=q) h10_0;have hrs:=rune_size (l.drop q);have hrs3:=hrs.2.2 hne;rw[l01] at hrs3;rw[vld_cons hne,l0j] at hvq;have hr0:=of_decide_eq_true hvq.1;have hvn:=hvq.2;have hrl:=rune_lt (l.drop q);have hdr:((dr (l.drop q)).1:Int)=(rune (l.drop q)).1:=by rw[dr_fix0,fix0_id hr0]
   have hch:chars (l.drop q)=((rune (l.drop q)).1,(l.drop q).take (rune (l.drop q)).2)::chars (l.drop (q+(rune (l.drop q)).2)):=by rw[chars_cons hne,l0n]
   have hstep:encK 3 (rune (l.drop q)).1=some (encWb (rune (l.drop q)).1):=by rw[encK3];rfl
   have hbl:=encK_len hstep;refine WR.nextT H h10_0 G Ku (q00 G) G ?_;intro w H;refine ST (q0b G G) G (NL (TN (SQ (CT G (SK (TN (BL (SQ (RG (ST (q0b G G) G (q09 (v':=encR (rune (l.drop q)).1) (q0b G G) (congrArg encR hdr) (q00 G) G G (AS G G (AS G G (NL (TN (SQ (RG (ST (q03 Tu188 G Ts186 Dc G) G ?_))))))))))))))))));first|refine q02 (q08 H rfl (by assumption) Ta186) (q00 rfl) rfl rfl ?_|refine q02 (XL H Ta186) (q00 rfl) rfl rfl ?_
   refine MV G G ?_;refine q1w (cap:=[]) H ((show Ct Tryz.prog 198 [encR (rune (l.drop q)).1] (fun _=>True) (fun r M =>∃v,r = .tuple #[v, .bool true]∧Bs M v (encWb (rune (l.drop q)).1)) by
    have h:=double_spec (rune (l.drop q)).1.toNat Om;rw[l0x hr0] at h;exact h)) G G (trivial) (q00 G) G ?_
   intro v39 M w H hle hr39;obtain⟨v39,rfl,hf39⟩:=hr39;refine MV G G (ST (q0b G G) G (ST (q0b G G) G (AS G G (AS G G (NL (TN (SQ (SQ (RG (MV G G (ST (q1t G) G (NL (TN (CF G (SK (TN (RG (MV G G (MV G G (q0J ty88 (fun _=>G) H G (fun _=>by repeat first|exact .head|apply Upd.tail) G (by assumption) (by first|omega|(simp only[l00,l02,l03,l05,l01];omega)) (by first|(simp only[maxLen];omega)|(simp only[maxLen,l00,l02,l03,l05,l01];omega)) (q00 G) G ?_))))))))))))))))))));intro v48 w H;refine AS G G (NL (IB ?_));refine q0W (q+(dr (l.drop q)).2) (v48) (o++(encWb (rune (l.drop q)).1)) ⟨G,G,G,G,trivial⟩ ?_ ?_
   · refine⟨by rw[dr_size,l00];omega,?_,?_,M,H⟩
     · rw[dr_size,←l0n];exact hvn
     rw[hgo,hch,encGo_step o hstep,dr_size];simp only[l05,l01];rw[l0Z Om]
   rw[dr_size];omega
 have hres:encGo (encK 3) (chars l) 0 = .ok o:=by rw[hgo,l08 Om,chars_nil];simp [encGo,pre]
 refine WR.nextF H (l1B h10_0) G Km (q00 G) G ?_;refine ST (q0b G G) G (NL (TN (SQ (CF G (q0m (q06 (q06 (q0d (TN (SQ (RG (MV G G (q05 H (none_spec) G (trivial) (q00 G) G ?_)))))))))))));intro v50 M w H hle hr50;obtain rfl:=hr50;refine AS G G (q0c [_,_] H G G G Ku Ts27 G Kf Kf (q00 G) ?_);intro w H;refine NL (TN (RT ?_));obtain⟨M,hle,hf,H⟩:=H.freezeRow (v:=ov) (enc:=encB) (t:=5) Kv;refine q0y G G ⟨_,G,H.loadAgg Km Ta27 Ts27 Kf⟩ H.ext ?_;refine  ?_;rw[hres];exact⟨_,G,hf⟩
end Go.Proofs.YtkmjdamkifbddaaGreatDoor
end
section
namespace Go.Proofs.YtkmjdamkifbddaaGreatDoor
open Go Go.RowKit Go.Ph
open Go.Ph.Gr Go.Ph.Utf Go.Ph.Chs
theorem flat_len (ns:List Int):(ns.flatMap utf8).length≤4*ns.length:=by
 induction ns with
 | nil=>simp
 | cons n ns ih =>
   have:=Y2E n;rw[l0o,l00,l02];omega
def bestN (l:Ls):Ls:=setN.getD (bestK l) []
theorem best_spec (l:Ls):Ct Tryz.prog 110 [S l] (fun _=>True) (fun r _=>r=S (bestN l)):=by
 refine Ct.of Tryz.func110 (enters Tryz.func110 Kr G) G G G ?_;intro w0 M0 H hp;refine SQ (RG (AS G G (NL (TN (SQ (RG (AS G G (NL (TN (SQ (SQ (RG (MV G G (q2c H Tu9 G (q00 G) G ?_))))))))))))));intro b7 w H;refine NL (TN (BL (q1I (fun(q:Nat) (seen:Bool)=>[(3,S (if seen then [108,97,116,105,110,49] else [97,115,99,105,105])),(7,ptr b7 0)]) (fun(q:Nat) (seen:Bool) w=>q≤l.length∧(chars l).any (fun c:Ch=>decide (255<fix0 c.1))=(chars (l.drop q)).any (fun c:Ch=>decide (255<fix0 c.1))∧(chars l).any (fun c:Ch=>decide (127<fix0 c.1))=(seen ||(chars (l.drop q)).any (fun c:Ch=>decide (127<fix0 c.1)))∧∃M,St w0 M0 M [.blk b7 (.stringIter ⟨l.toArray⟩ q)] w) (fun(q:Nat) (seen:Bool)=>l.length-q) (0) (false) ⟨rfl,rfl,trivial⟩ (⟨by omega,rfl,rfl,M0,H⟩) ?_)));intro q seen w;rintro⟨hq,h255,h127,M,H⟩;refine SQ (RG ?_);by_cases h3_0:q<l.length
 · have hne:=drop_ne (t:=l) (n:=q) h3_0;have hrs:=rune_size (l.drop q);have hrs3:=hrs.2.2 hne;rw[l01] at hrs3;have hch:chars (l.drop q)=((rune (l.drop q)).1,(l.drop q).take (rune (l.drop q)).2)::chars (l.drop (q+(rune (l.drop q)).2)):=by rw[chars_cons hne,l0n]
   refine WR.nextT H h3_0 G Ku (q00 G) G ?_;intro w H;refine ST (q0b G G) G (NL (TN (SQ (CT G (SK (TN (BL (SQ (RG (q09 (v':=encR (fix0 (rune (l.drop q)).1)) (q0b G G) (congrArg encR (dr_fix0 _)) (q00 G) G G (AS G G (NL (TN (BL (SQ (RG (MV G G ?_)))))))))))))))));refine q0a (q0E G G) (q00 G) G G (fun h5_1=>?_) (fun h5_1=>?_)
   · have hr:bestK l=2:=by unfold bestK;rw [h255,hch,l17,decide_eq_true Om];rfl
     refine AS G G (NL (TN (CT G (SQ (RG (AS G G (NL (TN (RT ?_)))))))));refine q07 G G H.ext ?_;exact by unfold bestN;rw [hr];rfl
   refine AS G G (NL (TN (CF G (SQ (RG (MV G G ?_))))));refine q0a (q0E G G) (q00 G) G G (fun h7_1=>?_) (fun h7_1=>?_)
   · refine AS G G (NL (TN (CT G (RG (AS G G (NL (IB (IB ?_))))))));refine q0S (q+(dr (l.drop q)).2) (true) ⟨G,G,trivial⟩ ?_ ?_
     · refine⟨by rw[dr_size];omega,?_,?_,M,H⟩
       · rw[h255,hch,dr_size,l17,decide_eq_false Om,l1h]
       rw[h127,hch,dr_size,l17,decide_eq_true Om];simp
     rw[dr_size];omega
   refine AS G G (NL (TN (CF G (SK (IB (IB ?_))))));refine q0S (q+(dr (l.drop q)).2) (seen) ⟨G,G,trivial⟩ ?_ ?_
   · refine⟨by rw[dr_size];omega,?_,?_,M,H⟩
     · rw[h255,hch,dr_size,l17,decide_eq_false Om,l1h]
     rw[h127,hch,dr_size,l17,decide_eq_false Om];simp
   rw[dr_size];omega
 have hr:bestK l=if seen then 1 else 0:=by
  unfold bestK;rw[h255,h127,l08 Om,chars_nil];simp
 refine WR.nextF H (l1B h3_0) G Km (q00 G) G ?_;refine ST (q0b G G) G (NL (TN (SQ (CF G (q0m (q06 (q06 (q0d (TN (SQ (RG (MV G G (AS G G (NL (TN (RT ?_))))))))))))))));refine q07 G G H.ext ?_;exact by unfold bestN;rw [hr];cases seen <;> rfl
end Go.Proofs.YtkmjdamkifbddaaGreatDoor
end
section
namespace Go.Proofs.YtkmjdamkifbddaaGreatDoor
open Go Go.RowKit Go.Ph
open Go.Ph.Gr Go.Ph.Utf Go.Ph.Chs
abbrev encPostP (k:Nat)(l:Ls)(r:Value)(M:Mem):Prop:=match encGo (encK k) (chars l) 0 with | .ok b =>∃v,r = .tuple #[v,fault 0 0]∧Bs M v b | .error e=>r = .tuple #[.slice none 0 0,fault 17 (e:Int)]
theorem encode_k (name l:Ls)(hn:name.length≤maxLen)(hs:l.length≤12000)(k:Nat)(hk:setOf name=some k)(hv:vld l=true):Ct Tryz.prog 140 [S name,S l] (fun M=>Tabs M) (fun r M=>encPostP k l r M):=by
 have h4:=setOf_lt hk;rcases k with _|_|_|_|k
 · exact encode_0 name l hn hs hk hv
 · exact encode_1 name l hn hs hk hv
 · exact encode_2 name l hn hs hk hv
 · exact encode_3 name l hn hs hk hv
 omega
theorem encode_ok {name l b:Ls}(hn:name.length≤maxLen)(hs:l.length≤12000){k:Nat}(hk:setOf name=some k)(hv:vld l=true)(h:encGo (encK k) (chars l) 0 = .ok b):Ct Tryz.prog 140 [S name,S l] (fun M=>Tabs M) (fun r M =>∃v,r = .tuple #[v,fault 0 0]∧Bs M v b) :=
 q0C (encode_k name l hn hs k hk hv) fun r M hr=>by unfold encPostP at hr;rw [h] at hr;exact hr
theorem encode_err {name l:Ls}{e:Nat}(hn:name.length≤maxLen)(hs:l.length≤12000){k:Nat}(hk:setOf name=some k)(hv:vld l=true)(h:encGo (encK k) (chars l) 0 = .error e):Ct Tryz.prog 140 [S name,S l] (fun M=>Tabs M) (fun r M=>r = .tuple #[.slice none 0 0,fault 17 (e:Int)]) :=
 q0C (encode_k name l hn hs k hk hv) fun r M hr=>by unfold encPostP at hr;rw [h] at hr;exact hr
theorem encode_mal (name l:Ls)(hn:name.length≤maxLen)(hs:l.length≤12000)(k:Nat)(hk:setOf name=some k)(hv:vld l=false):Ct Tryz.prog 140 [S name,S l] (fun M=>Tabs M) (fun r _=>r = .tuple #[.slice none 0 0,fault 5 (-3)]):=by
 have h4:=setOf_lt hk;rcases k with _|_|_|_|k
 · exact encode_mal0 name l hn hs hk hv
 · exact encode_mal1 name l hn hs hk hv
 · exact encode_mal2 name l hn hs hk hv
 · exact encode_mal3 name l hn hs hk hv
 omega
end Go.Proofs.YtkmjdamkifbddaaGreatDoor
end
section
namespace Go.Ph.B64
def alpha : Ls:=[65,66,67,68,69,70,71,72,73,74,75,76,77,78,79,80,81,82,83,84,85,86,87,88,89,90,97,98,99,100,101,102,103,104,105,106,107,108,109,110,111,112,113,114,115,116,117,118,119,120,121,122,48,49,50,51,52,53,54,55,56,57,43,47]
theorem alpha_len : alpha.length=64:=rfl
def idx (c:UInt8):Nat:=alpha.idxOf c
def val64 (c:UInt8):Int:=if idx c<64 then(idx c:Int) else -1
def bits8 (u:Nat):List Nat:=[u / 128 % 2,u / 64 % 2,u / 32 % 2,u / 16 % 2,u / 8 % 2,u / 4 % 2,u / 2 % 2,u / 1 % 2]
def bits6 (u:Nat):List Nat:=[u / 32 % 2,u / 16 % 2,u / 8 % 2,u / 4 % 2,u / 2 % 2,u / 1 % 2]
def bitsOf (l:Ls):List Nat:=l.flatMap fun u=>bits8 u.toNat
def sumN (l:List Nat):Nat:=l.foldl (fun n x=>2*n+x) 0
theorem bits8_len (u:Nat):(bits8 u).length=8:=rfl
theorem bitsOf_len (l:Ls):(bitsOf l).length=8*l.length:=by
 induction l with
 | nil=>rfl
 | cons u l ih=>simp only[bitsOf,l0o,l00,bits8_len,l02] at ih ⊢;omega
def padBits (l:Ls):List Nat:=bitsOf l++List.replicate ((6-8*l.length % 6) % 6) 0
def six (bits:List Nat)(q:Nat):Nat:=sumN ((bits.take (6*q+6)).drop (6*q))
def eight (bits:List Nat)(q:Nat):Nat:=sumN ((bits.take (8*q+8)).drop (8*q))
def sext (bits:List Nat):Nat→Ls
 | 0=>[]
 | q+1=>sext bits q++(alpha.take (six bits q+1)).drop (six bits q)
theorem alpha_one (k:Nat)(h:k<64):(alpha.take (k+1)).drop k=[alpha.getD k 0]:=by
 have hk:k<alpha.length:=by rw[alpha_len];exact h
 rw[l0m hk,l0V (by rw[l05,alpha_len];omega),l08 (by rw[l05];omega)];simp [List.getD,hk]
def chars64 (l:Ls):Ls :=
 let s:=sext (padBits l) ((padBits l).length / 6)
 s++List.replicate ((4-s.length % 4) % 4) 61
def wrapTo (cs:Ls):Nat→Ls
 | 0=>[]
 | m+1=>wrapTo cs m++(cs.drop (76*m)).take 76++[13,10]
def lines64 (cs:Ls):Ls:=wrapTo cs ((cs.length-1) / 76)++(if cs.drop (76*((cs.length-1) / 76))=[] then [] else cs.drop (76*((cs.length-1) / 76))++[13,10])
def vb (c:UInt8):List Nat:=if val64 c<0 then [] else bits6 (val64 c).toNat
def vbits (l:Ls):List Nat:=l.flatMap vb
def upto61 (l:Ls):Ls:=l.takeWhile (· != 61)
theorem upto61_eq (l:Ls)(k:Nat)(hb :∀j u,l[j]? = some u→j<k→u≠61)(he:l.length≤k∨l[k]? = some 61):upto61 l=l.take k:=by
 induction l generalizing k with
 | nil=>simp [upto61]
 | cons u l ih =>
   cases k with
   | zero =>
     have:u=61:=by simpa using he
     subst this;rfl
   | succ k =>
     have h1:u≠61:=hb 0 u rfl Om;have h2:=ih k (fun j v hj hk=>hb (j+1) v (by simpa using hj) Om) (by simpa using he);unfold upto61 at h2 ⊢;rw[l0w (by simpa using h1),h2];rfl
def octs (bits:List Nat):Nat→Ls
 | 0=>[]
 | q+1=>octs bits q++[UInt8.ofNat (eight bits q)]
def loose64 (l:Ls):Ls:=octs (vbits (upto61 l)) ((vbits (upto61 l)).length / 8)
def lstep (s:Ls × Nat × Nat)(c:UInt8):Ls × Nat × Nat :=
 if val64 c<0 then s
 else if s.2.2+6<8 then(s.1,s.2.1*64+idx c,s.2.2+6)
 else(s.1++[UInt8.ofNat ((s.2.1*64+idx c) / 2 ^ (s.2.2+6-8))],(s.2.1*64+idx c) % 2 ^ (s.2.2+6-8),s.2.2+6-8)
def lrun (l:Ls):Ls × Nat × Nat:=l.foldl lstep ([],0,0)
def lenient (l:Ls):Ls:=(lrun (upto61 l)).1
theorem lrun_next {l:Ls}{k:Nat}{u:UInt8}(hu:l[k]? = some u):lrun (l.take (k+1))=lstep (lrun (l.take k)) u:=by
 obtain⟨hk,rfl⟩:=List.getElem?_eq_some_iff.1 hu;rw[l0m hk,lrun,List.foldl_append];rfl
theorem val64_idx {c:UInt8}(h:0≤val64 c):val64 c=(idx c:Int)∧idx c<64:=by
 unfold val64 at h ⊢;split <;> rename_i hi
 · exact⟨G,hi⟩
 rw[if_neg hi] at h;omega
theorem lstep_inv (s:Ls × Nat × Nat)(c:UInt8)(h1:s.2.2≤6∧s.2.2 % 2=0)(h2:s.2.1<2 ^ s.2.2):((lstep s c).2.2≤6∧(lstep s c).2.2 % 2=0)∧(lstep s c).2.1<2 ^ (lstep s c).2.2:=by
 unfold lstep;by_cases hv:val64 c<0
 · rw[if_pos hv];exact ⟨h1,h2⟩
 rw[if_neg hv];have hi:=(val64_idx (c:=c) Om).2;by_cases hb:s.2.2+6<8
 · rw[if_pos hb];have h0:s.2.2=0:=by omega
   rw[h0] at h2 ⊢;exact⟨by simp,by simp at h2 ⊢;omega⟩
 rw[if_neg hb];exact⟨by simp only[];omega,l1Z _ (Nat.two_pow_pos _)⟩
theorem lrun_inv (l:Ls):((lrun l).2.2≤6∧(lrun l).2.2 % 2=0)∧(lrun l).2.1<2 ^ (lrun l).2.2:=by
 have key :∀(l:Ls) (s:Ls × Nat × Nat),((s.2.2≤6∧s.2.2 % 2=0)∧s.2.1<2 ^ s.2.2)→(((l.foldl lstep s).2.2≤6∧(l.foldl lstep s).2.2 % 2=0)∧(l.foldl lstep s).2.1<2 ^ (l.foldl lstep s).2.2):=by
  intro l;induction l with
  | nil=>exact fun s h=>h
  | cons c l ih=>exact fun s h=>ih _ (lstep_inv s c h.1 h.2)
 exact key l ([],0,0) Sm
theorem lrun_len (l:Ls):(lrun l).1.length≤l.length:=by
 have key :∀(l:Ls) (s:Ls × Nat × Nat),(l.foldl lstep s).1.length≤s.1.length+l.length:=by
  intro l;induction l with
  | nil=>intro s;simp
  | cons c l ih =>
    intro s;have h1:=ih (lstep s c);have h2:(lstep s c).1.length≤s.1.length+1:=by unfold lstep;split <;>(try split) <;> simp
    simp only[l0P,l02];omega
 have:=key l ([],0,0);simpa [lrun] using this
theorem or_six (x v:Nat)(hv:v<64):x*2 ^ 6 ||| v=x*64+v:=by
 have:=Nat.two_pow_add_eq_or_of_lt (i:=6) (b:=v) Om x;rw[l1O x,←this,l1O]
theorem and_mask (x s:Nat):x &&& (2 ^ s-1)=x % 2 ^ s:=l2a x s
theorem oct_lt (x v b:Nat)(h1:b≤6∧b % 2=0)(h2:x<2 ^ b)(hv:v<64)(hb:8≤b+6):(x*64+v) / 2 ^ (b+6-8)<256:=by
 obtain h|h|h:b=2∨b=4∨b=6:=by omega
 all_goals (subst h;simp at h2 ⊢;omega)
theorem getD_out {α:Type}(l:List α)(i:Nat)(d:α)(h:l.length≤i):l.getD i d=d:=by
 rw[l0y,List.getElem?_eq_none h];rfl
theorem getD_in {α:Type}(l:List α)(i:Nat)(d:α)(h:i<l.length):l.getD i d=l[i]:=by
 rw[l0y,List.getElem?_eq_getElem h];rfl
def accN (l:Ls):Nat→Nat
 | 0=>0
 | i+1=>accN l i*256+(l.getD i 0).toNat
theorem accN_out (l:Ls)(i:Nat)(h:l.length≤i):accN l i*256=accN l (i+1):=by
 rw[accN,getD_out _ _ _ h];simp
theorem accN_lt (l:Ls)(i:Nat):accN l i<256 ^ i:=by
 induction i with
 | zero=>simp [accN]
 | succ i ih =>
   have:=(l.getD i 0).toNat_lt;rw[accN,Nat.pow_succ];omega
def ch (l:Ls)(i:Nat):UInt8:=if min 3 l.length<i then 61 else alpha.getD (accN l 3 / 2 ^ (18-6*i) % 64) 0
def outp (l:Ls)(j:Nat):Ls:=(List.range 4).map fun i=>if i<j then ch l i else 0
theorem outp_set (l:Ls)(j:Nat)(hj:j<4):(outp l j).set j (ch l j)=outp l (j+1):=by
 match j,hj with
 | 0,_=>rfl
 | 1,_=>rfl
 | 2,_=>rfl
 | 3,_=>rfl
def grpAt (l:Ls)(k:Nat):Ls:=outp (l.drop (3*k)) 4
def grpsTo (l:Ls)(k:Nat):List Ls:=(List.range k).map (grpAt l)
def grps (l:Ls):List Ls:=grpsTo l ((l.length+2) / 3)
theorem grpsTo_next (l:Ls)(k:Nat):grpsTo l (k+1)=grpsTo l k++[grpAt l k]:=by
 simp [grpsTo,l2i]
theorem grpsTo_ini (l:Ls)(k:Nat)(h:3*k<l.length):(grpsTo l k++[grpAt l k]) <+: grps l:=by
 rw[←grpsTo_next];refine⟨((List.range' (k+1) ((l.length+2) / 3-(k+1))).map (grpAt l)),?_⟩;unfold grps grpsTo;rw[←l1j];have h1:List.range (k+1)++List.range' (k+1) ((l.length+2) / 3-(k+1))=List.range ((l.length+2) / 3):=by
  have h2:=List.range'_append_1 (s:=0) (m:=k+1) (n:=(l.length+2) / 3-(k+1));rw[l0s] at h2;rw[l2z,l2z,h2];congr 1;omega
 rw[h1]
theorem drop_next (l:Ls)(k n:Nat)(hn:n=min 3 (l.drop (3*k)).length):(l.drop (3*k)).drop n=l.drop (3*(k+1)):=by
 rw[l0n];simp only[l01] at hn;by_cases h:3≤l.length-3*k
 · rw[show 3*k+n=3*(k+1) by omega]
 rw[l08 Om,l08 Om]
theorem or_eight (x:Nat)(v:UInt8):x*2 ^ 8 ||| v.toNat=x*256+v.toNat:=by
 have:=Nat.two_pow_add_eq_or_of_lt (i:=8) (b:=v.toNat) (by have:=v.toNat_lt;omega) x;rw[l1O x,←this,l1O]
def encStep (s:Ls × Nat)(g:Ls):Ls × Nat:=if s.2=76 then(s.1++[13,10]++g,4) else(s.1++g,s.2+4)
def encRun (gs:List Ls):Ls × Nat:=gs.foldl encStep ([],0)
def encode (l:Ls):Ls:=if 0<(encRun (grps l)).2 then(encRun (grps l)).1++[13,10] else(encRun (grps l)).1
theorem encRun_next (gs:List Ls)(g:Ls):encRun (gs++[g])=encStep (encRun gs) g:=by simp [encRun]
theorem grps_len (l:Ls):(grps l).length=(l.length+2) / 3:=by simp [grps,grpsTo]
theorem ini_len {l x:Ls}{pre:List Ls}(h:(pre++[x]) <+: grps l):x.length=4∧(∀g∈pre,g.length=4)∧pre.length+1≤(l.length+2) / 3:=by
 refine⟨?_,fun g hg=>?_,?_⟩
 · obtain⟨k,_,rfl⟩:=List.mem_map.1 (h.subset (l1F _ (List.mem_singleton.2 rfl)));rfl
 · obtain⟨k,_,rfl⟩:=List.mem_map.1 (h.subset (l1v _ hg));rfl
 have:=h.length_le;rw[grps_len] at this;simpa using this
theorem grps_all (l:Ls):∀g∈grps l,g.length=4:=fun g hg=>by
 obtain⟨k,_,rfl⟩:=List.mem_map.1 hg;rfl
theorem encRun_inv (gs:List Ls)(h :∀g∈gs,g.length=4):(encRun gs).1.length≤6*gs.length∧(encRun gs).2≤76∧(encRun gs).2 % 4=0:=by
 have key :∀(gs:List Ls) (s:Ls × Nat),(∀g∈gs,g.length=4)→s.2≤76→s.2 % 4=0→(gs.foldl encStep s).1.length≤s.1.length+6*gs.length∧(gs.foldl encStep s).2≤76∧(gs.foldl encStep s).2 % 4=0:=by
  intro gs;induction gs with
  | nil=>intro s _ h1 h2;exact ⟨by simp,h1,h2⟩
  | cons g gs ih =>
    intro s hg h1 h2;have hg4:g.length=4:=hg g l0D;have h3:(encStep s g).1.length≤s.1.length+6∧(encStep s g).2≤76∧(encStep s g).2 % 4=0:=by
     unfold encStep;split
     · simp [hg4]
     simp [hg4];omega
    have:=ih (encStep s g) (fun x hx=>hg x (l0t _ hx)) h3.2.1 h3.2.2;simp only[l0P,l02];omega
 have:=key gs ([],0) h Sm Sm;simpa [encRun] using this
end Go.Ph.B64
end
section
namespace Go.Proofs.YtkmjdamkifbddaaGreatDoor
open Go Go.RowKit Go.Ph
open Go.Ph.B64
theorem b_eq {a c:UInt8}:((a.toNat:Int)=(c.toNat:Int))↔a=c:=by rw[Int.ofNat_inj,UInt8.toNat_inj]
theorem ub_nat (n:Nat)(h:n<256):ub (n:Int)=UInt8.ofNat n:=by unfold ub;congr 1;omega
end Go.Proofs.YtkmjdamkifbddaaGreatDoor
end
section
namespace Go.Proofs.YtkmjdamkifbddaaGreatDoor
open Go Go.RowKit Go.Ph
theorem bytesOf_natsB (l:Ls):Lib.bytesOf (l.map fun u=>(u.toNat:Int))=l:=by
 unfold Lib.bytesOf;rw[l1z]
 conv=>rhs;rw [←List.map_id l]
 apply l1y;intro u _;simp
theorem indexByte_idx (l:Ls)(c:UInt8):Lib.indexByte l c=if l.idxOf c<l.length then(l.idxOf c:Int) else -1:=by
 induction l with
 | nil=>simp [Lib.indexByte]
 | cons b l ih =>
   simp only[Lib.indexByte,List.idxOf_cons,l02];by_cases h:b=c
   · subst h;simp
   have h':(b == c)=false:=by simpa using h
   rw[h',ih];simp only[l0h,if_false,cond_false];by_cases hl:l.idxOf c<l.length
   · have h1:l.idxOf c+1<l.length+1:=by omega
     have h2 :¬(((l.idxOf c:Int) == -1)=true):=by simp only[beq_iff_eq];omega
     simp only[hl,h1,if_true,h2,if_false,l0h];omega
   have h1 :¬(l.idxOf c+1<l.length+1):=by omega
   simp only[hl,h1,if_false];rfl
theorem indexByte_alpha (c:UInt8):Lib.indexByte B64.alpha c=B64.val64 c:=by
 rw[indexByte_idx,B64.alpha_len];rfl
theorem indexByte_spec (b:Value)(l:Ls)(c:UInt8):Ct Tryz.prog 226 [b,encB c] (fun M=>Bs M b l) (fun r _=>r=I (Lib.indexByte l c)):=by
 refine⟨enters Tryz.func226 Kr G,fun w M ha hp=>?_⟩;obtain⟨A,cp,rfl,hc,hn⟩:=hp.cells ha;have hcv:((c.toNat:Int)).toNat.toUInt8=c:=by simp
 cases A with
 | none =>
   obtain⟨rfl,rfl⟩:=hn rfl;exact(Tryz.bytes_IndexByte_nil (c.toNat:Int) w).mono fun e w' ⟨he,hw⟩=>⟨_,M,he,by subst hw;exact q2d ha,rfl⟩
 | some ad =>
   refine(Tryz.bytes_IndexByte_at ad l.length cp (l.map fun u=>(u.toNat:Int)) (c.toNat:Int) w Sm (fun i hi=>?_)).mono fun e w' ⟨he,hw⟩=>⟨_,M,he,by subst hw;exact q2d ha,?_⟩
   · have:=hc ad rfl i (encB l[i]) (by simp [hi]);rw[this];simp [hi]
   rw[bytesOf_natsB,hcv]
open Go.Ph.B64
theorem next61 {l:Ls}{k:Nat}{u:UInt8}(hb :∀j u,l[j]? = some u→j<k→u≠61)(hu:l[k]? = some u)(h :¬((u.toNat:Int)=61)):∀j u,l[j]? = some u→j<k+1→u≠61:=by
 intro j x hj hjk;rcases l0S j k with h1|h1
 · exact hb j x hj h1
 obtain rfl:j=k:=by omega
 rw[hu] at hj;cases hj;exact fun e=>h (by rw[e];rfl)
theorem lenient_spec (bv:Value)(l:Ls)(hs:l.length≤24000):Ct Tryz.prog 209 [bv] (fun M=>Bs M bv l) (fun r M =>∃v,r = .tuple #[v,fault 0 0]∧Bs M v (lenient l)):=by
 refine Ct.of Tryz.func209 (enters Tryz.func209 Kr G) G G G ?_;intro w0 M0 H hp;refine SQ (RG (AS G G (q0j [_,_] H Tz27 G (q00 G) G ?_)));intro b3 w H;refine NL (TN (SQ (SQ (RG (MV G G ?_)))));first|refine q02 (q0D Tu88 (by assumption) rfl) (q00 rfl) rfl rfl ?_|refine q02 (q0M Tu88 H Km rfl) (q00 rfl) rfl rfl ?_|refine q02 (q0G Tu88 rfl) (q00 rfl) rfl rfl ?_
 refine q0V (q0E G G) Om (q00 G) G G ?_;refine NL (TN (CF G (SK (TN (SQ (RG (AS G G (NL (TN (SQ (RG (AS G G (AS G G (NL (TN ?_)))))))))))))));refine WC.cut1 (fun(v:Value)=>[(3,ptr b3 0),(4,v)]) (fun(v:Value) w =>∃M,St w0 M0 M [RowI 5 encB v (lenient l), .blk b3 (.cells #[I 0,I 0] 27)] w) ?_ ?_
 · refine SQ (RG (MV G G ?_));first|refine q02 (q0D Tu88 (by assumption) rfl) (q00 rfl) rfl rfl ?_|refine q02 (q0M Tu88 H Km rfl) (q00 rfl) rfl rfl ?_|refine q02 (q0G Tu88 rfl) (q00 rfl) rfl rfl ?_
   refine MV G G (NL (TN (BL ?_)));replace H:=H.newRow 5 encB;refine WC.loop5 (fun(k:Nat) (v:Value) (o:Ls) (x:Nat) (b:Nat)=>[(3,ptr b3 0),(4,v),(5,encN x),(6,encN b),(14,bv),(15,I (l.length:Int)),(16,I (k:Int))]) (fun(k:Nat) (v:Value) (o:Ls) (x:Nat) (b:Nat) w=>k≤l.length∧(∀j u,l[j]? = some u→j<k→u≠61)∧lrun (l.take k)=(o,x,b)∧∃M,St w0 M0 M [RowI 5 encB v o, .blk b3 (.cells #[I 0,I 0] 27)] w) (fun(k:Nat) (v:Value) (o:Ls) (x:Nat) (b:Nat)=>l.length-k) (0) (_) (_) (0) (0) ⟨rfl,rfl,rfl,rfl,rfl,rfl,rfl,trivial⟩ (⟨by omega,fun _ _ _ h=>absurd h Om,rfl,M0,H⟩) ?_;intro k v o x b w;rintro⟨hk,hb61,hst,M,H⟩;have hb:=hp.mono H.ext.le;have hi:=lrun_inv (l.take k);have hl2:=lrun_len (l.take k);have hl3:(l.take k).length≤l.length:=l2B _ _;rw[hst] at hi hl2;simp only[] at hi hl2;have hx2:2 ^ b≤2 ^ 6:=l1e Dc hi.1.1;refine SQ (RG ?_);refine q0a (q0n G G) (q00 G) G G (fun h6_0=>?_) (fun h6_0=>?_)
   · obtain⟨u,hu⟩ :∃u,l[k]? = some u:=⟨_,List.getElem?_eq_getElem Om⟩
     refine NL (TN (SQ (CT G (SK (TN (SQ (BL (SQ (RG (q1k Tu88 Ts5 (by assumption) G G (hu) (q00 G) G ?_))))))))));intro p18 hc18;first|refine q02 (q08 H rfl (by assumption) Ta5) (q00 rfl) rfl rfl ?_|refine q02 (XL H Ta5) (q00 rfl) rfl rfl ?_
     refine AS G G (NL (TN (SQ (SQ (RG (MV G G ?_))))));refine q0a (q0e G G) (q00 G) G G (fun h8_1=>?_) (fun h8_1=>?_)
     · refine NL (TN (CT G (q0m (q06 (q2p G (q06 (q06 (q0d (q2a (v) ⟨G,G,trivial⟩ ?_)))))))));refine⟨M,?_⟩;have hlen:lenient l=o:=by rw[lenient,upto61_eq l k hb61 (.inr (by rw[hu];congr 1;exact b_eq.1 h8_1)),hst]
       rw[hlen];exact H
     refine NL (TN (CF G (SK (TN (SQ (RG (WR.litC ty88 Tu5 alpha H G Kf G G (q00 G) G (fun _=>q00 G) G ?_)))))));intro v23 M w H hle hl23;replace hb:=hb.mono hle;replace hc18:=hc18.mono hle;refine MV G G (q05 H (indexByte_spec _ alpha _) G (by assumption) (q00 G) G ?_);intro v25 M w H hle hr25;replace hb:=hb.mono hle;replace hc18:=hc18.mono hle;replace hl23:=hl23.mono hle;obtain rfl:=hr25;rw[indexByte_alpha];refine AS G G (NL (TN (SQ (SQ (RG (MV G G ?_))))));refine q0a (q0n G G) (q00 G) G G (fun h10_1=>?_) (fun h10_1=>?_)
     · refine NL (TN (CT G (q0m (q06 (q0d (TN (RG (ST (q0f G G Om) G ?_))))))));refine MV G G (NL ?_);refine q1G (k+1) (v) (o) (x) (b) ⟨G,G,G,G,G,G,G,trivial⟩ ?_ ?_
       · exact⟨by omega,next61 hb61 hu h8_1,by rw[lrun_next hu,hst,lstep,if_pos h10_1],M,H⟩
       omega
     have hix:=val64_idx (c:=u) Om;refine NL (TN (CF G (SK (TN (SQ (RG (MV G G (ST (Ex.shlN (m:=x) (s:=6) G G (by first|(show _≤64;omega)|(show _≤8;omega)|decide) (by first|omega|(simp;omega))) G ?_))))))));refine q09 (v':=encN (idx u)) (q01 G) (congrArg I hix.1) (q00 G) G G (q09 (v':=encN (x*64+idx u)) (Ex.orN (m:=_) (s:=_) G G Om Om) (congrArg encN (or_six x (idx u) hix.2)) (q00 G) G G ?_);refine MV G G (q09 (v':=encN (b+6)) (q0f G G Om) G (q00 G) G G ?_);refine AS G G (AS G G (NL (TN (SQ (RG (MV G G ?_))))));refine q0a (q1a G G) (q00 G) G G (fun h12_1=>?_) (fun h12_1=>?_)
     · refine NL (TN (CT G (SQ (RG (MV G G (q09 (v':=encN (b+6-8)) (q1l G G Om) (congrArg I Om) (q00 G) G G ?_))))));refine AS G G (NL (TN (SQ (RG (MV G G (MV G G (MV G G (ST (Ex.shrN (m:=_) (s:=_) G G (by first|(show _≤64;omega)|(show _≤8;omega)|decide)) G ?_))))))));refine q09 (v':=encB (UInt8.ofNat ((x*64+idx u) / 2 ^ (b+6-8)))) (q1b Tu3 Tu5 G) (congrArg encB (ub_nat _ (oct_lt x (idx u) b hi.1 hi.2 hix.2 Om))) (q00 G) G G ?_;refine q0F (enc:=encB) ty88 [_] H G Kf (fun _=>G) G G (q00 G) G ?_;intro v43 M w H hle hl43;replace hb:=hb.mono hle;replace hc18:=hc18.mono hle;replace hl23:=hl23.mono hle;refine q0J ty88 (fun _=>G) H G (fun _=>by repeat first|exact .head|apply Upd.tail) G (by assumption) (by first|omega|(simp only[l00,l02,l03,l05,l01];omega)) (by first|(simp only[maxLen];omega)|(simp only[maxLen,l00,l02,l03,l05,l01];omega)) (q00 G) G ?_;intro v44 w H;refine AS G G (NL (TN (RG (MV G G (MV G G ?_)))));obtain⟨P2,hP2⟩ :∃P2,P2=2 ^ (b+6-8):=⟨_,rfl⟩
       have hp2:P2≤16:=by rw[hP2];exact l1e (n:=2) (j:=4) Dc Om
       have hp3:0<P2:=by rw[hP2];exact Nat.two_pow_pos _
       refine q09 (v':=encN P2) (Ex.shlN (m:=1) (s:=b+6-8) G G (by first|(show _≤64;omega)|(show _≤8;omega)|decide) (by first|omega|(simp;omega))) (congrArg encN (by rw[hP2,Nat.one_mul])) (q00 G) G G ?_;refine q09 (v':=encN (P2-1)) (q1l G G Om) (congrArg I Om) (q00 G) G G ?_;refine q09 (v':=encN ((x*64+idx u) % 2 ^ (b+6-8))) (Ex.andN (m:=_) (s:=_) G G Om Om) (congrArg encN (by rw[hP2];exact and_mask _ _)) (q00 G) G G ?_;refine AS G G (NL (IB (TN (RG (ST (q0f G G Om) G ?_)))));refine MV G G (NL ?_);refine q1G (k+1) (v44) (o++[UInt8.ofNat ((x*64+idx u) / 2 ^ (b+6-8))]) (_) (_) ⟨G,G,G,G,G,G,G,trivial⟩ ?_ ?_
       · exact⟨by omega,next61 hb61 hu h8_1,by rw[lrun_next hu,hst,lstep,if_neg h10_1,if_neg (by simp only[];omega)],M,H⟩
       omega
     refine NL (TN (CF G (SK (IB (TN (RG (ST (q0f G G Om) G ?_)))))));refine MV G G (NL ?_);refine q1G (k+1) (v) (o) (_) (_) ⟨G,G,G,G,G,G,G,trivial⟩ ?_ ?_
     · exact⟨by omega,next61 hb61 hu h8_1,by rw[lrun_next hu,hst,lstep,if_neg h10_1,if_pos (by simp only[];omega)],M,H⟩
     omega
   refine NL (TN (SQ (CF G (q0m (q06 (q06 (q0d (q2a (v) ⟨G,G,trivial⟩ ?_))))))));refine⟨M,?_⟩;have hlen:lenient l=o:=by rw[lenient,upto61_eq l k hb61 (.inl Om),hst]
   rw[hlen];exact H
 intro v w;rintro⟨M,H⟩;refine SQ (RG (MV G G (q05 H (none_spec) G (trivial) (q00 G) G ?_)));intro v52 M w H hle hr52;obtain rfl:=hr52;refine AS G G (q0c [_,_] H G G G Ku Ts27 G Kf Kf (q00 G) ?_);intro w H;refine NL (TN (RT ?_));obtain⟨M,hle,hf,H⟩:=H.freezeRow (v:=v) (enc:=encB) (t:=5) Kv;refine q0y G G ⟨_,G,H.loadAgg Km Ta27 Ts27 Kf⟩ H.ext ?_;exact⟨_,G,hf⟩
end Go.Proofs.YtkmjdamkifbddaaGreatDoor
end
section
namespace Go.Proofs.YtkmjdamkifbddaaGreatDoor
open Go Go.RowKit Go.Ph
open Go.Ph.B64
abbrev encG (x:Ls):Value := .agg (x.map encB).toArray
theorem groups_iter (bb:Nat)(v0:Value)(l:Ls)(hs:l.length≤1000000):IterCt Tryz.prog 217 [ptr bb 0] [.blk bb (.cells #[v0] 88)] (fun M=>Bs M v0 l) encG (grps l):=by
 refine⟨enters Tryz.func217 Kr G,fun lid Z Zx hZ hY L0 w0 M0 hz H hp=>calls_of_WC Tryz.func217 G G G ?_⟩;generalize hC:feet ([.blk bb (.cells #[v0] 88)]++L0)=C at H ⊢;simp only[l04,l07] at H;refine BL (q1O (fun(k:Nat) (v:Value) (Lc:List Ph.Item)=>[(0,yv lid),(1,ptr bb 0)]) (fun(k:Nat) (v:Value) (Lc:List Ph.Item) w=>k≤(l.length+2) / 3∧∃M,StX C w0 M0 M (.blk bb (.cells #[v] 88)::Lc) w∧Bs M v (l.drop (3*k))∧Z (grpsTo l k) Lc M) (fun(k:Nat) (v:Value) (Lc:List Ph.Item)=>l.length+2-3*k) (0) (_) (_) ⟨rfl,rfl,trivial⟩ (⟨by omega,M0,H,hp,hz⟩) ?_);intro k v Lc w;rintro⟨hk,M,H,hb,hzc⟩;have hlen:(l.drop (3*k)).length=l.length-3*k:=l01;refine SQ (SQ (RG ?_));first|refine q02 (q08 H rfl (by assumption) Ta88) (q00 rfl) rfl rfl ?_|refine q02 (XL H Ta88) (q00 rfl) rfl rfl ?_
 first|refine q02 (q0D Tu88 (by assumption) rfl) (q00 rfl) rfl rfl ?_|refine q02 (q0M Tu88 H Km rfl) (q00 rfl) rfl rfl ?_|refine q02 (q0G Tu88 rfl) (q00 rfl) rfl rfl ?_
 refine q0a (q0E G G) (q00 G) G G (fun h0_2=>?_) (fun h0_2=>?_)
 · refine NL (TN (CT G (SK (TN (BL (SQ (RG ?_)))))));first|refine q02 (q08 H rfl (by assumption) Ta88) (q00 rfl) rfl rfl ?_|refine q02 (XL H Ta88) (q00 rfl) rfl rfl ?_
   first|refine q02 (q0D Tu88 (by assumption) rfl) (q00 rfl) rfl rfl ?_|refine q02 (q0M Tu88 H Km rfl) (q00 rfl) rfl rfl ?_|refine q02 (q0G Tu88 rfl) (q00 rfl) rfl rfl ?_
   refine q09 (v':=encN (min 3 (l.drop (3*k)).length)) (Ex.min2 G G) (congrArg I Om) (q00 G) G G ?_;refine AS G G (NL (TN (SQ (RG (AS G G (NL (TN (SQ (SQ (RG (MV G G (NL (TN (BL (q1W (fun(i:Nat)=>[(0,yv lid),(1,ptr bb 0),(3,encN (min 3 (l.drop (3*k)).length)),(4,encN (accN (l.drop (3*k)) i)),(14,I (i:Int))]) (fun(i:Nat) w=>i≤3∧StX C w0 M0 M (.blk bb (.cells #[v] 88)::Lc) w) (fun(i:Nat)=>3-i) (0) ⟨G,G,G,G,G,trivial⟩ (⟨by omega,H⟩) ?_)))))))))))))));intro i w;rintro⟨hi,H⟩;have hac:=accN_lt (l.drop (3*k)) i;have hac2:256 ^ i≤256 ^ 3:=l1e Dc hi;refine SQ (RG ?_);refine q0a (q0n G G) (q00 G) G G (fun h4_0=>?_) (fun h4_0=>?_)
   · refine NL (TN (SQ (CT G (SK (TN (SQ (BL (SQ (RG (MV G G (AS G G (NL (TN (SQ (RG (MV G G (q09 (v':=encN (accN (l.drop (3*k)) i*256)) (Ex.shlN (m:=accN (l.drop (3*k)) i) (s:=8) G G (by first|(show _≤64;omega)|(show _≤8;omega)|decide) (by first|omega|(simp;omega))) G (q00 G) G G ?_)))))))))))))))));refine AS G G (NL (TN (SQ (RG (MV G G (MV G G ?_))))));refine q0a (q0n G G) (q00 G) G G (fun h7_2=>?_) (fun h7_2=>?_)
     · obtain⟨u,hu⟩ :∃u,(l.drop (3*k))[i]? = some u:=⟨_,List.getElem?_eq_getElem Om⟩
       have hult:=u.toNat_lt;refine NL (TN (CT G (RG (MV G G ?_))));first|refine q02 (q08 H rfl (by assumption) Ta88) (q00 rfl) rfl rfl ?_|refine q02 (XL H Ta88) (q00 rfl) rfl rfl ?_
       refine MV G G (q1k Tu88 Ts5 (by assumption) G G (hu) (q00 G) G ?_);intro p25 hc25;first|refine q02 (q08 H rfl (by assumption) Ta5) (q00 rfl) rfl rfl ?_|refine q02 (XL H Ta5) (q00 rfl) rfl rfl ?_
       first|refine q02 (q1m Tu5 Tu3 rfl) (q00 rfl) rfl rfl ?_|refine q02 (q1H Tu5 Tu3 rfl Om) (q00 rfl) rfl rfl ?_
       refine q09 (v':=encN (accN (l.drop (3*k)) (i+1))) (Ex.orN (m:=accN (l.drop (3*k)) i*256) (s:=u.toNat) G G Om Om) (congrArg encN (by rw[show accN (l.drop (3*k)) i*256=accN (l.drop (3*k)) i*2 ^ 8 from G,or_eight,accN];simp [l0y,hu])) (q00 G) G G ?_;refine AS G G (NL (IB (TN (RG (ST (q0f G G Om) G ?_)))));refine MV G G (NL ?_);refine q1j (i+1) ⟨G,G,G,G,G,trivial⟩ ?_ ?_
       · exact⟨by omega,H⟩
       omega
     refine NL (TN (CF G (SK (IB (TN (RG (ST (q0f G G Om) G ?_)))))));refine MV G G (NL ?_);refine q1j (i+1) ⟨G,G,G,(congrArg (fun x=>some (encN x)) (accN_out _ _ Om)),G,trivial⟩ ?_ ?_
     · exact⟨by omega,H⟩
     omega
   refine NL (TN (SQ (CF G (q0m (q06 (q06 (q0d (TN (SQ (RG (q0j [_,_,_,_] H Tryz.zeroValue218 G (q00 G) G ?_)))))))))));intro b6 w H;refine NL (TN (SQ (SQ (RG (MV G G (NL (TN (BL ?_))))))));obtain rfl:i=3:=by omega
   refine q1W (fun(j:Nat)=>[(0,yv lid),(1,ptr bb 0),(3,encN (min 3 (l.drop (3*k)).length)),(4,encN (accN (l.drop (3*k)) 3)),(6,ptr b6 0),(30,I (j:Int))]) (fun(j:Nat) w=>j≤4∧StX C w0 M0 M (.blk b6 (.cells ((outp (l.drop (3*k)) j).map encB).toArray 218) :: .blk bb (.cells #[v] 88)::Lc) w) (fun(j:Nat)=>4-j) (0) ⟨G,G,G,G,G,G,trivial⟩ (⟨by omega,H⟩) ?_;intro j w;rintro⟨hj,H⟩;have hac:=accN_lt (l.drop (3*k)) 3;have hol:(outp (l.drop (3*k)) j).length=4:=rfl;refine SQ (RG ?_);refine q0a (q0n G G) (q00 G) G G (fun h12_0=>?_) (fun h12_0=>?_)
   · refine NL (TN (SQ (CT G (SK (TN (SQ (BL (SQ (RG (MV G G (AS G G (NL (TN (SQ (RG (MV G G (MV G G (MV G G (ST (q1K G G Om) G ?_)))))))))))))))))));refine q09 (v':=I ((18-6*j:Nat):Int)) (q1l G G Om) (congrArg I Om) (q00 G) G G ?_;refine ST (Ex.shrN (m:=_) (s:=_) G G (by first|(show _≤64;omega)|(show _≤8;omega)|decide)) G ?_;have hdv:accN (l.drop (3*k)) 3 / 2 ^ (18-6*j)≤accN (l.drop (3*k)) 3:=Nat.div_le_self _ _;refine q09 (v':=encN (accN (l.drop (3*k)) 3 / 2 ^ (18-6*j) % 64)) (Ex.andN (m:=_) (s:=63) G G Om Om) (congrArg encN (l2a _ 6)) (q00 G) G G ?_;refine q09 (v':=encB (alpha.getD (accN (l.drop (3*k)) 3 / 2 ^ (18-6*j) % 64) 0)) (q1d (l:=alpha) Tu9 G G (List.getElem?_eq_getElem (by rw[alpha_len];omega))) (congrArg encB (by rw[getD_in _ _ _ (by rw[alpha_len];omega)])) (q00 G) G G ?_;refine ST (q1Z Tu218 Ts5 G G Om) G ?_;refine q1y (((outp (l.drop (3*k)) j).set j (alpha.getD (accN (l.drop (3*k)) 3 / 2 ^ (18-6*j) % 64) 0)).map encB) H G G Ku (by simp [l2u]) Ts5 (by simp [hol];omega) G G (q00 G) ?_;intro w H;refine NL (TN (SQ (RG (MV G G (MV G G ?_)))));refine q0a (q0E G G) (q00 G) G G (fun h15_2=>?_) (fun h15_2=>?_)
     · refine NL (TN (CT G (RG (MV G G (ST (q1Z Tu218 Ts5 G G Om) G ?_)))));refine q1y (((outp (l.drop (3*k)) j).set j 61).map encB) H G G Ku (by simp [l2u];rfl) Ts5 (by simp [hol];omega) G G (q00 G) ?_;intro w H;refine NL (IB (TN (RG (ST (q0f G G Om) G ?_))));refine MV G G (NL ?_);refine q1j (j+1) ⟨G,G,G,G,G,G,trivial⟩ ?_ ?_
       · refine⟨by omega,?_⟩;rw[←outp_set _ _ Om,ch,if_pos Om];exact H
       omega
     refine NL (TN (CF G (SK (IB (TN (RG (ST (q0f G G Om) G ?_)))))));refine MV G G (NL ?_);refine q1j (j+1) ⟨G,G,G,G,G,G,trivial⟩ ?_ ?_
     · refine⟨by omega,?_⟩;rw[←outp_set _ _ Om,ch,if_neg Om];exact H
     omega
   refine NL (TN (SQ (CF G (q0m (q06 (q06 (q0d (TN (SQ (SQ (RG (MV G G ?_))))))))))));first|refine q02 (q0w H rfl Km Tryz.isAgg218 Tryz.sizeOf218 Kf) (q00 rfl) rfl rfl ?_|refine q02 (q1i H rfl (by assumption) Tryz.isAgg218 Tryz.sizeOf218 Kf) (q00 rfl) rfl rfl ?_
   obtain rfl:j=4:=by omega
   have hpre:(grpsTo l k++[outp (l.drop (3*k)) 4]) <+: grps l:=grpsTo_ini l k Om;refine WR.yield (hY _ _ _ _ _ hpre hzc (H.hand (.right (.right (q1S _))))) G G (q00 G) G ?_;rintro en w ⟨M,Lc,Hs,hcase⟩;replace H:=(H.back (.right (.right (q1S _))) Hs).perm l2t;simp only[l04,l07] at H;replace hb:=hb.mono Hs.ext.le;rcases hcase with ⟨rfl,hzc⟩|⟨rfl,hzc⟩
   · refine⟨true,G,?_⟩;refine ST (q1t G) G (NL (TN (CF G (SK (TN (RG ?_))))));first|refine q02 (q08 H rfl (by assumption) Ta88) (q00 rfl) rfl rfl ?_|refine q02 (XL H Ta88) (q00 rfl) rfl rfl ?_
     refine MV G G (WR.sliceSl (i:=min 3 (l.drop (3*k)).length) (j:=(l.drop (3*k)).length) Tu88 Ts5 (by assumption) G (.inl ⟨_,G,G⟩) (.inr ⟨G,G⟩) Om Om (q00 G) G ?_);intro v54 hs54;refine q0Q [_] H G G (by first|exact q1u _ _ _|exact Sl.one (by assumption)|exact q1P H Km) Ku Kf Ts88 (by first|decide|(simp;done)|(simp;omega)) (q00 G) ?_;intro w H;refine NL (IB ?_);refine q0W (k+1) (v54) (Lc) ⟨G,G,trivial⟩ ?_ ?_
     · refine⟨by omega,M,H.drop (l0v _ _),?_,?_⟩
       · have:=drop_next l k (min 3 (l.drop (3*k)).length) rfl;rw[l0q (l0e _),this] at hs54;exact hs54
       rw[grpsTo_next];exact hzc
     omega
   refine⟨false,G,?_⟩;refine ST (q1Y G) G (NL (TN (CT G (RT ?_))));refine WQ.ret0X G ?_;subst hC;exact⟨_,M,Lc,G,H.drop (by exact(l0v _ _).trans (l0v _ _)), .inr ⟨_,hpre,hzc⟩⟩
 refine NL (TN (CF G (q0m (q06 (q06 (q0d (WQ.end0X G ?_)))))));subst hC;rw[show k=(l.length+2) / 3 by omega] at hzc;exact⟨_,M,Lc,G,H.drop (l0v _ _), .inl hzc⟩
theorem groups_spec (bv:Value)(l:Ls):CtO Tryz.prog 200 [bv] (fun M=>Bs M bv l) (fun r _ its =>∃bb,r = .func (.func 217) #[] #[ptr bb 0]∧its=[.blk bb (.cells #[bv] 88)]):=by
 refine CtO.of Tryz.func200 (enters Tryz.func200 Kr G) G G G ?_;intro w0 M0 H hp;refine SQ (RG (q1z [_] H G (One.cells (by first|exact q1u _ _ _|exact Sl.one (by assumption)|exact q1P H Km)) (q00 G) G ?_));intro b1 w H;refine AS G G (NL (TN (SQ (RG (ST (q1T G) G (AS G G (NL (TN (RT ?_)))))))));refine WQ.ret1O G G H (List.Sublist.refl _) ?_;exact⟨_,G,G⟩
theorem encode_spec (bv:Value)(l:Ls)(hs:l.length≤12000):Ct Tryz.prog 171 [bv] (fun M=>Bs M bv l) (fun r M =>∃v,r = .tuple #[v,fault 0 0]∧Bs M v (encode l)):=by
 refine Ct.ofM Tryz.func171 (enters Tryz.func171 Kr G) G G G ?_;intro w0 M0 H hp;refine SQ (RG (AS G G (q0j [_,_] H Tz27 G (q00 G) G ?_)));intro b3 w H;refine NL (TN (SQ (SQ (RG (MV G G ?_)))));first|refine q02 (q0D Tu88 (by assumption) rfl) (q00 rfl) rfl rfl ?_|refine q02 (q0M Tu88 H Km rfl) (q00 rfl) rfl rfl ?_|refine q02 (q0G Tu88 rfl) (q00 rfl) rfl rfl ?_
 refine q0V (q0E G G) Om (q00 G) G G ?_;refine NL (TN (CF G (SK (TN (SQ (RG (q0j [_] H Tz88 G (q00 G) G ?_)))))));intro b4 w H;refine NL (TN (SQ (RG (q0j [_] H Tz3 G (q00 G) G ?_))));intro b5 w H;refine q0c [_] H G G G Ku Ts3 G Kf Kf (q00 G) ?_;intro w H;refine NL (TN (SQ (SQ (RG (MV G G ?_)))));replace H:=H.newRow 5 encB;refine WR.callO H (groups_spec _ _) G (by assumption) (q00 G) G ?_;intro v12 M w its H hle hr12;replace hp:=hp.mono hle;obtain⟨bb,rfl,rfl⟩:=hr12;simp only[l04,l07] at H;refine NL (TN (BL ?_));refine WC.rangeFunc H rfl (groups_iter bb bv l Om) (.left (.left (.left (.left (.right .nil))))) (hp) rfl (fun pre Lc _ =>∃v,Lc=[RowI 5 encB v (encRun pre).1, .blk b5 (.cells #[encN (encRun pre).2] 3), .blk b4 (.cells #[v] 88)]) (fun _ _ _ _=>False) (fun _ _ _ _ h _=>h) (⟨_,rfl⟩) ?_ ?_ ?_
 · intro lid rc hrc pre x Lc w M hpre hz H;obtain⟨v,rfl⟩:=hz;have hi4:=ini_len hpre;have hiv:=encRun_inv pre hi4.2.1;have hx4:=hi4.1;refine RG (q0j [_,_,_,_] H Tryz.zeroValue218 G (q00 G) G ?_);intro b6 w H;refine q0c (x.map encB) H G G G Ku Tryz.sizeOf218 (by simp [hx4]) G (by simp;exact fun _ _=>G) (q00 G) ?_;intro w H;refine NL (WQ.begin hrc H Ku ?_);intro w H;refine BL (SQ (SQ (RG ?_)));first|refine q02 (q08 H rfl (by assumption) Ta3) (q00 rfl) rfl rfl ?_|refine q02 (XL H Ta3) (q00 rfl) rfl rfl ?_
   refine q0a (q0e G G) (q00 G) G G (fun h7_1=>?_) (fun h7_1=>?_)
   · refine NL (TN (CT G (SQ (RG ?_))));first|refine q02 (q08 H rfl (by assumption) Ta88) (q00 rfl) rfl rfl ?_|refine q02 (XL H Ta88) (q00 rfl) rfl rfl ?_
     refine q0F (enc:=encB) ty88 [13,10] H G Kf (fun _=>G) G G (q00 G) G ?_;intro v17 M w H hle hl17;refine q0J ty88 (fun _=>G) H G (fun _=>by repeat first|exact .head|apply Upd.tail) G (by assumption) (by first|omega|(simp only[l00,l02,l03,l05,l01];omega)) (by first|(simp only[maxLen];omega)|(simp only[maxLen,l00,l02,l03,l05,l01];omega)) (q00 G) G ?_;intro v18 w H;refine q0Q [_] H G G (by first|exact q1u _ _ _|exact Sl.one (by assumption)|exact q1P H Km) Ku Kf Ts88 (by first|decide|(simp;done)|(simp;omega)) (q00 G) ?_;intro w H;refine NL (TN (RG (q0c [_] H G G G Ku Ts3 G Kf Kf (q00 G) ?_)));intro w H;refine NL (TN (SQ (q0H (m:=4) G G H ?_)));intro w H;refine q0R (i:=0) (j:=1) Kr G G ?_ ?_
     · first|refine q02 (q08 H rfl (by assumption) Ta88) (q00 rfl) rfl rfl ?_|refine q02 (XL H Ta88) (q00 rfl) rfl rfl ?_
       refine NA (ON 1 Kr G (q09 (v' := .slice (some ⟨b6,0,none⟩) x.length x.length) (Ex.sliceArr Tu218 Ts5 G) (by rw[hx4]) (q00 G) G G ?_));refine NA (ON 2 Kr G (WR.appendBlk ty88 (fun _=>G) H G (fun _=>by repeat first|exact .head|apply Upd.tail) G Km (by first|omega|(simp only[l00,l02,l03,l05,l01];omega)) (by first|(simp only[maxLen];omega)|(simp only[maxLen,l00,l02,l03,l05,l01];omega)) (q00 G) G ?_));intro v21 w H;refine NA (ON 3 Kr G (q0Q [_] H G G (by first|exact q1u _ _ _|exact Sl.one (by assumption)|exact q1P H Km) Ku Kf Ts88 (by first|decide|(simp;done)|(simp;omega)) (q00 G) ?_));intro w H;refine NA (q0l Kr (TN (RG ?_)));first|refine q02 (q08 H rfl (by assumption) Ta3) (q00 rfl) rfl rfl ?_|refine q02 (XL H Ta3) (q00 rfl) rfl rfl ?_
       refine ST (q0f G G Om) G ?_;refine q0c [_] H G G G Ku Ts3 G Kf Kf (q00 G) ?_;intro w H;refine NL (IB ?_);refine WQ.roundOn hrc (H.drop (l0v _ _)) ⟨v21,?_⟩;rw[encRun_next,encStep,if_pos Om];rfl
     refine q09 (v' := .slice (some ⟨b6,0,none⟩) x.length x.length) (Ex.sliceArr Tu218 Ts5 G) (by rw[hx4]) (q00 G) G G ?_;refine NA (ON 0 Kr G ?_);first|refine q02 (q08 H rfl (by assumption) Ta88) (q00 rfl) rfl rfl ?_|refine q02 (XL H Ta88) (q00 rfl) rfl rfl ?_
     refine NA (ON 2 Kr G (WR.appendBlk ty88 (fun _=>G) H G (fun _=>by repeat first|exact .head|apply Upd.tail) G Km (by first|omega|(simp only[l00,l02,l03,l05,l01];omega)) (by first|(simp only[maxLen];omega)|(simp only[maxLen,l00,l02,l03,l05,l01];omega)) (q00 G) G ?_));intro v21 w H;refine NA (ON 3 Kr G (q0Q [_] H G G (by first|exact q1u _ _ _|exact Sl.one (by assumption)|exact q1P H Km) Ku Kf Ts88 (by first|decide|(simp;done)|(simp;omega)) (q00 G) ?_));intro w H;refine NA (q0l Kr (TN (RG ?_)));first|refine q02 (q08 H rfl (by assumption) Ta3) (q00 rfl) rfl rfl ?_|refine q02 (XL H Ta3) (q00 rfl) rfl rfl ?_
     refine ST (q0f G G Om) G ?_;refine q0c [_] H G G G Ku Ts3 G Kf Kf (q00 G) ?_;intro w H;refine NL (IB ?_);refine WQ.roundOn hrc (H.drop (l0v _ _)) ⟨v21,?_⟩;rw[encRun_next,encStep,if_pos Om];rfl
   refine NL (TN (CF G (SK (TN (SQ (q0H (m:=4) G G H ?_))))));intro w H;refine q0R (i:=0) (j:=1) Kr G G ?_ ?_
   · first|refine q02 (q08 H rfl (by assumption) Ta88) (q00 rfl) rfl rfl ?_|refine q02 (XL H Ta88) (q00 rfl) rfl rfl ?_
     refine NA (ON 1 Kr G (q09 (v' := .slice (some ⟨b6,0,none⟩) x.length x.length) (Ex.sliceArr Tu218 Ts5 G) (by rw[hx4]) (q00 G) G G ?_));refine NA (ON 2 Kr G (WR.appendBlk ty88 (fun _=>G) H G (fun _=>by repeat first|exact .head|apply Upd.tail) G Km (by first|omega|(simp only[l00,l02,l03,l05,l01];omega)) (by first|(simp only[maxLen];omega)|(simp only[maxLen,l00,l02,l03,l05,l01];omega)) (q00 G) G ?_));intro v21 w H;refine NA (ON 3 Kr G (q0Q [_] H G G (by first|exact q1u _ _ _|exact Sl.one (by assumption)|exact q1P H Km) Ku Kf Ts88 (by first|decide|(simp;done)|(simp;omega)) (q00 G) ?_));intro w H;refine NA (q0l Kr (TN (RG ?_)));first|refine q02 (q08 H rfl (by assumption) Ta3) (q00 rfl) rfl rfl ?_|refine q02 (XL H Ta3) (q00 rfl) rfl rfl ?_
     refine ST (q0f G G Om) G ?_;refine q0c [_] H G G G Ku Ts3 G Kf Kf (q00 G) ?_;intro w H;refine NL (IB ?_);refine WQ.roundOn hrc (H.drop (l0v _ _)) ⟨v21,?_⟩;rw[encRun_next,encStep,if_neg Om];rfl
   refine q09 (v' := .slice (some ⟨b6,0,none⟩) x.length x.length) (Ex.sliceArr Tu218 Ts5 G) (by rw[hx4]) (q00 G) G G ?_;refine NA (ON 0 Kr G ?_);first|refine q02 (q08 H rfl (by assumption) Ta88) (q00 rfl) rfl rfl ?_|refine q02 (XL H Ta88) (q00 rfl) rfl rfl ?_
   refine NA (ON 2 Kr G (WR.appendBlk ty88 (fun _=>G) H G (fun _=>by repeat first|exact .head|apply Upd.tail) G Km (by first|omega|(simp only[l00,l02,l03,l05,l01];omega)) (by first|(simp only[maxLen];omega)|(simp only[maxLen,l00,l02,l03,l05,l01];omega)) (q00 G) G ?_));intro v21 w H;refine NA (ON 3 Kr G (q0Q [_] H G G (by first|exact q1u _ _ _|exact Sl.one (by assumption)|exact q1P H Km) Ku Kf Ts88 (by first|decide|(simp;done)|(simp;omega)) (q00 G) ?_));intro w H;refine NA (q0l Kr (TN (RG ?_)));first|refine q02 (q08 H rfl (by assumption) Ta3) (q00 rfl) rfl rfl ?_|refine q02 (XL H Ta3) (q00 rfl) rfl rfl ?_
   refine ST (q0f G G Om) G ?_;refine q0c [_] H G G G Ku Ts3 G Kf Kf (q00 G) ?_;intro w H;refine NL (IB ?_);refine WQ.roundOn hrc (H.drop (l0v _ _)) ⟨v21,?_⟩;rw[encRun_next,encStep,if_neg Om];rfl
 · intro Dm w M Lc H hle hz;obtain⟨v,rfl⟩:=hz;simp only[l04,l07] at H;have hiv:=encRun_inv (grps l) (grps_all l);have hgl:=grps_len l;refine IB (TN (SQ (SQ (RG ?_))));first|refine q02 (q08 H rfl (by assumption) Ta3) (q00 rfl) rfl rfl ?_|refine q02 (XL H Ta3) (q00 rfl) rfl rfl ?_
   refine q0a (q0E G G) (q00 G) G G (fun h12_1=>?_) (fun h12_1=>?_)
   · refine NL (TN (CT G (RG ?_)));first|refine q02 (q08 H rfl (by assumption) Ta88) (q00 rfl) rfl rfl ?_|refine q02 (XL H Ta88) (q00 rfl) rfl rfl ?_
     refine q0F (enc:=encB) ty88 [13,10] H G Kf (fun _=>G) G G (q00 G) G ?_;intro v27 M w H hle hl27;refine q0J ty88 (fun _=>G) H G (fun _=>by repeat first|exact .head|apply Upd.tail) G (by assumption) (by first|omega|(simp only[l00,l02,l03,l05,l01];omega)) (by first|(simp only[maxLen];omega)|(simp only[maxLen,l00,l02,l03,l05,l01];omega)) (q00 G) G ?_;intro v28 w H;refine q0Q [_] H G G (by first|exact q1u _ _ _|exact Sl.one (by assumption)|exact q1P H Km) Ku Kf Ts88 (by first|decide|(simp;done)|(simp;omega)) (q00 G) ?_;intro w H;refine NL (TN (SQ (q0H (m:=4) G G H ?_)));intro w H;refine q0R (i:=0) (j:=1) Kr G G ?_ ?_
     · first|refine q02 (q08 H rfl (by assumption) Ta88) (q00 rfl) rfl rfl ?_|refine q02 (XL H Ta88) (q00 rfl) rfl rfl ?_
       refine NA (ON 1 Kr G (q05 H (none_spec) G (trivial) (q00 G) G ?_));intro v30 M w H hle hr30;obtain rfl:=hr30;refine NA (ON 2 Kr G (AS G G (NA (ON 3 Kr G (q0c [_,_] H G G G Ku Ts27 G Kf Kf (q00 G) ?_)))));intro w H;refine NA (q0l Kr (TN (RT ?_)));obtain⟨M,hle,hf,H⟩:=H.freezeRow (v:=v28) (enc:=encB) (t:=5) Kv;refine WQ.retM1 H Kv ?_;intro w H;refine⟨_,resv_run2 G G ⟨_,G,H.loadAgg Km Ta27 Ts27 Kf⟩,_,_,G,H.ext,?_⟩;refine⟨_,G,?_⟩;rw[encode,if_pos Om];exact hf
     refine q05 H (none_spec) G (trivial) (q00 G) G ?_;intro v30 M w H hle hr30;replace hl27:=hl27.mono hle;obtain rfl:=hr30;refine NA (ON 0 Kr G ?_);first|refine q02 (q08 H rfl (by assumption) Ta88) (q00 rfl) rfl rfl ?_|refine q02 (XL H Ta88) (q00 rfl) rfl rfl ?_
     refine NA (ON 2 Kr G (AS G G (NA (ON 3 Kr G (q0c [_,_] H G G G Ku Ts27 G Kf Kf (q00 G) ?_)))));intro w H;refine NA (q0l Kr (TN (RT ?_)));obtain⟨M,hle,hf,H⟩:=H.freezeRow (v:=v28) (enc:=encB) (t:=5) Kv;refine WQ.retM1 H Kv ?_;intro w H;refine⟨_,resv_run2 G G ⟨_,G,H.loadAgg Km Ta27 Ts27 Kf⟩,_,_,G,H.ext,?_⟩;refine⟨_,G,?_⟩;rw[encode,if_pos Om];exact hf
   refine NL (TN (CF G (SK (TN (SQ (q0H (m:=4) G G H ?_))))));intro w H;refine q0R (i:=0) (j:=1) Kr G G ?_ ?_
   · first|refine q02 (q08 H rfl (by assumption) Ta88) (q00 rfl) rfl rfl ?_|refine q02 (XL H Ta88) (q00 rfl) rfl rfl ?_
     refine NA (ON 1 Kr G (q05 H (none_spec) G (trivial) (q00 G) G ?_));intro v30 M w H hle hr30;obtain rfl:=hr30;refine NA (ON 2 Kr G (AS G G (NA (ON 3 Kr G (q0c [_,_] H G G G Ku Ts27 G Kf Kf (q00 G) ?_)))));intro w H;refine NA (q0l Kr (TN (RT ?_)));obtain⟨M,hle,hf,H⟩:=H.freezeRow (v:=v) (enc:=encB) (t:=5) Kv;refine WQ.retM1 H Kv ?_;intro w H;refine⟨_,resv_run2 G G ⟨_,G,H.loadAgg Km Ta27 Ts27 Kf⟩,_,_,G,H.ext,?_⟩;refine⟨_,G,?_⟩;rw[encode,if_neg Om];exact hf
   refine q05 H (none_spec) G (trivial) (q00 G) G ?_;intro v30 M w H hle hr30;obtain rfl:=hr30;refine NA (ON 0 Kr G ?_);first|refine q02 (q08 H rfl (by assumption) Ta88) (q00 rfl) rfl rfl ?_|refine q02 (XL H Ta88) (q00 rfl) rfl rfl ?_
   refine NA (ON 2 Kr G (AS G G (NA (ON 3 Kr G (q0c [_,_] H G G G Ku Ts27 G Kf Kf (q00 G) ?_)))));intro w H;refine NA (q0l Kr (TN (RT ?_)));obtain⟨M,hle,hf,H⟩:=H.freezeRow (v:=v) (enc:=encB) (t:=5) Kv;refine WQ.retM1 H Kv ?_;intro w H;refine⟨_,resv_run2 G G ⟨_,G,H.loadAgg Km Ta27 Ts27 Kf⟩,_,_,G,H.ext,?_⟩;refine⟨_,G,?_⟩;rw[encode,if_neg Om];exact hf
 intro Dm w M Lc c pre H hle hpre hz;exact hz.elim
end Go.Proofs.YtkmjdamkifbddaaGreatDoor
end
section
namespace Go.Ph.Pl
theorem u8_lit (c n:UInt8):c=n↔c.toNat=n.toNat:=UInt8.toNat_inj.symm
theorem drop_cons {α:Type}{l:List α}{i:Nat}(h:i<l.length):l.drop i=l[i]::l.drop (i+1):=l09 h
theorem scanL {α β:Type}(L:Nat→Int→Option β)(l:List α)(p:α→Bool)(stop r:β)(hend :∀m,L (m+1) (l.length:Int)=some stop)
 (hstep :∀m i (h:i<l.length),L (m+1) (i:Int)=if p l[i]=true then some r else L m ((i+1:Nat):Int)) :
 ∀(k i m:Nat),l.length-i≤k→k<m→i≤l.length→L m (i:Int)=some (if (l.drop i).any p=true then r else stop)
 | 0,i,m,h1,h2,h3=>by
   obtain⟨m,rfl⟩ :∃k,m=k+1:=⟨m-1,by omega⟩
   obtain rfl:i=l.length:=by omega
   rw[hend,l0J];rfl
 | k + 1,i,m,h1,h2,h3=>by
   obtain⟨m,rfl⟩ :∃k,m=k+1:=⟨m-1,by omega⟩
   by_cases hi:i<l.length
   · rw[hstep m i hi,drop_cons hi,l17];by_cases hp:p l[i]=true
     · rw[if_pos hp,hp];rfl
     rw[if_neg hp,scanL L l p stop r hend hstep k (i+1) m Om Om Om];have:p l[i]=false:=by simpa using hp
     rw[this];rfl
   obtain rfl:i=l.length:=by omega
   rw[hend,l0J];rfl
theorem scan0 {α β:Type}{L:Nat→Int→Option β}{l:List α}{p:α→Bool}{stop r:β}{m:Nat}(hm:l.length<m)(hend :∀m,L (m+1) (l.length:Int)=some stop)
 (hstep :∀m i (h:i<l.length),L (m+1) (i:Int)=if p l[i]=true then some r else L m ((i+1:Nat):Int)):L m 0=some (if l.any p=true then r else stop):=by
 have:=scanL L l p stop r hend hstep l.length 0 m Om hm Om;simpa using this
theorem scanP {α β:Type}(L:Nat→Int→Option β)(l:List α)(p:Nat→α→Option β)(stop:β)(hend :∀m,L (m+1) (l.length:Int)=some stop)
 (hstep :∀m i (h:i<l.length),L (m+1) (i:Int)=match p i l[i] with|some r=>some r|none=>L m ((i+1:Nat):Int)) :
 ∀(k i m:Nat),l.length-i≤k→k<m→i≤l.length→
  (∃(j:Nat) (hj:j<l.length) (r:β),i≤j∧p j l[j]=some r∧(∀(a:Nat) (ha:a<l.length),i≤a→a<j→p a l[a]=none)∧L m (i:Int)=some r)∨
  ((∀(a:Nat) (ha:a<l.length),i≤a→p a l[a]=none)∧L m (i:Int)=some stop)
 | 0,i,m,h1,h2,h3=>by
   obtain⟨m,rfl⟩ :∃k,m=k+1:=⟨m-1,by omega⟩
   obtain rfl:i=l.length:=by omega
   exact .inr ⟨fun a ha hi=>by omega,hend m⟩
 | k + 1,i,m,h1,h2,h3=>by
   obtain⟨m,rfl⟩ :∃k,m=k+1:=⟨m-1,by omega⟩
   by_cases hi:i<l.length
   · cases hp:p i l[i] with
     | some r=>exact .inl ⟨i,hi,r,l0e _,hp,fun a ha h1 h2=>by omega,by rw[hstep m i hi,hp]⟩
     | none =>
       rw[hstep m i hi,hp];rcases scanP L l p stop hend hstep k (i+1) m Om Om Om with ⟨j,hj,r,a1,a2,a3,a4⟩|⟨a1,a2⟩
       · refine .inl ⟨j,hj,r,by omega,a2,fun a ha h1 h2=>?_,a4⟩;rcases Nat.eq_or_lt_of_le h1 with rfl|h1
         · exact hp
         exact a3 a ha h1 h2
       refine .inr ⟨fun a ha h1=>?_,a2⟩;rcases Nat.eq_or_lt_of_le h1 with rfl|h1
       · exact hp
       exact a1 a ha h1
   obtain rfl:i=l.length:=by omega
   exact .inr ⟨fun a ha hi=>by omega,hend m⟩
theorem FU_gt {n:Nat}(h:n≤9223372036854775807):n<FU:=by rw[FU_eq];omega
end Go.Ph.Pl
end
section
namespace Go.Ph.Pf
open Go.Ph.Pl
def Y1i (p0:Ls):Option Bool :=
 if p0.length≤4611686018427387904 then some (Chs.vld p0) else none
def grapheme_Split (p0:Ls):Option (List Ls) :=
 if p0.length≤1048576 then some (Gr.pieces p0) else none
def Y3A (p0:Ls):Option Ls :=
 if p0.length≤9223372036854775807 then some (Chs.lower p0) else none
def Y3K (p0:Ls):Option Ls :=
 some (Chs.setN.getD (Chs.bestK p0) [])
def Y2S (p0:Ls)(p1:Ls):Option (Ls × (Int × Int)) :=
 if p0.length≤9223372036854775807∧p1.length≤12000 then(match Chs.setOf p0 with|some k=>some (Chs.decoded k p1,(0,0))|none=>some ([],(18,-2))) else none
def Y2T (p0:Ls)(p1:Ls):Option (Ls × (Int × Int)) :=
 if p0.length≤9223372036854775807∧p1.length≤12000 then(match Chs.setOf p0 with|some k=>(if Chs.vld p1=true then(match Chs.encGo (Chs.encK k) (Gr.chars p1) 0 with | .ok b=>some (b,(0,0)) | .error e=>some ([],(17,(e:Int)))) else some ([],(5,-3)))|none=>some ([],(18,-2))) else none
def Y3w (p0:Ls):Option (Ls × (Int × Int)) :=
 if p0.length≤12000 then some (B64.encode p0,(0,0)) else none
def Y3o (p0:Ls):Option (Ls × (Int × Int)) :=
 if p0.length≤24000 then some (B64.lenient p0,(0,0)) else none
def Y0x (p0:Ls)(p1:UInt8):Option Int :=
 some (ixB p0 p1)
def Y0c (p0:List Ls)(p1:Ls):Option Ls :=
 if p0.length≤140737488355328∧(jn p1 p0).length≤140737488355328 then some (jn p1 p0) else none
def Y2i (p0:Ls)(p1:Ls)(p2:Int):Option (List Ls) :=
 if p0.length<4294967281∧1≤p1.length∧1≤p2∧p2≤9223372036854775807 then some (Lib.splitN p0 p1 p2.toNat) else none
def Y1b (p0:Ls)(p1:Ls)(p2:Ls):Option Ls :=
 if p0.length<4294967281∧1≤p1.length∧p0.length+p0.length*p2.length≤140737488355328 then some (Lib.replaceAll p0 p1 p2) else none
def Y1J (p0:Ls)(p1:Ls):Option Bool :=
 if p0.length<4294967281 then some (Lib.contains p0 p1) else none
def Y2a (p0:Ls)(p1:Ls):Option Int :=
 if p0.length<4294967281 then some (Lib.index p0 p1) else none
def Y16 (p0:Ls)(p1:Ls):Option Int :=
 if p0.length<4294967281 then some (Lib.index p0 p1) else none
def Y0a (p0:Int)(p1:Int):Option (Int × Int) :=
 some (p0,p1)
def Y17 (p0:Ls)(p1:Ls):Option Bool :=
 ((if (p1.length:Int)≤(p0.length:Int) then(cut p0 0 (p1.length:Int)).bind fun s5=>some (decide (s5=p1)) else some false)).bind fun b3=>some b3
def Y0S (p0:Ls)(p1:Ls):Option Bool :=
 (Y17 p0 p1).bind fun b1=>some b1
def Y0i (p0:Ls)(p1:Ls):Option Bool :=
 ((if (p1.length:Int)≤(p0.length:Int) then(chk ((p0.length:Int)-(p1.length:Int))).bind fun n5=>(cut p0 n5 (p0.length:Int)).bind fun s6=>some (decide (s6=p1)) else some false)).bind fun b3=>some b3
def Y18 (p0:Ls)(p1:Ls):Option Bool :=
 (Y0i p0 p1).bind fun b1=>some b1
def Y1X (p0:Ls):Nat→Int→Option (Unit ⊕ Bool)
 | 0,_=>none
 | m4+1,n3=>(if n3<(p0.length:Int) then((idx p0 n3).bind fun c9=>(if c9.toNat<32 then some true else(idx p0 n3).bind fun c11=>some (decide (126<c11.toNat)))).bind fun b8=>(if b8=true then some (.inr false) else(chk (n3+1)).bind fun n14=>Y1X p0 m4 n14) else some (.inl ()))
def Y3C (p0:Ls):Option Bool :=
 ((Y1X p0 FU 0:Option (Unit ⊕ Bool))).bind fun o27=>(match o27 with | .inl _=>((Y0S p0 [32]).bind fun b19=>(if b19=true then some false else(Y18 p0 [32]).bind fun b21=>(if b21=true then some false else(Y1J p0 [61,63]).bind fun b23=>some (!b23)))).bind fun b18=>some b18 | .inr r26=>some r26)
def Y0T  : Option (Int × Int) :=
 some (0,0)
def Y3D (p0:Ls)(p1:Ls):Option (Ls × Ls) :=
 some (p1,p0)
def Y3z (p0:Ls):Option Ls :=
 (Y3w p0).bind fun(l1,(n2,n3))=>(Y1b l1 [13,10] []).bind fun s5=>some s5
def Y0s (p0:Ls)(p1:UInt8):Option (Bool × Ls) :=
 (app 1 p0 ([p1]:Ls)).bind fun l2=>some (true,l2)
def Y2b (p0:UInt8):Option Bool :=
 ((if 97≤p0.toNat then(if p0.toNat≤122 then some true else(if 65≤p0.toNat then(if p0.toNat≤90 then some true else(if 48≤p0.toNat then some (decide (p0.toNat≤57)) else some false)) else(if 48≤p0.toNat then some (decide (p0.toNat≤57)) else some false))) else(if 65≤p0.toNat then(if p0.toNat≤90 then some true else(if 48≤p0.toNat then some (decide (p0.toNat≤57)) else some false)) else(if 48≤p0.toNat then some (decide (p0.toNat≤57)) else some false)))).bind fun b3=>some b3
def Y2G (p0:UInt8):Option UInt8 :=
 (idx [48,49,50,51,52,53,54,55,56,57,65,66,67,68,69,70] ((p0 &&& (15:UInt8)).toNat:Int)).bind fun c1=>some c1
def Y2c (p0:Ls)(p1:Ls):Option (Int × Bool × Ls) :=
 (app 1 p0 p1).bind fun l2=>some ((p1.length:Int),true,l2)
def Y25 (p0:Ls):Option Ls :=
 some p0
def Y1t (p0:Ls):Nat→Ls→Int→Option Ls
 | 0,_,_=>none
 | m14+1,l11,n13=>(if n13<(p0.length:Int) then(idx p0 n13).bind fun c17=>(if c17=32 then(Y0s l11 95).bind fun(b19,l20)=>(chk (n13+1)).bind fun n22=>Y1t p0 m14 l20 n22 else(Y2b c17).bind fun b23=>(if b23=true then(Y0s l11 c17).bind fun(b26,l27)=>(chk (n13+1)).bind fun n29=>Y1t p0 m14 l27 n29 else(Y2G (UInt8.ofNat (c17.toNat / 2 ^ 4))).bind fun c30=>(Y2G c17).bind fun c32=>(Y2c l11 ([61,c30,c32]:Ls)).bind fun(n34,b35,l36)=>(chk (n13+1)).bind fun n38=>Y1t p0 m14 l36 n38)) else some l11)
def Y3V (p0:Ls):Option Ls :=
 (Y1t p0 FU [] 0).bind fun l6=>(Y25 l6).bind fun s40=>some s40
def Y2L (p0:Ls)(p1:Ls):Option Ls :=
 (Y2T p0 p1).bind fun(l1,(n2,n3))=>(if p0=[117,116,102,56] then(cat [61,63] p0).bind fun s6=>(cat s6 [63,66,63]).bind fun s7=>(Y3z l1).bind fun s8=>(cat s7 s8).bind fun s10=>(cat s10 [63,61]).bind fun s11=>some s11 else(cat [61,63] p0).bind fun s12=>(cat s12 [63,81,63]).bind fun s13=>(Y3V l1).bind fun s14=>(cat s13 s14).bind fun s16=>(cat s16 [63,61]).bind fun s17=>some s17)
def Y1j {σ:Type}(Y:σ→Ls→Option (σ × Bool))(a10:Ls):Nat→Nat→σ→Option (σ ⊕ σ)
 | 0,_,_=>none
 | m24+1,ps22,s23=>(if ps22<a10.length then(Y s23 (Chs.utf8 ((Utf.dr (a10.drop ps22)).1:Int))).bind fun(s26,b27)=>(if b27=true then Y1j Y a10 m24 (ps22+(Utf.dr (a10.drop ps22)).2) s26 else some (.inr s26)) else some (.inl s23))
def Y0O {σ:Type}(Y:σ→Ls→Option (σ × Bool))(p2:Ls)(l1:List Ls):Nat→Int→σ→Option (σ ⊕ σ)
 | 0,_,_=>none
 | m8+1,n6,s7=>(if n6<(l1.length:Int) then(idx l1 n6).bind fun a10=>(Y2L p2 a10).bind fun s11=>(if (s11.length:Int)≤(75:Int) then(Y s7 a10).bind fun(s14,b15)=>(if b15=true then(chk (n6+1)).bind fun n18=>Y0O Y p2 l1 m8 n18 s14 else some (.inr s14)) else((Y1j Y a10 FU 0 s7:Option (σ ⊕ σ))).bind fun o33=>(match o33 with | .inl s21=>(chk (n6+1)).bind fun n31=>Y0O Y p2 l1 m8 n31 s21 | .inr r32=>some (.inr r32))) else some (.inl s7))
def Y2M (p1:Ls)(p2:Ls)(σ:Type)(Y:σ→Ls→Option (σ × Bool))(s0:σ):Option σ :=
 (grapheme_Split p1).bind fun l1=>((Y0O Y p2 l1 FU 0 s0:Option (σ ⊕ σ))).bind fun o36=>(match o36 with | .inl s5=>some s5 | .inr r35=>some r35)
def Y1K (s17:Ls)(s:(List Ls × Ls))(x32:Ls):Option (List Ls × Ls) :=
 match s with
 |(l25,s27)=>((if s27=[] then some false else(cat s27 x32).bind fun s38=>(Y2L s17 s38).bind fun s39=>some (decide ((75:Int)<(s39.length:Int))))).bind fun b36=>(if b36=true then(Y2L s17 s27).bind fun s43=>(app 16 l25 ([s43]:List Ls)).bind fun l45=>(cat [] x32).bind fun s47=>some (l45,s47) else(cat s27 x32).bind fun s48=>some (l25,s48))
def Y0y (p0:Ls):Option (Ls × (Int × Int)) :=
 (if (1000:Int)<(p0.length:Int) then(Y0a 1 (-1)).bind fun(n2,n3)=>some ([],(n2,n3)) else(Y1i p0).bind fun b5=>(if b5=true then(Y3C p0).bind fun b11=>(if b11=true then(Y0T).bind fun(n14,n15)=>some (p0,(n14,n15)) else(Y3K p0).bind fun s17=>(Y3D s17 p0).bind fun(z19,z21)=>(Y2M z19 z21 (List Ls × Ls) (stepY goOn (Y1K s17)) ([],[])).bind fun(l25,s27)=>(Y2L s17 s27).bind fun s49=>(app 16 l25 ([s49]:List Ls)).bind fun l51=>(Y0c l51 [32]).bind fun s53=>(Y0T).bind fun(n55,n56)=>some (s53,(n55,n56))) else(Y0a 5 (-2)).bind fun(n8,n9)=>some ([],(n8,n9))))
def Y3W (p0:UInt8):Option (UInt8 × Bool) :=
 ((if 48≤p0.toNat then some (decide (p0.toNat≤57)) else some false)).bind fun b3=>(if b3=true then some ((p0-(48:UInt8)),true) else((if 65≤p0.toNat then some (decide (p0.toNat≤70)) else some false)).bind fun b9=>(if b9=true then some (((p0-(65:UInt8))+(10:UInt8)),true) else((if 97≤p0.toNat then some (decide (p0.toNat≤102)) else some false)).bind fun b15=>(if b15=true then some (((p0-(97:UInt8))+(10:UInt8)),true) else some (0,false))))
def Y3g (p0:Ls):Option (UInt8 × Bool) :=
 (if (p0.length:Int)<(2:Int) then some (0,false) else(idx p0 0).bind fun c2=>(Y3W c2).bind fun(c3,b4)=>(idx p0 1).bind fun c6=>(Y3W c6).bind fun(c7,b8)=>((if b4=true then some (((UInt8.ofNat (c3.toNat*2 ^ 4)) ||| c7),b8) else some (((UInt8.ofNat (c3.toNat*2 ^ 4)) ||| c7),false))).bind fun(c12,b13)=>some (c12,b13))
def Y0Z (p1:Ls):Nat→Ls→Int→Option (Ls ⊕ (Ls × Bool))
 | 0,_,_=>none
 | m29+1,l26,n28=>(if n28<(p1.length:Int) then(idx p1 n28).bind fun c32=>(if c32=95 then(app 1 l26 ([32]:Ls)).bind fun l34=>(chk (n28+1)).bind fun n35=>Y0Z p1 m29 l34 n35 else(idx p1 n28).bind fun c36=>(if c36=61 then(chk (n28+1)).bind fun n38=>(cut p1 n38 (p1.length:Int)).bind fun s39=>(Y3g s39).bind fun(c40,b41)=>(if b41=true then(app 1 l26 ([c40]:Ls)).bind fun l44=>(chk (n28+2)).bind fun n45=>(chk (n45+1)).bind fun n46=>Y0Z p1 m29 l44 n46 else some (.inr ([],false))) else((idx p1 n28).bind fun c50=>(if 33≤c50.toNat then(idx p1 n28).bind fun c52=>some (decide (c52.toNat≤126)) else some false)).bind fun b49=>(if b49=true then(idx p1 n28).bind fun c55=>(app 1 l26 ([c55]:Ls)).bind fun l56=>(chk (n28+1)).bind fun n57=>Y0Z p1 m29 l56 n57 else some (.inr ([],false))))) else some (.inl l26))
def Y3b (p0:Ls)(p1:Ls):Option (Ls × Bool) :=
 ((if p0=[66] then some (decide (p0=[66])) else some (decide (p0=[98])))).bind fun b3=>(if b3=true then(toB p1).bind fun l7=>(Y3o l7).bind fun(l8,(n9,n10))=>(Y3z l8).bind fun s12=>some (l8,decide (s12=p1)) else((if p0=[81] then some (decide (p0=[81])) else some (decide (p0=[113])))).bind fun b16=>(if b16=true then((Y0Z p1 FU [] 0:Option (Ls ⊕ (Ls × Bool)))).bind fun o61=>(match o61 with | .inl l23=>some (l23,true) | .inr r60=>some r60) else some ([],false)))
def Y1z (p0:(Int × Int)):Option Bool :=
 some (!decide (p0.1=(0:Int)))
def Y2N (p0:Ls):Option (Ls × Int × Bool) :=
 (Y0S p0 [61,63]).bind fun b1=>(if b1=true then(cut p0 2 (min (p0.length:Int) 75)).bind fun s4=>(Y2i s4 [63] 4).bind fun l5=>((if (l5.length:Int)<(4:Int) then some true else(idx l5 3).bind fun a11=>(Y0S a11 [61]).bind fun b12=>some (!b12))).bind fun b9=>(if b9=true then some ([],0,false) else(idx l5 1).bind fun a16=>(idx l5 2).bind fun a17=>(Y3b a16 a17).bind fun(l18,b19)=>(idx l5 0).bind fun a21=>(Y2S a21 l18).bind fun(s22,(n23,n24))=>((idx l5 0).bind fun a31=>(chk ((2:Int)+(a31.length:Int))).bind fun n32=>(idx l5 1).bind fun a33=>(chk (n32+(a33.length:Int))).bind fun n34=>(idx l5 2).bind fun a35=>(chk (n34+(a35.length:Int))).bind fun n36=>(chk (n36+4)).bind fun n37=>(if b19=true then(Y1z (n23,n24)).bind fun b38=>some (s22,n37,!b38) else some (s22,n37,false))).bind fun(s28,n29,b30)=>some (s28,n29,b30)) else some ([],0,false))
def Y13 (p0:UInt8):Option Bool :=
 ((if p0=32 then some true else some (decide (p0=9)))).bind fun b3=>some b3
def Y08 (p0:Ls)(p1:Ls):Option (Int × Bool × Ls) :=
 (app 1 p0 p1).bind fun l2=>some ((p1.length:Int),true,l2)
def Y04 (p0:Ls):Nat→Ls→Int→Int→Option (Ls × Int)
 | 0,_,_,_=>none
 | m20+1,l16,n18,n19=>(if n19<(p0.length:Int) then(cut p0 n19 (p0.length:Int)).bind fun s23=>(Y2N s23).bind fun(s24,n25,b26)=>(if b26=true then(Y08 l16 s24).bind fun(n67,b68,l69)=>(chk (n19+n25)).bind fun n71=>Y04 p0 m20 l69 n71 n71 else((if n18<(0:Int) then(idx p0 n19).bind fun c37=>(Y0s l16 c37).bind fun(b38,l39)=>some l39 else some l16)).bind fun l34=>((if (0:Int)≤n18 then(idx p0 n19).bind fun c46=>(Y13 c46).bind fun b47=>some (!b47) else some false)).bind fun b44=>((if b44=true then(chk (n19+1)).bind fun n59=>(cut p0 n18 n59).bind fun s60=>(Y08 l34 s60).bind fun(n61,b62,l63)=>some (l63,(-1)) else some (l34,n18))).bind fun(l55,n57)=>(chk (n19+1)).bind fun n66=>Y04 p0 m20 l55 n57 n66) else some (l16,n18))
def Y1k (p0:Ls):Option (Ls × (Int × Int)) :=
 (if (4000:Int)<(p0.length:Int) then(Y0a 1 (-1)).bind fun(n2,n3)=>some ([],(n2,n3)) else(Y04 p0 FU [] (-1) 0).bind fun(l10,n12)=>((if (0:Int)≤n12 then(cut p0 n12 (p0.length:Int)).bind fun s81=>(Y08 l10 s81).bind fun(n82,b83,l84)=>some l84 else some l10)).bind fun l78=>(Y25 l78).bind fun s87=>(Y0T).bind fun(n89,n90)=>some (s87,(n89,n90)))
def R_In (p0:Int)(p1:Int)(p2:Int):Option Bool :=
 ((if p1≤p0 then some (decide (p0≤p2)) else some false)).bind fun b3=>some b3
def R_Blank (p0:UInt8):Option Bool :=
 ((if p0=32 then some true else some (decide (p0=9)))).bind fun b3=>some b3
def Y1q (p0:Ls)(s4:Ls):Nat→Int→Int→Option (Unit ⊕ Bool)
 | 0,_,_=>none
 | m13+1,n11,n12=>(if n12<(s4.length:Int) then(idx s4 n12).bind fun c15=>(R_In (c15.toNat:Int) 32 126).bind fun b16=>(if b16=true then(chk (n11+1)).bind fun n19=>(idx s4 n12).bind fun c20=>((if c20=32 then some 0 else some n19)).bind fun n23=>((if (75:Int)<n23 then some (!decide (s4=p0)) else some false)).bind fun b28=>(if b28=true then some (.inr false) else(chk (n12+1)).bind fun n32=>Y1q p0 s4 m13 n23 n32) else some (.inr false)) else some (.inl ()))
end Go.Ph.Pf
end
section
namespace Go.Ph.Pf
open Go.Ph.Pl
def Y1A (p0:Ls)(p1:(UInt8→Option Bool)):Nat→Int→Option (Unit ⊕ Bool)
 | 0,_=>none
 | m4+1,n3=>(if n3<(p0.length:Int) then(idx p0 n3).bind fun c6=>(p1 c6).bind fun b7=>(if b7=true then(chk (n3+1)).bind fun n10=>Y1A p0 p1 m4 n10 else some (.inr false)) else some (.inl ()))
def Y2U (p0:Ls)(p1:(UInt8→Option Bool)):Option Bool :=
 ((Y1A p0 p1 FU 0:Option (Unit ⊕ Bool))).bind fun o13=>(match o13 with | .inl _=>some true | .inr r12=>some r12)
def fold_name_1 (p0:UInt8):Option Bool :=
 ((if 33≤p0.toNat then(if p0.toNat≤126 then some (!decide (p0=58)) else some false) else some false)).bind fun b3=>some b3
def fold_name (p0:Ls):Option Bool :=
 ((if p0=[] then some false else(if (p0.length:Int)≤(60:Int) then(Y2U p0 fold_name_1).bind fun b6=>some b6 else some false))).bind fun b3=>some b3
def Y2j (p0:Int):Option Bool :=
 ((if (0:Int)≤p0 then some (decide (p0<(55296:Int))) else some false)).bind fun b3=>(if b3=true then some true else((if (57343:Int)<p0 then some (decide (p0≤(1114111:Int))) else some false)).bind fun b9=>(if b9=true then some true else some false))
def Y1M (p0:Ls):Nat→Nat→Option (Unit ⊕ Int)
 | 0,_=>none
 | m13+1,ps12=>(if ps12<p0.length then(if ((Utf.dr (p0.drop ps12)).1:Int)=(65533:Int) then some (.inr (ps12:Int)) else Y1M p0 m13 (ps12+(Utf.dr (p0.drop ps12)).2)) else some (.inl ()))
def Y1N (p0:Ls)(p1:Int)(n22:Int)(n32:Int):Nat→Int→Option Unit
 | 0,_=>none
 | m46+1,n45=>(if n45<((Chs.utf8 p1).length:Int) then(chk (n32-n45)).bind fun n48=>(idx p0 n48).bind fun c49=>(chk (n22-n45)).bind fun n50=>(idx (Chs.utf8 p1) n50).bind fun c51=>(if c49=c51 then(chk (n45+1)).bind fun n53=>Y1N p0 p1 n22 n32 m46 n53 else none) else some ())
def Y1O (p0:Ls)(p1:Int)(n22:Int):Nat→Int→Option (Unit ⊕ Int)
 | 0,_=>none
 | m26+1,n25=>(if n25<(p0.length:Int) then(idx p0 n25).bind fun c28=>(idx (Chs.utf8 p1) n22).bind fun c29=>(((if c28=c29 then some (.inl n25) else(chk (n25+1)).bind fun n34=>(cut p0 n34 (p0.length:Int)).bind fun s35=>(idx (Chs.utf8 p1) n22).bind fun c36=>(Y0x s35 c36).bind fun n37=>(if n37<(0:Int) then some (.inr (-1)) else(chk (n37+1)).bind fun n40=>(chk (n25+n40)).bind fun n41=>some (.inl n41))):Option (Int ⊕ Int))).bind fun o57=>(match o57 with | .inl n32=>(Y1N p0 p1 n22 n32 FU 1).bind fun _=>(chk (n32-n22)).bind fun n55=>some (.inr n55) | .inr r56=>some (.inr r56)) else some (.inl ()))
def Y22 (p0:Ls)(p1:Int):Option Int :=
 ((if (0:Int)≤p1 then some (decide (p1<(128:Int))) else some false)).bind fun b3=>(if b3=true then(Y0x p0 (ub8 p1)).bind fun n7=>some n7 else(if p1=(65533:Int) then((Y1M p0 FU 0:Option (Unit ⊕ Int))).bind fun o18=>(match o18 with | .inl _=>some (-1) | .inr r17=>some r17) else(Y2j p1).bind fun b19=>(if b19=true then(chk (((Chs.utf8 p1).length:Int)-1)).bind fun n22=>((Y1O p0 p1 n22 FU n22:Option (Unit ⊕ Int))).bind fun o60=>(match o60 with | .inl _=>some (-1) | .inr r59=>some r59) else some (-1))))
def Y0D (p0:Int):Option Bool :=
 some (decide ((8:Int)<p0))
def Y1c (p0:Ls):Nat→List Bool→Int→Option (List Bool ⊕ (List Bool × Bool))
 | 0,_,_=>none
 | m6+1,l4,n5=>(if n5<(p0.length:Int) then(idx p0 n5).bind fun c8=>(if 128≤c8.toNat then(chkA 256 l4).bind fun l10=>(chkA 256 l4).bind fun l11=>(chkA 256 l10).bind fun l12=>(chkA 256 l10).bind fun l13=>some (.inr (l13,false)) else(idxA 256 l4 (c8.toNat:Int)).bind fun a14=>(putA 256 l4 (c8.toNat:Int) true).bind fun l15=>(chk (n5+1)).bind fun n16=>Y1c p0 m6 l15 n16) else some (.inl l4))
def Y0G (p0:Ls):Option (List Bool × Bool) :=
 ((Y1c p0 FU (List.replicate 256 false:List Bool) 0:Option (List Bool ⊕ (List Bool × Bool)))).bind fun o23=>(match o23 with | .inl l3=>(chkA 256 l3).bind fun l18=>(chkA 256 l3).bind fun l19=>(chkA 256 l18).bind fun l20=>(chkA 256 l18).bind fun l21=>some (l21,true) | .inr r22=>some r22)
def Y0t (p0:List Bool)(p1:UInt8):Option Bool :=
 (idxA 256 p0 (p1.toNat:Int)).bind fun a1=>some a1
def Y0M (p0:Ls)(n16:List Bool):Nat→Int→Option (Unit ⊕ Int)
 | 0,_=>none
 | m26+1,n25=>(if n25<(p0.length:Int) then(idx p0 n25).bind fun c28=>(Y0t n16 c28).bind fun b29=>(if b29=true then some (.inr n25) else(chk (n25+1)).bind fun n32=>Y0M p0 n16 m26 n32) else some (.inl ()))
def Y0N (p0:Ls)(p1:Ls):Nat→Nat→Option (Unit ⊕ Int)
 | 0,_=>none
 | m40+1,ps39=>(if ps39<p0.length then(Y22 p1 ((Utf.dr (p0.drop ps39)).1:Int)).bind fun n42=>(if (0:Int)≤n42 then some (.inr (ps39:Int)) else Y0N p0 p1 m40 (ps39+(Utf.dr (p0.drop ps39)).2)) else some (.inl ()))
def Y27 (p0:Ls)(p1:Ls):Option Int :=
 (if p1=[] then some (-1) else(if (p1.length:Int)=(1:Int) then(idx p1 0).bind fun c3=>((if (128:Int)≤(IntKind.i32.wrap (c3.toNat:Int)) then some 65533 else some (IntKind.i32.wrap (c3.toNat:Int)))).bind fun n6=>(Y22 p0 n6).bind fun n9=>some n9 else(Y0D (p0.length:Int)).bind fun b11=>(((if b11=true then(Y0G p1).bind fun(n16,b17)=>(chkA 256 (List.replicate 256 false:List Bool)).bind fun l19=>(chkA 256 n16).bind fun l20=>(if b17=true then((Y0M p0 n16 FU 0:Option (Unit ⊕ Int))).bind fun o35=>(match o35 with | .inl _=>some (.inr (-1)) | .inr r34=>some (.inr r34)) else some (.inl ())) else some (.inl ())):Option (Unit ⊕ Int))).bind fun o49=>(match o49 with | .inl _=>((Y0N p0 p1 FU 0:Option (Unit ⊕ Int))).bind fun o47=>(match o47 with | .inl _=>some (-1) | .inr r46=>some r46) | .inr r48=>some r48)))
def Y1r (p0:Ls)(p1:Ls):Option Bool :=
 (Y27 p0 p1).bind fun n1=>some (decide ((0:Int)≤n1))
def fold_ends (p0:Ls):Option Bool :=
 (Y1r p0 [13,10,0]).bind fun b1=>some b1
def fold_value (p0:Ls):Option Bool :=
 ((fold_ends p0).bind fun b4=>(if b4=true then some false else(if p0=[] then some true else(idx p0 0).bind fun c7=>(Y13 c7).bind fun b8=>(if b8=true then some false else(chk ((p0.length:Int)-1)).bind fun n10=>(idx p0 n10).bind fun c11=>(Y13 c11).bind fun b12=>some (!b12))))).bind fun b3=>some b3
def fold_point_L1 (p0:Ls):Nat→Int→Int→Option Int
 | 0,_,_=>none
 | m6+1,n4,n5=>(if n5<(p0.length:Int) then((idx p0 n5).bind fun c11=>(Y13 c11).bind fun b12=>(if b12=true then(chk (n5-1)).bind fun n14=>(idx p0 n14).bind fun c15=>(Y13 c15).bind fun b16=>some b16 else some true)).bind fun b10=>(if b10=true then(chk (n5+1)).bind fun n20=>fold_point_L1 p0 m6 n4 n20 else((if (0:Int)<n4 then some (decide ((78:Int)<n5)) else some false)).bind fun b23=>(if b23=true then some n4 else(chk (n5+1)).bind fun n27=>fold_point_L1 p0 m6 n5 n27)) else some n4)
def fold_point (p0:Ls)(p1:Int):Option Int :=
 (fold_point_L1 p0 FU 0 (max p1 1)).bind fun n3=>some n3
def fold_Fold_L1  : Nat→Ls→Int→List Ls→Option (Ls × List Ls)
 | 0,_,_,_=>none
 | m31+1,s26,n27,l29=>(if (78:Int)<(s26.length:Int) then(fold_point s26 n27).bind fun n34=>(if n34=(0:Int) then some (s26,l29) else(cut s26 0 n34).bind fun s37=>(app 16 l29 ([s37]:List Ls)).bind fun l38=>(cut s26 n34 (s26.length:Int)).bind fun s39=>fold_Fold_L1  m31 s39 0 l38) else some (s26,l29))
def fold_Fold_L2 (l41:List Ls):Nat→Int→Int→Int→Option ((Int × Int) ⊕ (List Ls × (Int × Int)))
 | 0,_,_,_=>none
 | m49+1,n46,n47,n48=>(if n48<(l41.length:Int) then(idx l41 n48).bind fun a51=>(if (998:Int)<(a51.length:Int) then(Y0a 1 n48).bind fun(n53,n54)=>some (.inr ([],(n53,n54))) else(chk (n48+1)).bind fun n56=>fold_Fold_L2 l41 m49 n46 n47 n56) else some (.inl (n46,n47)))
def fold_Fold (p0:Ls)(p1:Ls):Option (List Ls × (Int × Int)) :=
 (fold_name p0).bind fun b1=>(if b1=true then(if (4000:Int)<(p1.length:Int) then(Y0a 1 (-1)).bind fun(n8,n9)=>some ([],(n8,n9)) else(fold_value p1).bind fun b11=>(if b11=true then(cat p0 [58,32]).bind fun s17=>(cat s17 p1).bind fun s18=>(chk ((p0.length:Int)+2)).bind fun n19=>(fold_Fold_L1  FU s18 n19 []).bind fun(s22,l24)=>(app 16 l24 ([s22]:List Ls)).bind fun l41=>((fold_Fold_L2 l41 FU 0 0 0:Option ((Int × Int) ⊕ (List Ls × (Int × Int))))).bind fun o63=>(match o63 with | .inl (n44,n45)=>(Y0T).bind fun(n58,n59)=>some (l41,(n58,n59)) | .inr r62=>some r62) else(Y0a 11 (-1)).bind fun(n14,n15)=>some ([],(n14,n15)))) else(Y0a 10 (-1)).bind fun(n4,n5)=>some ([],(n4,n5)))
def Y2q (p0:Ls)(p1:Ls):Option (Ls × Ls × Bool) :=
 (Y16 p0 p1).bind fun n1=>(if (0:Int)≤n1 then(cut p0 0 n1).bind fun s4=>(chk (n1+(p1.length:Int))).bind fun n5=>(cut p0 n5 (p0.length:Int)).bind fun s6=>some (s4,s6,true) else some (p0,[],false))
def Y32 (p0:Ls)(p1:Ls):Option (Ls × Ls × Bool) :=
 (Y2q p0 p1).bind fun(s1,s2,b3)=>some (s1,s2,b3)
def Y19 (p1:UInt8):Nat→Ls→Option Ls
 | 0,_=>none
 | m5+1,s4=>((if (0:Int)<(s4.length:Int) then(chk ((s4.length:Int)-1)).bind fun n10=>(idx s4 n10).bind fun c11=>some (decide (c11=p1)) else some false)).bind fun b8=>(if b8=true then(chk ((s4.length:Int)-1)).bind fun n14=>(cut s4 0 n14).bind fun s15=>Y19 p1 m5 s15 else some s4)
def Y1B (p0:Ls)(p1:UInt8):Option Ls :=
 (Y19 p1 FU p0).bind fun s3=>some s3
def Y1d (p1:UInt8):Nat→Ls→Option Ls
 | 0,_=>none
 | m5+1,s4=>((if (0:Int)<(s4.length:Int) then(idx s4 0).bind fun c10=>some (decide (c10=p1)) else some false)).bind fun b8=>(if b8=true then(cut s4 1 (s4.length:Int)).bind fun s13=>Y1d p1 m5 s13 else some s4)
def Y1P (p0:Ls)(p1:UInt8):Option Ls :=
 (Y1d p1 FU p0).bind fun s3=>some s3
def Y0j (p1:List Bool):Nat→Ls→Option Ls
 | 0,_=>none
 | m5+1,s4=>(if (0:Int)<(s4.length:Int) then(chk ((s4.length:Int)-1)).bind fun n7=>(idx s4 n7).bind fun c8=>(Y0t p1 c8).bind fun b9=>(if b9=true then(chk ((s4.length:Int)-1)).bind fun n12=>(cut s4 0 n12).bind fun s13=>Y0j p1 m5 s13 else some s4) else some s4)
def Y26 (p0:Ls)(p1:List Bool):Option Ls :=
 (Y0j p1 FU p0).bind fun s3=>some s3
def Y0o (p1:List Bool):Nat→Ls→Option Ls
 | 0,_=>none
 | m5+1,s4=>(if (0:Int)<(s4.length:Int) then(idx s4 0).bind fun c7=>(Y0t p1 c7).bind fun b8=>(if b8=true then(cut s4 1 (s4.length:Int)).bind fun s11=>Y0o p1 m5 s11 else some s4) else some s4)
def Y2e (p0:Ls)(p1:List Bool):Option Ls :=
 (Y0o p1 FU p0).bind fun s3=>some s3
def Y3q (p0:Ls)(p1:Ls):Option Ls :=
 ((if p0=[] then some true else some (decide (p1=[])))).bind fun b3=>(if b3=true then some p0 else((if (p1.length:Int)=(1:Int) then(idx p1 0).bind fun c11=>some (decide (c11.toNat<128)) else some false)).bind fun b9=>(if b9=true then(idx p1 0).bind fun c14=>(Y1B p0 c14).bind fun s15=>(idx p1 0).bind fun c17=>(Y1P s15 c17).bind fun s18=>some s18 else(Y0G p1).bind fun(n20,b21)=>(chkA 256 (List.replicate 256 false:List Bool)).bind fun l23=>(chkA 256 n20).bind fun l24=>(if b21=true then(Y26 p0 n20).bind fun s27=>(Y2e s27 n20).bind fun s29=>some s29 else none)))
def fold_Unfold_L1 (p0:List Ls):Nat→Int→Int→Int→Int→Option ((Int × Int × Int) ⊕ (Ls × Ls × (Int × Int)))
 | 0,_,_,_,_=>none
 | m14+1,n10,n11,n12,n13=>(if n13<(p0.length:Int) then(idx p0 n13).bind fun a16=>((fold_ends a16).bind fun b20=>(if b20=true then some true else(if (0:Int)<n13 then(if a16=[] then some true else(idx a16 0).bind fun c24=>(Y13 c24).bind fun b25=>some (!b25)) else some false))).bind fun b19=>(if b19=true then(Y0a 11 n13).bind fun(n29,n30)=>some (.inr ([],[],(n29,n30))) else(chk (n12+(a16.length:Int))).bind fun n32=>(chk (n13+1)).bind fun n33=>fold_Unfold_L1 p0 m14 n10 n11 n32 n33) else some (.inl (n10,n11,n12)))
def fold_Unfold (p0:List Ls):Option (Ls × Ls × (Int × Int)) :=
 (if (300:Int)<(p0.length:Int) then(Y0a 2 (-1)).bind fun(n2,n3)=>some ([],[],(n2,n3)) else((fold_Unfold_L1 p0 FU 0 0 0 0:Option ((Int × Int × Int) ⊕ (Ls × Ls × (Int × Int))))).bind fun o65=>(match o65 with | .inl (n7,n8,n9)=>(if (8000:Int)<n9 then(Y0a 1 (-1)).bind fun(n36,n37)=>some ([],[],(n36,n37)) else(Y0c p0 []).bind fun s39=>(Y32 s39 [58]).bind fun(s41,s42,b43)=>((if b43=true then(fold_name s41).bind fun b48=>some (!b48) else some true)).bind fun b47=>(if b47=true then(Y0a 11 (-2)).bind fun(n52,n53)=>some ([],[],(n52,n53)) else(Y3q s42 [32,9]).bind fun s55=>(if (4000:Int)<(s55.length:Int) then(Y0a 1 (-1)).bind fun(n58,n59)=>some ([],[],(n58,n59)) else(Y0T).bind fun(n61,n62)=>some (s41,s55,(n61,n62))))) | .inr r64=>some r64))
end Go.Ph.Pf
end
section
namespace Go.Ph.Pf
open Go.Ph.Pl
def Y0U (p0:Ls):Option (Int × Int) :=
 if p0≠ [] then some (((Utf.dr p0).1:Int),((Utf.dr p0).2:Int)) else none
def Y1S (p0:Ls)(p1:Ls):Option Int :=
 if p1.length=1∧p0.length≤1000000 then some ((p0.countP fun c=>decide (p1=[c]):Nat):Int) else none
def tabk (k:Nat):List (Option Ls):=(List.range 256).map fun n=>if n=34∧1≤k then some [92,34] else if n=92∧2≤k then some [92,92] else none
def trk (k:Nat):List Ls:=[[34],[92]].take k
def Y0E (p0:List Ls):Nat→Bool→Int→Option (Bool ⊕ ((List (Option Ls) × List Ls) × List Ls))
 | 0,_,_=>none
 | m15+1,b13,n14=>(if n14<(p0.length:Int) then(idx p0 n14).bind fun a17=>(if (a17.length:Int)=(1:Int) then(chk (n14+1)).bind fun n19=>(idx p0 n19).bind fun a20=>(if (a20.length:Int)=(1:Int) then(chk (n14+2)).bind fun n23=>Y0E p0 m15 b13 n23 else(chk (n14+2)).bind fun n22=>Y0E p0 m15 false n22) else none) else some (.inl b13))
def Y2D (p0:List Ls):Option ((List (Option Ls) × List Ls) × List Ls) :=
 ((if (p0.length:Int)=(2:Int) then(idx p0 0).bind fun a5=>some (decide ((1:Int)<(a5.length:Int))) else some false)).bind fun b3=>(if b3=true then none else((Y0E p0 FU true 0:Option (Bool ⊕ ((List (Option Ls) × List Ls) × List Ls)))).bind fun o30=>(match o30 with | .inl b12=>(if b12=true then none else(if p0=[[92],[92,92],[34],[92,34]] then some ((tabk 2,trk 2),p0) else none)) | .inr r29=>some r29))
def Y00 (p0:(List (Option Ls) × List Ls))(p1:Ls):Nat→Int→Bool→Int→Option (Int × Bool)
 | 0,_,_,_=>none
 | m14+1,n11,b12,n13=>(if n13<(p0.2.length:Int) then(idx p0.2 n13).bind fun a16=>(Y1S p1 a16).bind fun n17=>(if n17=(0:Int) then(chk (n13+1)).bind fun n26=>Y00 p0 p1 m14 n11 b12 n26 else(idx a16 0).bind fun c20=>(idxO p0.1 (c20.toNat:Int)).bind fun q21=>(chk (((q21.getD []).length:Int)-1)).bind fun n22=>(chk (n17*n22)).bind fun n23=>(chk (n11+n23)).bind fun n24=>(chk (n13+1)).bind fun n25=>Y00 p0 p1 m14 n24 true n25) else some (n11,b12))
def Y01 (p0:(List (Option Ls) × List Ls))(p1:Ls):Nat→Int→Bool→Int→Option (Int × Bool)
 | 0,_,_,_=>none
 | m35+1,n32,b33,n34=>(if n34<(p1.length:Int) then(idx p1 n34).bind fun c37=>(idxO p0.1 (c37.toNat:Int)).bind fun q38=>(if q38.isSome=true then(idxO p0.1 (c37.toNat:Int)).bind fun q40=>(chk (((q40.getD []).length:Int)-1)).bind fun n41=>(chk (n32+n41)).bind fun n42=>(chk (n34+1)).bind fun n43=>Y01 p0 p1 m35 n42 true n43 else(chk (n34+1)).bind fun n44=>Y01 p0 p1 m35 n32 b33 n44) else some (n32,b33))
def Y02 (p0:(List (Option Ls) × List Ls))(p1:Ls):Nat→Ls→Int→Int→Option Ls
 | 0,_,_,_=>none
 | m56+1,l53,n54,n55=>(if n55<(p1.length:Int) then(idx p1 n55).bind fun c58=>(idxO p0.1 (c58.toNat:Int)).bind fun q59=>(if q59.isSome=true then(frm l53 n54).bind fun n61=>(idxO p0.1 (c58.toNat:Int)).bind fun q62=>(cpyO l53 n61 (q62.getD [])).bind fun(l63,n64)=>(chk (n54+n64)).bind fun n66=>(chk (n55+1)).bind fun n67=>Y02 p0 p1 m56 l63 n66 n67 else(idx l53 n54).bind fun c68=>(put l53 n54 c58).bind fun l69=>(chk (n54+1)).bind fun n70=>(chk (n55+1)).bind fun n71=>Y02 p0 p1 m56 l69 n70 n71) else some l53)
def Y0C (p0:(List (Option Ls) × List Ls))(p1:Ls):Option Ls :=
 (chk ((p0.2.length:Int)*8)).bind fun n1=>((if n1≤(p1.length:Int) then(Y00 p0 p1 FU (p1.length:Int) false 0).bind fun(n9,b10)=>some (n9,b10) else(Y01 p0 p1 FU (p1.length:Int) false 0).bind fun(n30,b31)=>some (n30,b31))).bind fun(n4,b5)=>(if b5=true then(mkS 1 n4 n4 (0:UInt8)).bind fun l48=>(Y02 p0 p1 FU l48 0 0).bind fun l52=>some l52 else some p1)
def Y14 (p0:List Ls):Option Unit :=
 if p0=[[92],[92,92],[34],[92,34]] then some () else none
def Y1a (p0:Ls):Option Ls :=
 Y0C (tabk 2,trk 2) p0
def Y1Q (p0:List (Ls × Ls × Ls)):Option (List (Ls × Ls × Ls)):=app 48 [] p0
def Y2r (p0:Ls):Option Int :=
 (if (500:Int)<(p0.length:Int) then some 1 else(Y1i p0).bind fun b2=>(if b2=true then some 0 else some 5))
def Y2J (p0:UInt8):Option Bool :=
 ((if 32≤p0.toNat then some (decide (p0.toNat≤126)) else some false)).bind fun b3=>some b3
def Y2f (p0:Ls):Option Bool :=
 ((if p0=[] then some false else(if (p0.length:Int)≤(60:Int) then(Y2U p0 Y2J).bind fun b6=>some b6 else some false))).bind fun b3=>some b3
def Y1C {σ:Type}(Y:σ→Ls→Option (σ × Bool)):Nat→Ls→σ→Option ((Ls × σ) ⊕ σ)
 | 0,_,_=>none
 | m8+1,s6,s7=>(if (0:Int)<(s6.length:Int) then(Y0U s6).bind fun(n10,n11)=>(cut s6 0 n11).bind fun s13=>(Y s7 s13).bind fun(s14,b15)=>(if b15=true then(cut s6 n11 (s6.length:Int)).bind fun s18=>Y1C Y m8 s18 s14 else some (.inr s14)) else some (.inl (s6,s7)))
def Y0z {σ:Type}(Y:σ→Ls→Option (σ × Bool))(p1:Ls)(p3:Int):Nat→Ls→σ→Option ((Ls × σ) ⊕ σ)
 | 0,_,_=>none
 | m28+1,s26,s27=>(Y2a s26 p1).bind fun n29=>(if n29<(0:Int) then some (.inl (s26,s27)) else(chk (n29+p3)).bind fun n32=>(cut s26 0 n32).bind fun s33=>(Y s27 s33).bind fun(s34,b35)=>(if b35=true then(chk (n29+(p1.length:Int))).bind fun n38=>(cut s26 n38 (s26.length:Int)).bind fun s39=>Y0z Y p1 p3 m28 s39 s34 else some (.inr s34)))
def Y1H (p1:Ls)(p2:Ls)(p3:Int)(σ:Type)(Y:σ→Ls→Option (σ × Bool))(s0:σ):Option σ :=
 (if (p1.length:Int)=(0:Int) then((Y1C Y FU p2 s0:Option ((Ls × σ) ⊕ σ))).bind fun o21=>(match o21 with | .inl (s4,s5)=>some s5 | .inr r20=>some r20) else((Y0z Y p1 p3 FU p2 s0:Option ((Ls × σ) ⊕ σ))).bind fun o45=>(match o45 with | .inl (s24,s25)=>(Y s25 s24).bind fun(s41,b42)=>some s41 | .inr r44=>some r44))
def Y28 (p1:(UInt8→Option Bool))(s:(Bool × Nat))(x6:Ls):Option (Bool × Nat) :=
 match s with
 |(b1,_)=>((if x6=[] then some true else(Y2U x6 p1).bind fun b12=>some (!b12))).bind fun b10=>(if b10=true then some (false,1) else some (b1,0))
def Y2P (p0:Ls)(p1:(UInt8→Option Bool)):Option Bool :=
 (Y1H [46] p0 0 (Bool × Nat) (stepY exStop (Y28 p1)) (false,0)).bind fun(b1,tg3)=>(if tg3=0 then some true else(if tg3=1 then some b1 else none))
def Y2y (p0:UInt8):Option Bool :=
 ((Y2b p0).bind fun b4=>(if b4=true then some true else some (decide (p0=45)))).bind fun b3=>some b3
def Y2C (p0:Ls):Option Bool :=
 ((if (p0.length:Int)≤(60:Int) then(Y2P p0 Y2y).bind fun b5=>some b5 else some false)).bind fun b3=>some b3
def Y1L (p0:(Ls × Ls × Ls)):Option (Int × Int) :=
 (Y2r p0.1).bind fun n1=>(if n1=(0:Int) then(Y2f p0.2.1).bind fun b7=>(if b7=true then(Y2C p0.2.2).bind fun b13=>(if b13=true then(Y0T).bind fun(n19,n20)=>some (n19,n20) else(Y0a 10 (-5)).bind fun(n16,n17)=>some (n16,n17)) else(Y0a 10 (-4)).bind fun(n10,n11)=>some (n10,n11)) else(Y0a n1 (-3)).bind fun(n4,n5)=>some (n4,n5))
def Y1e (p0:(Ls × Bool × List (Ls × Ls × Ls))):Nat→Int→Option (Unit ⊕ Int)
 | 0,_=>none
 | m14+1,n13=>(if n13<(p0.2.2.length:Int) then(idx p0.2.2 n13).bind fun a16=>(Y1L (a16.1,a16.2.1,a16.2.2)).bind fun(n17,n18)=>(Y1z (n17,n18)).bind fun b20=>(if b20=true then some (.inr n17) else(chk (n13+1)).bind fun n23=>Y1e p0 m14 n23) else some (.inl ()))
def Y3s (p0:(Ls × Bool × List (Ls × Ls × Ls))):Option Int :=
 (Y2r p0.1).bind fun n1=>(if n1=(0:Int) then((if p0.2.1=(!decide (p0.1=[])) then(if p0.2.1=true then some false else some (!decide ((p0.2.2.length:Int)=(1:Int)))) else some true)).bind fun b6=>(if b6=true then some 5 else((Y1e p0 FU 0:Option (Unit ⊕ Int))).bind fun o26=>(match o26 with | .inl _=>some 0 | .inr r25=>some r25)) else some n1)
def Y10 (p0:List (Ls × Bool × List (Ls × Ls × Ls))):Nat→Int→Int→Option Int
 | 0,_,_=>none
 | m6+1,n4,n5=>(if n5<(p0.length:Int) then(idx p0 n5).bind fun a8=>(chk (n5+1)).bind fun n9=>Y10 p0 m6 (IntKind.i64.wrap (n4+(a8.2.2.length:Int))) n9 else some n4)
def Y11 (p0:List (Ls × Bool × List (Ls × Ls × Ls))):Nat→Int→Int→Int→Option ((Int × Int) ⊕ (Int × Int))
 | 0,_,_,_=>none
 | m27+1,n24,n25,n26=>(if n26<(p0.length:Int) then(idx p0 n26).bind fun a29=>(Y3s (a29.1,a29.2.1,a29.2.2)).bind fun n30=>(if n30=(0:Int) then(chk (n26+1)).bind fun n36=>Y11 p0 m27 n24 n25 n36 else(Y0a n30 n26).bind fun(n33,n34)=>some (.inr (n33,n34))) else some (.inl (n24,n25)))
def Y1T (p0:List (Ls × Bool × List (Ls × Ls × Ls))):Option (Int × Int) :=
 (Y10 p0 FU 0 0).bind fun n3=>((if (60:Int)<(p0.length:Int) then some true else some (decide ((60:Int)<n3)))).bind fun b13=>(if b13=true then(Y0a 2 (-1)).bind fun(n17,n18)=>some (n17,n18) else((Y11 p0 FU 0 0 0:Option ((Int × Int) ⊕ (Int × Int)))).bind fun o42=>(match o42 with | .inl (n22,n23)=>(Y0T).bind fun(n38,n39)=>some (n38,n39) | .inr r41=>some r41))
def Y2u (p0:UInt8):Option Bool :=
 ((Y2b p0).bind fun b4=>(if b4=true then some true else(Y0x [33,35,36,37,38,39,42,43,45,47,61,63,94,95,96,123,124,125,126] p0).bind fun n6=>some (decide ((0:Int)≤n6)))).bind fun b3=>some b3
def Y1Y (p0:Ls):Option Bool :=
 (Y2P p0 Y2u).bind fun b1=>some b1
def Y2k (p0:Ls):Option Ls :=
 (Y14 ([[92],[92,92],[34],[92,34]]:List Ls)).bind fun _=>(Y1a p0).bind fun s2=>(cat [34] s2).bind fun s3=>(cat s3 [34]).bind fun s4=>some s4
def Y0q (p0:(Ls × Ls × Ls)):Option Ls :=
 (Y1Y p0.2.1).bind fun b1=>(if b1=true then(cat p0.2.1 [64]).bind fun s4=>(cat s4 p0.2.2).bind fun s5=>some s5 else(Y2k p0.2.1).bind fun s6=>(cat s6 [64]).bind fun s8=>(cat s8 p0.2.2).bind fun s9=>some s9)
def Y23 (p0:Ls)(s:(Ls × Nat))(x11:Ls):Option (Ls × Nat) :=
 match s with
 |(s6,_)=>((if x11=[] then some true else(Y2U x11 Y2u).bind fun b17=>some (!b17))).bind fun b15=>(if b15=true then(Y2k p0).bind fun s21=>some (s21,1) else some (s6,0))
def Y2l (p0:Ls):Option Ls :=
 (Y0y p0).bind fun(s1,(n2,n3))=>(if s1=p0 then(Y1H [32] p0 0 (Ls × Nat) (stepY exStop (Y23 p0)) ([],0)).bind fun(s6,tg8)=>(if tg8=0 then some p0 else(if tg8=1 then some s6 else none)) else some s1)
def Y2K (p0:(Ls × Ls × Ls)):Option Ls :=
 (if p0.1=[] then(Y0q (p0.1,p0.2.1,p0.2.2)).bind fun s2=>some s2 else(Y2l p0.1).bind fun s4=>(cat s4 [32,60]).bind fun s6=>(Y0q (p0.1,p0.2.1,p0.2.2)).bind fun s7=>(cat s6 s7).bind fun s9=>(cat s9 [62]).bind fun s10=>some s10)
def Y0W (p0:Ls)(p1:Ls):Option Ls :=
 (Y0i p0 p1).bind fun b1=>(if b1=true then(chk ((p0.length:Int)-(p1.length:Int))).bind fun n4=>(cut p0 0 n4).bind fun s5=>some s5 else some p0)
def Y0J (p0:Ls)(p1:Ls):Option Ls :=
 (Y0W p0 p1).bind fun s1=>some s1
def Y0P (a19:(Ls × Bool × List (Ls × Ls × Ls))):Nat→List Ls→Int→Option (List Ls)
 | 0,_,_=>none
 | m29+1,l26,n28=>(if n28<(a19.2.2.length:Int) then(idx a19.2.2 n28).bind fun a32=>(Y2K (a32.1,a32.2.1,a32.2.2)).bind fun s33=>(app 16 l26 ([s33]:List Ls)).bind fun l35=>(chk (n28+1)).bind fun n36=>Y0P a19 m29 l35 n36 else some l26)
def Y0A (p0:List (Ls × Bool × List (Ls × Ls × Ls))):Nat→List Ls→Int→Option (List Ls)
 | 0,_,_=>none
 | m16+1,l13,n15=>(if n15<(p0.length:Int) then(idx p0 n15).bind fun a19=>(Y0P a19 FU [] 0).bind fun l23=>(Y0c l23 [44,32]).bind fun s39=>((if a19.2.1=true then(Y2l a19.1).bind fun s45=>(cat s45 [58,32]).bind fun s47=>(cat s47 s39).bind fun s48=>(Y0J s48 [32]).bind fun s49=>(cat s49 [59]).bind fun s51=>some s51 else some s39)).bind fun s43=>(app 16 l13 ([s43]:List Ls)).bind fun l53=>(chk (n15+1)).bind fun n54=>Y0A p0 m16 l53 n54 else some l13)
def Y2g (p0:List (Ls × Bool × List (Ls × Ls × Ls))):Option (Ls × (Int × Int)) :=
 (Y1T p0).bind fun(n1,n2)=>(Y1z (n1,n2)).bind fun b4=>(if b4=true then some ([],(n1,n2)) else(Y0A p0 FU [] 0).bind fun l10=>(Y0c l10 [44,32]).bind fun s57=>(if (4000:Int)<(s57.length:Int) then(Y0a 1 (-2)).bind fun(n60,n61)=>some ([],(n60,n61)) else(Y0T).bind fun(n63,n64)=>some (s57,(n63,n64))))
def Y0e (p0:(Ls × Int)):Option ((Ls × Int) ⊕ Int) :=
 some (.inr p0.2)
def Y05  : Nat→Ls→Int→Int→Option ((Ls × Int) ⊕ Int)
 | 0,_,_,_=>none
 | m6+1,s3,n4,n5=>(((if (s3.length:Int)≤n4 then(Y0e (s3,n4)).bind fun o14=>(match o14 with | .inl o12=>some (.inl (o12.1,o12.2)) | .inr n15=>some (.inr (.inr n15))) else some (.inl (s3,n4))):Option ((Ls × Int) ⊕ ((Ls × Int) ⊕ Int)))).bind fun o36=>(match o36 with | .inl (s9,n10)=>(idx s9 n10).bind fun c17=>(((if c17=40 then(chk (n5+1)).bind fun n24=>some (.inl (s9,n10,n24)) else(if c17=41 then(chk (n5-1)).bind fun n26=>(if n26=(0:Int) then(chk (n10+1)).bind fun n28=>some (.inr (.inl (s9,n28))) else some (.inl (s9,n10,n26))) else(if c17=92 then(chk (n10+1)).bind fun n30=>some (.inl (s9,n30,n5)) else some (.inl (s9,n10,n5))))):Option ((Ls × Int × Int) ⊕ ((Ls × Int) ⊕ Int)))).bind fun o34=>(match o34 with | .inl (s20,n21,n22)=>(chk (n21+1)).bind fun n32=>Y05  m6 s20 n32 n22 | .inr r33=>some r33) | .inr r35=>some r35)
def Y1p (p0:(Ls × Int)):Option ((Ls × Int) ⊕ Int) :=
 (Y05  FU p0.1 p0.2 0).bind fun r37=>some r37
def Y0d  : Nat→Ls→Int→Option ((Ls × Int) ⊕ ((Ls × Int) ⊕ Int))
 | 0,_,_=>none
 | m7+1,s5,n6=>(if n6<(s5.length:Int) then(idx s5 n6).bind fun c9=>(Y13 c9).bind fun b10=>(if b10=true then(chk (n6+1)).bind fun n13=>Y0d  m7 s5 n13 else(if c9=40 then(Y1p (s5,n6)).bind fun o17=>(match o17 with | .inl o15=>Y0d  m7 o15.1 o15.2 | .inr n18=>some (.inr (.inr n18))) else some (.inr (.inl (s5,n6))))) else some (.inl (s5,n6)))
def Y2w (p0:(Ls × Int)):Option ((Ls × Int) ⊕ Int) :=
 ((Y0d  FU p0.1 p0.2:Option ((Ls × Int) ⊕ ((Ls × Int) ⊕ Int)))).bind fun o21=>(match o21 with | .inl (s3,n4)=>some (.inl (s3,n4)) | .inr r20=>some r20)
def Y0g  : Nat→Ls→Int→Ls→Option ((Ls × (Ls × Int)) ⊕ Int)
 | 0,_,_,_=>none
 | m9+1,s4,n5,l7=>(((if (s4.length:Int)≤n5 then(Y0e (s4,n5)).bind fun o18=>(match o18 with | .inl o16=>some (.inl (o16.1,o16.2)) | .inr n19=>some (.inr (.inr n19))) else some (.inl (s4,n5))):Option ((Ls × Int) ⊕ ((Ls × (Ls × Int)) ⊕ Int)))).bind fun o54=>(match o54 with | .inl (s13,n14)=>(idx s13 n14).bind fun c21=>(if c21=34 then(chk (n14+1)).bind fun n23=>some (.inl (l7,(s13,n23))) else(((if c21=92 then(chk (n14+1)).bind fun n33=>(((if (s13.length:Int)≤n33 then(Y0e (s13,n33)).bind fun o41=>(match o41 with | .inl o39=>some (.inl (o39.1,o39.2)) | .inr n42=>some (.inr (.inr n42))) else some (.inl (s13,n33))):Option ((Ls × Int) ⊕ ((Ls × (Ls × Int)) ⊕ Int)))).bind fun o47=>(match o47 with | .inl (s36,n37)=>(idx s36 n37).bind fun c44=>(app 1 l7 ([c44]:Ls)).bind fun l45=>some (.inl (s36,n37,l45)) | .inr r46=>some (.inr r46)) else(app 1 l7 ([c21]:Ls)).bind fun l48=>some (.inl (s13,n14,l48))):Option ((Ls × Int × Ls) ⊕ ((Ls × (Ls × Int)) ⊕ Int)))).bind fun o52=>(match o52 with | .inl (s27,n28,l30)=>(chk (n28+1)).bind fun n50=>Y0g  m9 s27 n50 l30 | .inr r51=>some r51)) | .inr r53=>some r53)
def Y1R (p0:(Ls × Int)):Option ((Ls × (Ls × Int)) ⊕ Int) :=
 (chk (p0.2+1)).bind fun n1=>(Y0g  FU p0.1 n1 []).bind fun r55=>some r55
def Y0n  : Nat→Ls→Int→Option (Ls × Int)
 | 0,_,_=>none
 | m23+1,s21,n22=>((if n22<(s21.length:Int) then(idx s21 n22).bind fun c28=>(Y2u c28).bind fun b29=>(if b29=true then some true else(idx s21 n22).bind fun c31=>some (decide (c31=46))) else some false)).bind fun b26=>(if b26=true then(chk (n22+1)).bind fun n34=>Y0n  m23 s21 n34 else some (s21,n22))
def Y0l (p0:(Ls × Int)):Option ((Elt × (Ls × Int)) ⊕ Int) :=
 (Y2w (p0.1,p0.2)).bind fun o3=>(match o3 with | .inl o1=>(if (o1.1.length:Int)≤o1.2 then some (.inl ((none:Elt),(o1.1,o1.2))) else(idx o1.1 o1.2).bind fun c6=>(if c6=34 then(Y1R (o1.1,o1.2)).bind fun o11=>(match o11 with | .inl (s8,o9)=>some (.inl ((eltW (s8,true)),(o9.1,o9.2))) | .inr n12=>some (.inr n12)) else(Y0x [58,59,44,64,60,62] c6).bind fun n13=>(if (0:Int)≤n13 then(chk (o1.2+1)).bind fun n16=>some (.inl ((eltS c6),(o1.1,n16))) else(Y0n  FU o1.1 o1.2).bind fun(s19,n20)=>(((if n20=o1.2 then(Y0e (s19,n20)).bind fun o43=>(match o43 with | .inl o41=>some (.inl (o41.1,o41.2)) | .inr n44=>some (.inr (.inr n44))) else some (.inl (s19,n20))):Option ((Ls × Int) ⊕ ((Elt × (Ls × Int)) ⊕ Int)))).bind fun o48=>(match o48 with | .inl (s38,n39)=>(cut s38 o1.2 n39).bind fun s46=>some (.inl ((eltW (s46,false)),(s38,n39))) | .inr r47=>some r47)))) | .inr n4=>some (.inr n4))
def Y0f (p0:(Ls × Int)):Option ((Elt × (Ls × Int)) ⊕ Int) :=
 (Y0l (p0.1,p0.2)).bind fun o4=>(match o4 with | .inl (n1,o2)=>some (.inl (n1,(o2.1,p0.2))) | .inr n5=>some (.inr n5))
def Y0h  : Nat→Ls→Int→List (Ls × Bool)→Option ((List (Ls × Bool) × (Ls × Int)) ⊕ Int)
 | 0,_,_,_=>none
 | m8+1,s3,n4,l6=>(Y0f (s3,n4)).bind fun o13=>(match o13 with | .inl (n10,o11)=>(okW n10).bind fun(w15,b16)=>(if b16=true then(Y0l (o11.1,o11.2)).bind fun o22=>(match o22 with | .inl (n19,o20)=>(app 24 l6 ([(w15.1,w15.2)]:List (Ls × Bool))).bind fun l24=>Y0h  m8 o20.1 o20.2 l24 | .inr n23=>some (.inr n23)) else some (.inl (l6,(o11.1,o11.2)))) | .inr n14=>some (.inr n14))
def Y0V (p0:(Ls × Int)):Option ((List (Ls × Bool) × (Ls × Int)) ⊕ Int) :=
 (Y0h  FU p0.1 p0.2 []).bind fun r26=>some r26
def Y0F (p0:(Ls × Int))(p1:UInt8):Option ((Bool × (Ls × Int)) ⊕ Int) :=
 (Y0f (p0.1,p0.2)).bind fun o4=>(match o4 with | .inl (n1,o2)=>(if n1=(eltS p1) then(Y0l (o2.1,o2.2)).bind fun o10=>(match o10 with | .inl (n7,o8)=>some (.inl (true,(o8.1,o8.2))) | .inr n11=>some (.inr n11)) else some (.inl (false,(o2.1,o2.2)))) | .inr n5=>some (.inr n5))
def Y15 (p0:(Ls × Int))(p1:UInt8):Option ((Ls × Int) ⊕ Int) :=
 (Y0F (p0.1,p0.2) p1).bind fun o4=>(match o4 with | .inl (b1,o2)=>(if b1=true then some (.inl (o2.1,o2.2)) else(Y0e (o2.1,o2.2)).bind fun o9=>(match o9 with | .inl o7=>some (.inl (o7.1,o7.2)) | .inr n10=>some (.inr n10))) | .inr n5=>some (.inr n5))
def Y0r (p0:(Ls × Int))(p1:List (Ls × Bool)):Option (((Ls × Ls × Ls) × (Ls × Int)) ⊕ Int) :=
 ((if (p1.length:Int)=(1:Int) then(idx p1 0).bind fun a5=>(Y2f a5.1).bind fun b6=>(if b6=true then(idx p1 0).bind fun a8=>(if a8.2=true then some false else(idx p1 0).bind fun a10=>(Y1Y a10.1).bind fun b11=>some (!b11)) else some true) else some true)).bind fun b3=>(((if b3=true then(Y0e (p0.1,p0.2)).bind fun o21=>(match o21 with | .inl o19=>some (.inl (o19.1,o19.2)) | .inr n22=>some (.inr (.inr n22))) else some (.inl (p0.1,p0.2))):Option ((Ls × Int) ⊕ (((Ls × Ls × Ls) × (Ls × Int)) ⊕ Int)))).bind fun o57=>(match o57 with | .inl (s16,n17)=>(Y15 (s16,n17) 64).bind fun o26=>(match o26 with | .inl o24=>(Y0l (o24.1,o24.2)).bind fun o31=>(match o31 with | .inl (n28,o29)=>(okW n28).bind fun(w33,b34)=>((if b34=true then(if w33.2=true then some true else(Y2C w33.1).bind fun b40=>some (!b40)) else some true)).bind fun b38=>(((if b38=true then(Y0e (o29.1,o29.2)).bind fun o50=>(match o50 with | .inl o48=>some (.inl (o48.1,o48.2)) | .inr n51=>some (.inr (.inr n51))) else some (.inl (o29.1,o29.2))):Option ((Ls × Int) ⊕ (((Ls × Ls × Ls) × (Ls × Int)) ⊕ Int)))).bind fun o55=>(match o55 with | .inl (s45,n46)=>(idx p1 0).bind fun a53=>some (.inl (([],a53.1,w33.1),(s45,n46))) | .inr r54=>some r54) | .inr n32=>some (.inr n32)) | .inr n27=>some (.inr n27)) | .inr r56=>some r56)
def Y1D (p0:List Ls)(p1:List Ls):Option (List Ls × List Ls) :=
 (if (0:Int)<(p0.length:Int) then(Y0c p0 [32]).bind fun s4=>(Y1k s4).bind fun(s6,(n7,n8))=>(app 16 p1 ([s6]:List Ls)).bind fun l10=>some ([],l10) else some (p0,p1))
def Y0p (p0:List (Ls × Bool)):Nat→List Ls→List Ls→Int→Option (List Ls × List Ls)
 | 0,_,_,_=>none
 | m16+1,l10,l13,n15=>(if n15<(p0.length:Int) then(idx p0 n15).bind fun a20=>(if a20.2=true then(Y1D l13 l10).bind fun(o22,o23)=>(app 16 o23 ([a20.1]:List Ls)).bind fun l25=>(chk (n15+1)).bind fun n26=>Y0p p0 m16 l25 o22 n26 else(app 16 l13 ([a20.1]:List Ls)).bind fun l27=>(chk (n15+1)).bind fun n28=>Y0p p0 m16 l10 l27 n28) else some (l10,l13))
def Y1U (p0:List (Ls × Bool)):Option Ls :=
 (Y0p p0 FU [] [] 0).bind fun(l4,l7)=>(Y1D l7 l4).bind fun(o30,o31)=>(Y0c o31 [32]).bind fun s34=>some s34
def Y0H (p0:(Ls × Int))(p1:List (Ls × Bool)):Option (((Ls × Ls × Ls) × (Ls × Int)) ⊕ Int) :=
 (Y0F (p0.1,p0.2) 60).bind fun o4=>(match o4 with | .inl (b1,o2)=>(if b1=true then(Y0V (o2.1,o2.2)).bind fun o17=>(match o17 with | .inl (l14,o15)=>(Y0r (o15.1,o15.2) l14).bind fun o24=>(match o24 with | .inl ((s19,s20,s21),o22)=>(Y1U p1).bind fun s26=>(Y15 (o22.1,o22.2) 62).bind fun o30=>(match o30 with | .inl o28=>some (.inl ((s26,s20,s21),(o28.1,o28.2))) | .inr n31=>some (.inr n31)) | .inr n25=>some (.inr n25)) | .inr n18=>some (.inr n18)) else(Y0r (o2.1,o2.2) p1).bind fun o12=>(match o12 with | .inl ((s7,s8,s9),o10)=>some (.inl ((s7,s8,s9),(o10.1,o10.2))) | .inr n13=>some (.inr n13))) | .inr n5=>some (.inr n5))
def Y0I  : Nat→Ls→Int→Ls→Bool→List (Ls × Ls × Ls)→Ls→Bool→List (Ls × Ls × Ls)→Option (((Ls × Bool × List (Ls × Ls × Ls)) × (Ls × Int)) ⊕ Int)
 | 0,_,_,_,_,_,_,_,_=>none
 | m51+1,s39,n40,s41,b42,l43,s46,b47,l49=>(Y0V (s39,n40)).bind fun o56=>(match o56 with | .inl (l53,o54)=>(Y0H (o54.1,o54.2) l53).bind fun o63=>(match o63 with | .inl ((s58,s59,s60),o61)=>(app 48 l49 ([(s58,s59,s60)]:List (Ls × Ls × Ls))).bind fun l65=>(Y0F (o61.1,o61.2) 59).bind fun o70=>(match o70 with | .inl (b67,o68)=>(if b67=true then some (.inl ((s46,b47,l65),(o68.1,o68.2))) else(Y15 (o68.1,o68.2) 44).bind fun o76=>(match o76 with | .inl o74=>Y0I  m51 o74.1 o74.2 s41 b42 l43 s46 b47 l65 | .inr n77=>some (.inr n77))) | .inr n71=>some (.inr n71)) | .inr n64=>some (.inr n64)) | .inr n57=>some (.inr n57))
def Y0m (p0:(Ls × Int)):Option (((Ls × Bool × List (Ls × Ls × Ls)) × (Ls × Int)) ⊕ Int) :=
 (Y0V (p0.1,p0.2)).bind fun o4=>(match o4 with | .inl (l1,o2)=>(Y0F (o2.1,o2.2) 58).bind fun o9=>(match o9 with | .inl (b6,o7)=>(if b6=true then(Y1U l1).bind fun s19=>(((if s19=[] then(Y0e (o7.1,o7.2)).bind fun o28=>(match o28 with | .inl o26=>some (.inl (o26.1,o26.2)) | .inr n29=>some (.inr (.inr n29))) else some (.inl (o7.1,o7.2))):Option ((Ls × Int) ⊕ (((Ls × Bool × List (Ls × Ls × Ls)) × (Ls × Int)) ⊕ Int)))).bind fun o80=>(match o80 with | .inl (s23,n24)=>(Y0F (s23,n24) 59).bind fun o34=>(match o34 with | .inl (b31,o32)=>(if b31=true then some (.inl ((s19,true,[]),(o32.1,o32.2))) else(Y0I  FU o32.1 o32.2 [] false [] s19 true []).bind fun r78=>some r78) | .inr n35=>some (.inr n35)) | .inr r79=>some r79) else(Y0H (o7.1,o7.2) l1).bind fun o17=>(match o17 with | .inl ((s12,s13,s14),o15)=>some (.inl (([],false,([(s12,s13,s14)]:List (Ls × Ls × Ls))),(o15.1,o15.2))) | .inr n18=>some (.inr n18))) | .inr n10=>some (.inr n10)) | .inr n5=>some (.inr n5))
def Y1l (p0:Ls):Nat→List (Ls × Bool × List (Ls × Ls × Ls))→Ls→Int→Option ((List (Ls × Bool × List (Ls × Ls × Ls)) × Ls × Int) ⊕ (List (Ls × Bool × List (Ls × Ls × Ls)) × (Int × Int)))
 | 0,_,_,_=>none
 | m49+1,l43,s47,n48=>(Y0F (s47,n48) 44).bind fun o53=>(match o53 with | .inl (b50,o51)=>(if b50=true then(Y0m (o51.1,o51.2)).bind fun o61=>(match o61 with | .inl ((s56,b57,l58),o59)=>(app 48 l43 ([(s56,b57,l58)]:List (Ls × Bool × List (Ls × Ls × Ls)))).bind fun l64=>Y1l p0 m49 l64 o59.1 o59.2 | .inr n62=>some (.inr ([],((11:Int),(min n62 (p0.length:Int)))))) else some (.inl (l43,o51.1,o51.2))) | .inr n54=>some (.inr ([],((11:Int),(min n54 (p0.length:Int))))))
def Y1f (p0:Ls):Option (List (Ls × Bool × List (Ls × Ls × Ls)) × (Int × Int)) :=
 (if (4000:Int)<(p0.length:Int) then(Y0a 1 (-1)).bind fun(n2,n3)=>some ([],(n2,n3)) else(Y0f (p0,0)).bind fun o9=>(match o9 with | .inl (n6,o7)=>(((if n6=none then some (.inl []) else(Y0m (o7.1,o7.2)).bind fun o24=>(match o24 with | .inl ((s19,b20,l21),o22)=>(app 48 ([]:List (Ls × Bool × List (Ls × Ls × Ls))) ([(s19,b20,l21)]:List (Ls × Bool × List (Ls × Ls × Ls)))).bind fun l29=>((Y1l p0 FU l29 o22.1 o22.2:Option ((List (Ls × Bool × List (Ls × Ls × Ls)) × Ls × Int) ⊕ (List (Ls × Bool × List (Ls × Ls × Ls)) × (Int × Int))))).bind fun o80=>(match o80 with | .inl (l36,s40,n41)=>(Y0f (s40,n41)).bind fun o72=>(match o72 with | .inl (n69,o70)=>(if n69=none then some (.inl l36) else(Y0e (o70.1,o70.2)).bind fun o77=>(match o77 with | .inl o75=>some (.inl l36) | .inr n78=>some (.inr ([],((11:Int),(min n78 (p0.length:Int))))))) | .inr n73=>some (.inr ([],((11:Int),(min n73 (p0.length:Int)))))) | .inr r79=>some (.inr r79)) | .inr n25=>some (.inr ([],((11:Int),(min n25 (p0.length:Int))))))):Option (List (Ls × Bool × List (Ls × Ls × Ls)) ⊕ (List (Ls × Bool × List (Ls × Ls × Ls)) × (Int × Int))))).bind fun o98=>(match o98 with | .inl l14=>(Y1T l14).bind fun(n85,n86)=>(Y1z (n85,n86)).bind fun b88=>(if b88=true then(Y0a n85 (-2)).bind fun(n91,n92)=>some ([],(n91,n92)) else(Y0T).bind fun(n94,n95)=>some (l14,(n94,n95))) | .inr r97=>some r97) | .inr n10=>some ([],((11:Int),(min n10 (p0.length:Int))))))
def Y2V (p0:(Ls × Ls × Ls)):Option (Ls × (Int × Int)) :=
 (Y1L (p0.1,p0.2.1,p0.2.2)).bind fun(n1,n2)=>(Y1z (n1,n2)).bind fun b4=>(if b4=true then some ([],(n1,n2)) else(Y3A p0.2.2).bind fun s7=>(Y0q (p0.1,p0.2.1,s7)).bind fun s9=>(Y0T).bind fun(n11,n12)=>some (s9,(n11,n12)))
def Y1Z (p0:List (Ls × Bool × List (Ls × Ls × Ls))):Nat→List (Ls × Ls × Ls)→Int→Option (List (Ls × Ls × Ls))
 | 0,_,_=>none
 | m16+1,l13,n15=>(if n15<(p0.length:Int) then(idx p0 n15).bind fun a19=>(Y1Q a19.2.2).bind fun l20=>(app 48 l13 l20).bind fun l22=>(chk (n15+1)).bind fun n23=>Y1Z p0 m16 l22 n23 else some l13)
def Y3i (p0:List (Ls × Bool × List (Ls × Ls × Ls))):Option (List (Ls × Ls × Ls) × (Int × Int)) :=
 (Y1T p0).bind fun(n1,n2)=>(Y1z (n1,n2)).bind fun b4=>(if b4=true then some ([],(n1,n2)) else(Y1Z p0 FU [] 0).bind fun l10=>(Y0T).bind fun(n25,n26)=>some (l10,(n25,n26)))
def Y0B  : Option Bool :=
 (Y2g ([([],false,([([65,46,32,66],[97],[120])]:List (Ls × Ls × Ls)))]:List (Ls × Bool × List (Ls × Ls × Ls)))).bind fun(s2,(n3,n4))=>(Y1f [103,58,32,97,64,120,44,32,98,64,120,59]).bind fun(l6,(n7,n8))=>(Y2V ([],[65],[88,46,69,120,97,109,112,108,101])).bind fun(s10,(n11,n12))=>(Y3i l6).bind fun(l14,(n15,n16))=>((if n3=(0:Int) then(if n7=(0:Int) then(if n11=(0:Int) then(if n15=(0:Int) then(if s2=[34,65,46,32,66,34,32,60,97,64,120,62] then(if (l6.length:Int)=(1:Int) then(idx l6 0).bind fun a27=>(if a27.2.1=true then(idx l6 0).bind fun a29=>(if a29.1=[103] then(if s10=[65,64,120,46,101,120,97,109,112,108,101] then(if (l14.length:Int)=(2:Int) then(idx l14 1).bind fun a33=>some (decide (a33.2.1=[98])) else some false) else some false) else some false) else some false) else some false) else some false) else some false) else some false) else some false) else some false)).bind fun b20=>some b20
def Y0K (p0:List (Ls × Ls × Ls))(p1:List (Ls × Ls × Ls)):Nat→Int→Option (Unit ⊕ Bool)
 | 0,_=>none
 | m5+1,n4=>(if n4<(p0.length:Int) then(idx p0 n4).bind fun a7=>(idx p1 n4).bind fun a8=>(if a7.1=a8.1∧a7.2.1=a8.2.1∧a7.2.2=a8.2.2 then(chk (n4+1)).bind fun n10=>Y0K p0 p1 m5 n10 else some (.inr false)) else some (.inl ()))
def Y2s (p0:List (Ls × Ls × Ls))(p1:List (Ls × Ls × Ls)):Option Bool :=
 (if (p0.length:Int)=(p1.length:Int) then((Y0K p0 p1 FU 0:Option (Unit ⊕ Bool))).bind fun o13=>(match o13 with | .inl _=>some true | .inr r12=>some r12) else some false)
def Y1w (p0:List (Ls × Bool × List (Ls × Ls × Ls)))(p1:List (Ls × Bool × List (Ls × Ls × Ls))):Nat→Int→Option (Unit ⊕ Bool)
 | 0,_=>none
 | m5+1,n4=>(if n4<(p0.length:Int) then((idx p0 n4).bind fun a10=>(idx p1 n4).bind fun a11=>(if a10.1=a11.1 then(idx p0 n4).bind fun a13=>(idx p1 n4).bind fun a14=>(if a13.2.1=a14.2.1 then(idx p0 n4).bind fun a16=>(idx p1 n4).bind fun a17=>(Y2s a16.2.2 a17.2.2).bind fun b18=>some (!b18) else some true) else some true)).bind fun b9=>(if b9=true then some (.inr false) else(chk (n4+1)).bind fun n22=>Y1w p0 p1 m5 n22) else some (.inl ()))
def Y33 (p0:List (Ls × Bool × List (Ls × Ls × Ls)))(p1:List (Ls × Bool × List (Ls × Ls × Ls))):Option Bool :=
 (if (p0.length:Int)=(p1.length:Int) then((Y1w p0 p1 FU 0:Option (Unit ⊕ Bool))).bind fun o25=>(match o25 with | .inl _=>some true | .inr r24=>some r24) else some false)
def Y2F (p0:List (Ls × Bool × List (Ls × Ls × Ls))):Option Bool :=
 (Y0B).bind fun b1=>(if b1=true then(Y2g p0).bind fun(s4,(n5,n6))=>(if n5=(0:Int) then(Y1f s4).bind fun(l9,(n10,n11))=>((if n10=(0:Int) then(Y33 l9 p0).bind fun b17=>some (!b17) else some true)).bind fun b15=>(if b15=true then some false else(fold_Fold [84,111] s4).bind fun(l21,(n22,n23))=>((if n22=(0:Int) then some (decide ((300:Int)<(l21.length:Int))) else some true)).bind fun b27=>(if b27=true then((if n22=(0:Int) then some true else some (decide ((l21.length:Int)=(0:Int))))).bind fun b33=>some b33 else(fold_Unfold l21).bind fun(s36,s37,(n38,n39))=>(Y1f s37).bind fun(l41,(n42,n43))=>((if n38=(0:Int) then(if n42=(0:Int) then(Y33 l41 p0).bind fun b50=>some b50 else some false) else some false)).bind fun b47=>some b47)) else some (decide (s4=[]))) else some false)
end Go.Ph.Pf
end
section
namespace Go.Proofs.YtkmjdamkifbddaaGreatDoor
open Go Go.RowKit Go.Ph Go.Ph.Pl Go.Ph.Pf
abbrev xenc24 (x:(Ls × Ls × Ls)):List Value:=[S x.1,S x.2.1,S x.2.2]
abbrev xenc136 (x:(Ls × Bool)):List Value:=[S x.1,Value.bool x.2]
theorem xty55 : ElemTy Tryz.prog 55 9 (.string ⟨#[]⟩) 1 16:=q1L Tu55 Kr rfl Dc
theorem xty88 : ElemTy Tryz.prog 88 5 (.int .u8 0) 1 1:=q1L Tu88 Kr rfl Dc
theorem xone1_5 :(Tryz.prog.info? 5).map (·.size)=some 1:=by kernel_rfl
theorem xty30 : ElemTy Tryz.prog 30 24 (.agg #[.string ⟨#[]⟩, .string ⟨#[]⟩, .string ⟨#[]⟩]) 3 48:=q1L Tu30 Kr rfl Dc
theorem xone24 :∀(a:(Ls × Ls × Ls)),∀u∈xenc24 a,u.oneCell'=true:=by
 intro a u hu;simp only[xenc24,l0U,l0L,or_false] at hu;rcases hu with rfl|rfl|rfl <;> rfl
abbrev xenr34 (f:(Ls × Bool × Hd)):List Value:=[S f.1,Value.bool f.2.1,hv f.2.2]
abbrev xrl34 : Rl (Ls × Bool × Hd) (Ls × Bool × List (Ls × Ls × Ls)) where
 k:=3
 enc:=xenr34
 rel M f x:=f.1=x.1∧f.2.1=x.2.1∧SlS M 3 xenc24 (hv f.2.2) x.2.2
 len:=fun _=>rfl
 one:=by
  intro f u hu;simp only[l0U,l0L,or_false] at hu;rcases hu with rfl|rfl|rfl <;> rfl
 up:=by intro M M' hl f x h;exact ⟨h.1,h.2.1,h.2.2.mono hl⟩
theorem xplaces24 :∀{fs:Array Field},Tryz.prog.underlying 24=some (.struct fs)→∀w,(fs.mapM fun f=>do pure (f.offset,←sizeOf f.type):Sem (Array (Nat × Nat))).run Tryz.prog w = .ok #[(0,1),(1,1),(2,1)] w:=by
 intro fs h w;rw[Tu24] at h;cases h;simp
theorem xplaces34 :∀{fs:Array Field},Tryz.prog.underlying 34=some (.struct fs)→∀w,(fs.mapM fun f=>do pure (f.offset,←sizeOf f.type):Sem (Array (Nat × Nat))).run Tryz.prog w = .ok #[(0,1),(1,1),(2,1)] w:=by
 intro fs h w;rw[Tu34] at h;cases h;simp
theorem xty22 : ElemTy Tryz.prog 22 34 (.agg #[.string ⟨#[]⟩, .bool false, .slice none 0 0]) 3 48:=q1L Tu22 Kr rfl Dc
theorem xplaces27 :∀{fs:Array Field},Tryz.prog.underlying 27=some (.struct fs)→∀w,(fs.mapM fun f=>do pure (f.offset,←sizeOf f.type):Sem (Array (Nat × Nat))).run Tryz.prog w = .ok #[(0,1),(1,1)] w:=by
 intro fs h w;rw[Tu27] at h;cases h;simp
def FnT90 (M:Mem)(v:Value)(g:(UInt8→Option Bool)):Prop:=One v∧∀(a0:UInt8) (r:Bool),g a0=some r→FnV Tryz.prog M v [encB a0] (fun v M=>v=Value.bool r)
theorem FnT90.mono {M M':Mem}{v:Value}{g:(UInt8→Option Bool)}(h:FnT90 M v g)(hl:M.le M'):FnT90 M' v g:=⟨h.1,fun a0 r hr=>(h.2 a0 r hr).mono hl⟩
theorem xplaces72 :∀{fs:Array Field},Tryz.prog.underlying 72=some (.struct fs)→∀w,(fs.mapM fun f=>do pure (f.offset,←sizeOf f.type):Sem (Array (Nat × Nat))).run Tryz.prog w = .ok #[(0,1),(1,1)] w:=by
 intro fs h w;rw[Tu72] at h;cases h;simp
theorem xplaces69 :∀{fs:Array Field},Tryz.prog.underlying 69=some (.struct fs)→∀w,(fs.mapM fun f=>do pure (f.offset,←sizeOf f.type):Sem (Array (Nat × Nat))).run Tryz.prog w = .ok #[(0,1)] w:=by
 intro fs h w;rw[Tu69] at h;cases h;simp
theorem xplaces136 :∀{fs:Array Field},Tryz.prog.underlying 136=some (.struct fs)→∀w,(fs.mapM fun f=>do pure (f.offset,←sizeOf f.type):Sem (Array (Nat × Nat))).run Tryz.prog w = .ok #[(0,1),(1,1)] w:=by
 intro fs h w;rw[Tu136] at h;cases h;simp
theorem xty107 : ElemTy Tryz.prog 107 136 (.agg #[.string ⟨#[]⟩, .bool false]) 2 24:=q1L Tu107 Kr rfl Dc
theorem xone136 :∀(a:(Ls × Bool)),∀u∈xenc136 a,u.oneCell'=true:=by
 intro a u hu;simp only[xenc136,l0U,l0L,or_false] at hu;rcases hu with rfl|rfl <;> rfl
theorem xeq24 (a0 b0:Ls)(a1 b1:Ls)(a2 b2:Ls)(w:World):(Op.equalIn 10000 24 (.agg #[S a0,S a1,S a2]) (.agg #[S b0,S b1,S b2])).run Tryz.prog w = .ok (decide (a0=b0∧a1=b1∧a2=b2)) w:=by
 rw[run_equalIn_struct w 9999 24 _ _ (by rw[Program.fieldsOf,Tu24]) Kr];rw[Program.fieldsOf,Tu24];by_cases h0:a0=b0
 rotate_left
 · simp [Op.eqFields,part,h0,Ta9,run_equalIn_string _ _ _ _ _ Tu9]
 by_cases h1:a1=b1
 rotate_left
 · simp [Op.eqFields,part,h0,h1,Ta9,run_equalIn_string _ _ _ _ _ Tu9]
 by_cases h2:a2=b2
 rotate_left
 · simp [Op.eqFields,part,h0,h1,h2,Ta9,run_equalIn_string _ _ _ _ _ Tu9]
 simp [Op.eqFields,part,h0,h1,h2,Ta9,run_equalIn_string _ _ _ _ _ Tu9]
theorem indexByte_ixB (l:Ls)(c:UInt8):Lib.indexByte l c=ixB l c:=by
 unfold ixB;induction l with
 | nil=>simp [Lib.indexByte]
 | cons b l ih =>
   simp only[Lib.indexByte,List.idxOf_cons,l02];by_cases h:b=c
   · subst h;simp
   have h':(b == c)=false:=by simpa using h
   rw[h',ih];simp only[l0h,if_false,cond_false];by_cases hl:l.idxOf c<l.length
   · have h1:l.idxOf c+1<l.length+1:=by omega
     have h2 :¬(((l.idxOf c:Int) == -1)=true):=by simp only[beq_iff_eq];omega
     simp only[hl,h1,if_true,h2,if_false,l0h];omega
   have h1 :¬(l.idxOf c+1<l.length+1):=by omega
   simp only[hl,h1,if_false];rfl
theorem join_jn (sep:Ls):∀l:List Ls,Lib.join l sep=jn sep l
 | []=>rfl
 | [x]=>Lib.join_one x sep
 | x::y::r=>by
   have h:=join_jn sep (y::r);rw[Lib.join_cons] at h ⊢;rw[jn,←h];simp [Lib.joinTail]
theorem Y3F {p0:Ls}{r:Bool}(h:Y1i p0=some r):Ct Tryz.prog 65 [S p0] (fun M=>Tabs M) (fun v M=>v=Value.bool r):=by
 unfold Y1i at h;split at h
 case isFalse=>cases h
 rename_i hb;cases h;exact validString_spec p0 hb
theorem grapheme_Split_ct {p0:Ls}{r:List Ls}(h:grapheme_Split p0=some r):Ct Tryz.prog 139 [S p0] (fun M=>Tabs M) (fun v M=>Sl M encS v r):=by
 unfold grapheme_Split at h;split at h
 case isFalse=>cases h
 rename_i hb;cases h;exact split_spec p0 hb
theorem Y54 {p0:Ls}{r:Ls}(h:Y3A p0=some r):Ct Tryz.prog 55 [S p0] (fun M=>True) (fun v M=>v=S r):=by
 unfold Y3A at h;split at h
 case isFalse=>cases h
 rename_i hb;cases h;exact lower_spec p0 hb
theorem Y4V {p0:Ls}{r:Ls}(h:Y3K p0=some r):Ct Tryz.prog 110 [S p0] (fun M=>True) (fun v M=>v=S r):=by
 unfold Y3K at h;cases h;exact best_spec p0
theorem Y4F {p0:Ls}{p1:Ls}{vp1:Value}{r:(Ls × (Int × Int))}(h:Y2S p0 p1=some r):Ct Tryz.prog 186 [S p0,vp1] (fun M=>Sl M encB vp1 p1) (fun v M=>v=Value.tuple #[S r.1,Value.agg #[I r.2.1,I r.2.2]]):=by
 unfold Y2S at h;split at h
 case isFalse=>cases h
 rename_i hb;split at h
 · rename_i k hk;cases h;exact decode_spec_k p0 vp1 p1 hb.1 hb.2 k hk
 rename_i hk;cases h;exact decode_unk p0 vp1 p1 hb.1 hb.2 hk
theorem Y4G {p0:Ls}{p1:Ls}{r:(Ls × (Int × Int))}(h:Y2T p0 p1=some r):Ct Tryz.prog 140 [S p0,S p1] (fun M=>Tabs M) (fun v M =>∃x0,v=Value.tuple #[x0,Value.agg #[I r.2.1,I r.2.2]]∧Sl M encB x0 r.1):=by
 unfold Y2T at h;split at h
 case isFalse=>cases h
 rename_i hb;split at h
 · rename_i k hk;split at h
   · rename_i hv;split at h
     · rename_i b he;cases h;exact encode_ok hb.1 hb.2 hk hv he
     rename_i e he;cases h;exact (encode_err hb.1 hb.2 hk hv he).mono fun v M hv=>⟨_,hv,q2e _ _⟩
   rename_i hv;cases h;exact (encode_mal p0 p1 hb.1 hb.2 k hk (by simpa using hv)).mono fun v M hv=>⟨_,hv,q2e _ _⟩
 rename_i hk;cases h;exact (encode_unk p0 p1 hb.1 hb.2 hk).mono fun v M hv=>⟨_,hv,q2e _ _⟩
theorem Y4L {p0:Ls}{vp0:Value}{r:(Ls × (Int × Int))}(h:Y3w p0=some r):Ct Tryz.prog 171 [vp0] (fun M=>Sl M encB vp0 p0) (fun v M =>∃x0,v=Value.tuple #[x0,Value.agg #[I r.2.1,I r.2.2]]∧Sl M encB x0 r.1):=by
 unfold Y3w at h;split at h
 case isFalse=>cases h
 rename_i hb;cases h;exact encode_spec vp0 p0 hb
theorem Y4H {p0:Ls}{vp0:Value}{r:(Ls × (Int × Int))}(h:Y3o p0=some r):Ct Tryz.prog 209 [vp0] (fun M=>Sl M encB vp0 p0) (fun v M =>∃x0,v=Value.tuple #[x0,Value.agg #[I r.2.1,I r.2.2]]∧Sl M encB x0 r.1):=by
 unfold Y3o at h;split at h
 case isFalse=>cases h
 rename_i hb;cases h;exact lenient_spec vp0 p0 hb
theorem Y3J {p0:Ls}{r:Int × Int}(h:Y0U p0=some r):Ct Tryz.prog 130 [S p0] (fun M=>Tabs M) (fun v M=>v=Value.tuple #[Value.int .i32 r.1,I r.2]):=by
 unfold Y0U at h;split at h
 case isFalse=>cases h
 rename_i hb;cases h;exact decode_spec p0 hb
theorem countByte_P (c:UInt8):∀l:Ls,Lib.countByte l c=((l.countP fun x=>decide ([c]=[x]):Nat):Int):=by
 intro l;induction l with
 | nil=>rfl
 | cons a l ih =>
   rw[l1N];by_cases h:c=a
   · subst h;simp [Lib.countByte] at ih ⊢;omega
   have h' :¬a=c:=fun e=>h e.symm
   simp [Lib.countByte,h,h'] at ih ⊢;omega
theorem Y4M {p0 p1:Ls}{r:Int}(h:Y1S p0 p1=some r):Ct Tryz.prog 218 [S p0,S p1] (fun _=>True) (fun v M=>v=I r):=by
 unfold Y1S at h;split at h
 case isFalse=>cases h
 rename_i hb;cases h;obtain⟨c,rfl⟩ :∃c,p1=[c]:=List.length_eq_one_iff.1 hb.1;refine⟨enters Tf218 Kr G,fun w M ha hp=>?_⟩;exact(Tryz.strings_Count_one ⟨p0.toArray⟩ c w).mono fun e w' ⟨he,hw⟩=>⟨_,M,he,by subst hw;exact q2d ha,by rw[countByte_P]⟩
theorem Y2p {p0:Ls}{p1:UInt8}{r:Int}(h:Y0x p0 p1=some r):Ct Tryz.prog 114 [S p0,encB p1] (fun M=>True) (fun v M=>v=I r):=by
 cases h;refine⟨enters Tf114 Kr G,fun w M ha hp=>?_⟩;exact(Tryz.strings_IndexByte ⟨p0.toArray⟩ (p1.toNat:Int) w).mono fun e w' ⟨he,hw⟩=>⟨_,M,he,by subst hw;exact q2d ha,by rw[←indexByte_ixB];simp⟩
theorem Y1E {p0:List Ls}{p1:Ls}{vp0:Value}{r:Ls}(h:Y0c p0 p1=some r):Ct Tryz.prog 41 [vp0,S p1] (fun M=>Sl M encS vp0 p0) (fun v M=>v=S r):=by
 unfold Y0c at h;split at h
 case isFalse=>cases h
 rename_i hb;cases h;refine⟨enters Tryz.func41 Kr G,fun w M ha hp=>?_⟩;obtain⟨A,cp,rfl,hc,hn⟩:=Sl.cells hp ha;rcases l2m p0.length with h0|h0
 · obtain rfl:=l0a h0;exact(Tryz.strings_Join_none A cp ⟨p1.toArray⟩ w).mono fun e w' ⟨he,hw⟩=>⟨_,M,he,by subst hw;exact q2d ha,rfl⟩
 cases A with
 | none=>obtain⟨rfl,_⟩:=hn rfl;simp at h0
 | some ad =>
   obtain⟨A',c',he',h1,⟨h2,h3⟩,h4⟩:=hp;cases he';obtain⟨b,o,cs,t0,fz,e1,e2,e3⟩:=h4 (fun h=>by rw[h] at h0;simp at h0);cases e1;have hmap:(p0.map (fun l=>(⟨l.toArray⟩:ByteArray))).map (·.data.toList)=p0:=by
    rw[l1z]
    conv=>rhs;rw [←List.map_id p0]
    exact l1y (fun l _=>G)
   have hcall:=Tryz.strings_Join b o cp (p0.map (fun l=>(⟨l.toArray⟩:ByteArray))) ⟨p1.toArray⟩ w (fun j x hx=>by
    rw[List.getElem?_map] at hx;obtain⟨y,hy,rfl⟩:=Option.map_eq_some_iff.1 hx;have:=hc ⟨b,o,none⟩ rfl j (encS y) (by rw[List.getElem?_map,hy];rfl);simpa [Addr.add_lit] using this) (ha.lt e2) (by simpa using hb.1) (by simpa using h1) (by rw[hmap,join_jn];simpa using hb.2)
   rw[hmap,join_jn] at hcall;simp only[l0d] at hcall;exact hcall.mono fun e w' ⟨he,hw⟩=>⟨_,M,he,⟨BelowX.of hw _,Mem.le.refl M,fun b' o' hb'=>by rw[hw.block b' (ha.lt hb')];exact ha b' o' hb',fun b' hb'=>rfl⟩,by simp⟩
theorem Y4I {p0:Ls}{p1:Ls}{p2:Int}{r:List Ls}(h:Y2i p0 p1 p2=some r):Ct Tryz.prog 184 [S p0,S p1,I p2] (fun M=>GlF (fun w =>∃m,w.cell? ⟨2,0,none⟩=some (.int .i64 m)) M) (fun v M=>Sl M encS v r):=by
 unfold Y2i at h;split at h
 case isFalse=>cases h
 rename_i hb;cases h;refine⟨enters Tryz.func184 Kr G,fun w M ha hp=>?_⟩;obtain⟨m,hm⟩:=hp w ha;obtain⟨n,rfl⟩:=l0X (Int.le_trans Dc hb.2.2.1);have hs:(⟨p0.toArray⟩:ByteArray).size=p0.length:=by simp [ByteArray.size]
 have hd:(Lib.splitB ⟨p1.toArray⟩ 0 (min n ((⟨p0.toArray⟩:ByteArray).size+1)-1) ⟨p0.toArray⟩).map (·.data.toList)=Lib.splitN p0 p1 ((n:Int).toNat):=by rw[Lib.splitB_data,hs];rfl
 have hl:=Lib.splitB_length_le ⟨p1.toArray⟩ 0 (min n ((⟨p0.toArray⟩:ByteArray).size+1)-1) ⟨p0.toArray⟩;have hlen:=congrArg List.length hd;rw[l0d] at hlen;refine(Tryz.strings_SplitN ⟨p0.toArray⟩ ⟨p1.toArray⟩ n m w Om hm (by simpa [ByteArray.size] using hb.2.1) Om Om).mono fun e w' ⟨he,hw⟩=>⟨_,M.set w.heap.size _,he,by subst hw;exact Ext.ofAlloc ha _,?_⟩
 rw[hlen];exact Sl.splitN (t:=9) (fz:=(0,0)) hd Om Om (by simp [Mem.set])
theorem Y4f {p0:Ls}{p1:Ls}{p2:Ls}{r:Ls}(h:Y1b p0 p1 p2=some r):Ct Tryz.prog 172 [S p0,S p1,S p2] (fun M=>GlF (fun w =>∃m,w.cell? ⟨2,0,none⟩=some (.int .i64 m)) M) (fun v M=>v=S r):=by
 unfold Y1b at h;split at h
 case isFalse=>cases h
 rename_i hb;cases h;refine⟨enters Tryz.func172 Kr G,fun w M ha hp=>?_⟩;obtain⟨m,hm⟩:=hp w ha;have hs:(⟨p0.toArray⟩:ByteArray).size=p0.length:=by simp [ByteArray.size]
 have hc:Lib.countB ⟨p0.toArray⟩ ⟨p1.toArray⟩≤p0.length:=by simpa [ByteArray.size] using Lib.countB_le ⟨p1.toArray⟩ (by simpa [ByteArray.size] using hb.2.1) _ ⟨p0.toArray⟩ (l0e _)
 have hc2:=l0G p2.length hc;exact(Tryz.strings_ReplaceAll ⟨p0.toArray⟩ ⟨p1.toArray⟩ ⟨p2.toArray⟩ m w Om hm (by simpa [ByteArray.size] using hb.2.1) (by simp only[ByteArray.size,l1w];omega)).mono fun e w' ⟨he,hw⟩=>⟨_,M,he,Ext.ofBelow ha hw,rfl⟩
theorem Y4q {p0:Ls}{p1:Ls}{r:Bool}(h:Y1J p0 p1=some r):Ct Tryz.prog 137 [S p0,S p1] (fun M=>GlF (fun w =>∃m,w.cell? ⟨2,0,none⟩=some (.int .i64 m)) M) (fun v M=>v=Value.bool r):=by
 unfold Y1J at h;split at h
 case isFalse=>cases h
 rename_i hb;cases h;refine⟨enters Tryz.func137 Kr G,fun w M ha hp=>?_⟩;obtain⟨m,hm⟩:=hp w ha;exact(Tryz.strings_Contains ⟨p0.toArray⟩ ⟨p1.toArray⟩ m w (by simpa [ByteArray.size] using hb) hm).mono fun e w' ⟨he,hw⟩=>⟨_,M,he,by subst hw;exact q2d ha,rfl⟩
theorem Y4N {p0:Ls}{p1:Ls}{r:Int}(h:Y2a p0 p1=some r):Ct Tryz.prog 144 [S p0,S p1] (fun M=>GlF (fun w =>∃m,w.cell? ⟨2,0,none⟩=some (.int .i64 m)) M) (fun v M=>v=I r):=by
 unfold Y2a at h;split at h
 case isFalse=>cases h
 rename_i hb;cases h;refine⟨enters Tf144 Kr G,fun w M ha hp=>?_⟩;obtain⟨m,hm⟩:=hp w ha;exact(Tryz.strings_Index ⟨p0.toArray⟩ ⟨p1.toArray⟩ m w (by simpa [ByteArray.size] using hb) hm).mono fun e w' ⟨he,hw⟩=>⟨_,M,he,by subst hw;exact q2d ha,rfl⟩
theorem Y4l {p0:Ls}{p1:Ls}{r:Int}(h:Y16 p0 p1=some r):Ct Tryz.prog 128 [S p0,S p1] (fun M=>GlF (fun w =>∃m,w.cell? ⟨2,0,none⟩=some (.int .i64 m)) M) (fun v M=>v=I r):=by
 unfold Y16 at h;split at h
 case isFalse=>cases h
 rename_i hb;cases h;refine⟨enters Tf128 Kr G,fun w M ha hp=>?_⟩;obtain⟨m,hm⟩:=hp w ha;exact(Tryz.stringslite_Index ⟨p0.toArray⟩ ⟨p1.toArray⟩ m w (by simpa [ByteArray.size] using hb) hm).mono fun e w' ⟨he,hw⟩=>⟨_,M,he,by subst hw;exact q2d ha,rfl⟩
theorem copyCheck_ct {b:Nat}{p v:Value}{M0:Mem}(hb:BPM M0 b p):CtX Tryz.prog 106 [ptr b 0] [.blk b (.cells #[p,v] 96)] (fun _=>True) (fun r _ its=>r = .tuple #[]∧its=[.blk b (.cells #[ptr b 0,v] 96)]):=by
 refine CtX.of Tf106 (enters Tf106 Kr G) G G G ?_;intro w M H _;obtain⟨j,hj,hjs⟩:=Option.map_eq_some_iff.1 (show(Tryz.prog.info? 96).map (·.size)=some 2 by kernel_rfl);have hl:liesAt Tryz.prog Tryz.prog.depth 96 (2 / Tryz.prog.cellsOf 96) 0 96 1=true:=by kernel_rfl
 have hbk:=H.blk (List.Mem.head _);refine WC.seq (WC.region ?_);refine MV G G (FN G G Tu96 G Ts94 G G (ST (XL H Ta94) G ?_));rcases hb with rfl|rfl
 · refine q02 (Ex.ptrNil Tu94 G) (q00 G) G G ?_;refine q0P (WQ.then (WC.condT G (WC.region ?_)));refine MV G G (MV G G (ST (Ex.toUnsafe Tu94 Tu144 hj (by rw[hjs];decide) (T:=96) (cells:=2) (a:=⟨b,0,none⟩) (by simp [World.shape?,hbk]) (by show(0:Nat)<2;decide) G) G ?_));refine ST (Ex.noEscape Tf133 Kr Kr Kr Kr G) G (ST (Ex.fromUnsafe Tu144 Tu94 hj (T:=96) (cells:=2) (a:=⟨b,0,none⟩) (by simp [World.shape?,hbk]) hl G) G ?_);refine FN G G Tu96 G Ts94 G G (q0Q [_,_] H G G ⟨G,G⟩ Ku Kf Ts94 (by first|decide|(simp;done)|(simp;omega)) (q00 G) ?_);intro w H;refine NL ?_;exact WQ.endX0 G H Kp ⟨G,G⟩
 refine q02 (Ex.ptrNil Tu94 G) (q00 G) G G ?_;refine q0P (WQ.then (WC.condF G (WC.seq (WC.region ?_))));refine MV G G (FN G G Tu96 G Ts94 G G (ST (XL H Ta94) G ?_));refine MV G G (ST (Ex.ptrNeqSame Tu94 hj G G) G ?_);refine q0P (WQ.then (WC.condF G (WC.skip ?_)));exact WQ.endX0 G H Kp ⟨G,G⟩
theorem xplacesT :∀{fs:Array Field},Tryz.prog.underlying 232=some (.struct fs)→∀w,(fs.mapM fun f=>do pure (f.offset,←sizeOf f.type):Sem (Array (Nat × Nat))).run Tryz.prog w = .ok #[(0,256),(256,1)] w:=by
 intro fs h w;rw[Tu232] at h;cases h;simp
theorem tab0 {M:Mem}:∀(i:Nat) (o:Option Ls),(tabk 0)[i]? = some o→∃v,(List.replicate 256 (Value.slice none 0 0))[i]? = some v∧SlO M v o:=by
 intro i o h;have h0:tabk 0=List.replicate 256 none:=by decide +kernel
 rw[h0] at h;have hi:i<256:=by have:=(List.getElem?_eq_some_iff.1 h).1;simpa using this
 rw[List.getElem?_replicate,if_pos hi] at h;cases h;exact⟨_,by rw[List.getElem?_replicate,if_pos hi], .inl ⟨G,G⟩⟩
theorem tab_step {M:Mem}{cs:List Value}{O k:Nat}{u:Value}{nn:Ls}(hcl:cs.length=256)(htb :∀(i:Nat) (o:Option Ls),(tabk k)[i]? = some o→∃v,cs[i]? = some v∧SlO M v o)(hO:O<256)(ht:tabk (k+1)=(tabk k).set O (some nn))(hs:SlO M u (some nn)):
 ∀(i:Nat) (o:Option Ls),(tabk (k+1))[i]? = some o→∃v,(cs.set O u)[i]? = some v∧SlO M v o:=by
 intro i o h;rw[ht,List.getElem?_set] at h;split at h
 · rename_i he;subst he;split at h
   · cases h;exact⟨u,by rw[List.getElem?_set_self Om],hs⟩
   cases h
 rename_i he;obtain⟨v,hv,hs'⟩:=htb i o h;exact⟨v,by rw[List.getElem?_set_ne he];exact hv,hs'⟩
theorem Y3Q {p0:List Ls}{bp0:Nat}{vp0:Value}{r:((List (Option Ls) × List Ls) × List Ls)}(h:Y2D p0=some r):CtX Tryz.prog 178 [ptr bp0 0] [.blk bp0 (.cells #[Value.int .u32 0,Value.int .i32 1,Value.int .u32 0,Value.nilIface,vp0] 166)] (fun M=>Sl M encS vp0 p0) (fun v M its =>∃b0_,v=(Value.iface 233 (ptr b0_ 0))∧TabO M b0_ 232 r.1.1 r.1.2∧its=[.blk bp0 (.cells #[Value.int .u32 0,Value.int .i32 1,Value.int .u32 0,Value.nilIface,vp0] 166)]):=by
 refine CtX.of Tryz.func178 (enters Tryz.func178 Kr G) G G G ?_;intro w0 M0 H hp;have hp0:=hp;unfold Y2D at h;refine SQ (RG (AS G G (NL (TN (SQ (RG (MV G G (FN G G Tu166 G Ts55 G G (ST (XL H Ta55) G ?_)))))))));refine AS G G (NL (TN (SQ (SQ ?_))));obtain⟨o1,e2,h⟩:=bnd h;refine q0h (fun e w =>∃(b3:Bool) (M:Mem),e=[(3,vp0),(28,Value.bool b3)]∧StX (feet [.blk bp0 (.cells #[Value.int .u32 0,Value.int .i32 1,Value.int .u32 0,Value.nilIface,vp0] 166)]) w0 M0 M [.blk bp0 (.cells #[Value.int .u32 0,Value.int .i32 1,Value.int .u32 0,Value.nilIface,vp0] 166)] w∧Sl M encS vp0 p0∧some b3=some o1) [] ?_ ?_ (trivial)
 ·
  refine RG (MV G G (ST (q0D Tu55 hp0 G) G ?_));by_cases hk4:(p0.length:Int)=(2:Int)
  ·
   rw[if_pos hk4] at e2;obtain⟨a5,hxa5,e2⟩:=bnd e2;obtain⟨bk24,o24,ha24,hc24⟩:=hp0.atC hxa5;refine DT hk4 (q0e G G) G (MV G G (SG (q01 G) G G G (SG (q0u ha24 Tu55 Ts9 G G) G G G (SG (q08 H G hc24 Ta9) G G G (SG (q0g Tu9 G) G G G (SG (q0E G G) G G G (PT G G G (NL ?_))))))));exact MN ⟨_,_,G,H,hp0,e2⟩
  rw[if_neg hk4] at e2;refine DF hk4 (q0e G G) G (MV G G (q0i 5 G G (PF G G G (NL ?_))));exact MN ⟨_,_,G,H,hp0,e2⟩
 rintro e w ⟨b3,M,rfl,H,hp0,q6⟩;obtain rfl:=oI q6;refine TN ?_;refine q0k G (fun hk7=>?_) (fun hk7=>?_)
 ·
  subst hk7;rw[if_pos rfl] at h;cases h
 subst hk7;rw[if_neg l06] at h;refine SK (TN (SQ (RG (AS G G (NL (TN (SQ (SQ (RG (AS G G (NL (TN ?_))))))))))));obtain⟨o10,e11,h⟩:=bnd h;refine q0h (fun e w =>∃(b12:Bool) (M:Mem),e=[(3,vp0),(4,Value.bool b12)]∧StX (feet [.blk bp0 (.cells #[Value.int .u32 0,Value.int .i32 1,Value.int .u32 0,Value.nilIface,vp0] 166)]) w0 M0 M [.blk bp0 (.cells #[Value.int .u32 0,Value.int .i32 1,Value.int .u32 0,Value.nilIface,vp0] 166)] w∧Sl M encS vp0 p0∧some (.inl b12)=some o10) [] ?_ ?_ (trivial)
 ·
  refine BL (q0A (fun m e w =>∃(b13:Bool) (n14:Int) (M:Mem),e=[(3,vp0),(4,Value.bool b13),(5,I n14)]∧StX (feet [.blk bp0 (.cells #[Value.int .u32 0,Value.int .i32 1,Value.int .u32 0,Value.nilIface,vp0] 166)]) w0 M0 M [.blk bp0 (.cells #[Value.int .u32 0,Value.int .i32 1,Value.int .u32 0,Value.nilIface,vp0] 166)] w∧Sl M encS vp0 p0∧Y0E p0 m b13 n14=some o10) FU [(3,_),(4,_),(5,_)] ⟨rfl,rfl,rfl,trivial⟩ ⟨_,_,_,rfl,H,hp0,e11⟩ ?_);rintro m15 e w ⟨b13,n14,M,rfl,H,hp0,e11⟩;rcases m15 with _|m15
  · rw[Y0E] at e11;cases e11
  rw[Y0E] at e11;refine SQ (SQ (RG (MV G G (MV G G (ST (q0D Tu55 hp0 G) G (ST (q0n G G) G (NL (TN ?_))))))));refine CB (p:=n14<(p0.length:Int)) G (fun hk16=>?_) fun hk16=>?_
  ·
   rw[if_pos hk16] at e11;refine SK (TN (SQ (BL (SQ (SQ ?_)))));obtain⟨a17,hxa17,e11⟩:=bnd e11;obtain⟨bk45,o45,ha45,hc45⟩:=hp0.atC hxa17;refine RG (MV G G (MV G G (ST (q0u ha45 Tu55 Ts9 G G) G (ST (q08 H G hc45 Ta9) G (ST (q0g Tu9 G) G (ST (q1p G G) G (NL (TN ?_))))))));refine q0k G (fun hk18=>?_) (fun hk18=>?_)
   ·
    replace hk18 :¬((a17.length:Int)=(1:Int)):=of_not_decide hk18;rw[if_neg hk18] at e11;cases e11
   replace hk18:(a17.length:Int)=(1:Int):=of_not_decide' hk18;rw[if_pos hk18] at e11;refine SK (TN (SQ ?_));obtain⟨n19,hxn19,e11⟩:=bnd e11;obtain⟨a20,hxa20,e11⟩:=bnd e11;obtain⟨bk55,o55,ha55,hc55⟩:=hp0.atC hxa20;refine RG (MV G G (MV G G (ST (q0p G G hxn19) G (ST (q0u ha55 Tu55 Ts9 G G) G (ST (q08 H G hc55 Ta9) G (ST (q0g Tu9 G) G (ST (q1p G G) G (NL (TN ?_)))))))));refine q0k G (fun hk21=>?_) (fun hk21=>?_)
   ·
    replace hk21 :¬((a20.length:Int)=(1:Int)):=of_not_decide hk21;rw[if_neg hk21] at e11;refine RG (AS G G (NL (IB (TN ?_))));obtain⟨n22,hxn22,e11⟩:=bnd e11;refine RG (MV G G (ST (q0p G G hxn22) G (AS G G (NL ?_))));exact AG m15 ⟨_,_,_,G,H,hp0,e11⟩ (l0b _)
   replace hk21:(a20.length:Int)=(1:Int):=of_not_decide' hk21;rw[if_pos hk21] at e11;refine SK (IB (TN ?_));obtain⟨n23,hxn23,e11⟩:=bnd e11;refine RG (MV G G (ST (q0p G G hxn23) G (AS G G (NL ?_))));exact AG m15 ⟨_,_,_,G,H,hp0,e11⟩ (l0b _)
  rw[if_neg hk16] at e11;refine q0m (q06 (q06 (q0d ?_)));exact MN ⟨_,_,G,H,hp0,e11⟩
 rintro e w ⟨b12,M,rfl,H,hp0,q24⟩;obtain rfl:=oI q24;try dsimp only at h
 refine TN (SQ (SQ (RG (MV G G (NL (TN ?_))))));refine q0k G (fun hk25=>?_) (fun hk25=>?_)
 ·
  subst hk25;rw[if_pos rfl] at h;cases h
 subst hk25;rw[if_neg l06] at h;split at h
 case isFalse=>cases h
 rename_i hlit;subst hlit;cases h;refine SK (TN (SQ (RG (MV G G (ST (q0D Tu55 hp0 G) G (ST (Ex.quoC (a:=4) (b:=2) (z:=2) G G G) G (WR.mkC (enc:=encS) (z0:=([]:Ls)) (a:=0) (c:=2) (l:=[]) xty55 G H G G G (q00 G) G ?_)))))));intro v94 w H0;obtain⟨A94,c94,hv94⟩:=H0.lenRow Km;refine ST (q0N (List.replicate 256 (Value.slice none 0 0)++[v94]) Tu232 Tryz.zeroValue232 (xplacesT Tu232) G (by subst hv94;kernel_rfl)) G ?_;refine q0j (List.replicate 256 (Value.slice none 0 0)++[Value.slice none 0 0]) H0 Tryz.zeroValue232 Kr (q00 G) G ?_;intro b11 w H;refine q0c (List.replicate 256 (Value.slice none 0 0)++[v94]) H G G G Ku Tryz.sizeOf232 G Kf (by subst hv94;rfl) (q00 G) ?_;intro w H;refine NL (TN (SQ (SQ (RG (MV G G (ST (q0D Tu55 hp0 G) G (ST (q1E (a:=4) (b:=2) (z:=2) G G G) G (AS G G (NL (TN ?_))))))))));refine q0h (fun e w =>∃(cs:List Value) (vr:Value) (M:Mem),e=[(11,ptr b11 0)]∧StX (feet [.blk bp0 (.cells #[Value.int .u32 0,Value.int .i32 1,Value.int .u32 0,Value.nilIface,vp0] 166)]) w0 M0 M [.blk b11 (.cells (cs++[vr]).toArray 232),RowI 9 encS vr (trk 2), .blk bp0 (.cells #[Value.int .u32 0,Value.int .i32 1,Value.int .u32 0,Value.nilIface,vp0] 166)] w∧cs.length=256∧(∀(i:Nat) (o:Option Ls),(tabk 2)[i]? = some o→∃v,cs[i]? = some v∧SlO M v o)) [] ?_ ?_ (trivial)
 ·
  refine BL (q0A (fun m e w =>∃(k:Nat) (cs:List Value) (vr:Value) (M:Mem),e=[(3,vp0),(11,ptr b11 0),(12,I (2-2*(k:Int)))]∧k≤2∧2-k<m∧StX (feet [.blk bp0 (.cells #[Value.int .u32 0,Value.int .i32 1,Value.int .u32 0,Value.nilIface,vp0] 166)]) w0 M0 M [.blk b11 (.cells (cs++[vr]).toArray 232),RowI 9 encS vr (trk k), .blk bp0 (.cells #[Value.int .u32 0,Value.int .i32 1,Value.int .u32 0,Value.nilIface,vp0] 166)] w∧Sl M encS vp0 [[92],[92,92],[34],[92,34]]∧cs.length=256∧(∀(i:Nat) (o:Option Ls),(tabk k)[i]? = some o→∃v,cs[i]? = some v∧SlO M v o)) FU [(3,_),(11,_),(12,_)] ⟨rfl,rfl,rfl,trivial⟩ ⟨0,List.replicate 256 (Value.slice none 0 0),v94,_,rfl,by omega,by unfold FU;omega,H,hp0,by rw[l0W],tab0⟩ ?_);rintro m e w ⟨k,cs,vr,M,rfl,hk,hm,H,hp0,hcl,htb⟩;obtain⟨m,rfl⟩ :∃q,m=q+1:=⟨m-1,by omega⟩
  obtain rfl|rfl|rfl:k=0∨k=1∨k=2:=by omega
  · refine WC.seq ?_;refine SQ (RG (MV G G (q1F (q1a G G) Dc (q00 G) G G (NL (TN (CT G (SK (TN (SQ (BL (SQ ?_)))))))))));obtain⟨b105,o105,ha105,hc105⟩:=hp0.atC (i:=2) (a:=[34]) rfl;refine RG (MV G G (MV G G (ST (q0u ha105 Tu55 Ts9 G G) G (ST (q08 H G hc105 Ta9) G (ST (q0t (i:=0) (c:=34) Tu9 G G G) G (AS G G (NL (TN (SQ ?_)))))))));obtain⟨b111,o111,ha111,hc111⟩:=hp0.atC (i:=3) (a:=[92,34]) rfl;refine RG (MV G G (MV G G (ST (q0p (z:=3) G G G) G (ST (q0u ha111 Tu55 Ts9 G G) G (ST (q08 H G hc111 Ta9) G (AS G G (NL (TN (SQ (SQ ?_))))))))));have hnil:cs[34]? = some (Value.slice none 0 0):=by
     obtain⟨v,hv,hs⟩:=htb 34 none (by decide +kernel);rcases hs with ⟨_,rfl⟩|⟨l,a,c,h,_⟩
     · exact hv
     cases h
    have hcell:(cs++[vr])[34]? = some (Value.slice none 0 0):=by rw[List.getElem?_append_left Om];exact hnil
    refine RG (MV G G (ST (q03 Tu232 G Ts230 Dc G) G (ST (q1Z (i:=34) Tu230 Ts88 G G Dc) G (ST (Ex.load1 H G Km Ta88 hcell) G ?_))));refine ST (Ex.eqlNilS Tu88 G) G (NL (TN (CT G (RG (ST (q03 Tu232 G Ts55 Dc G) G ?_)))));have hlast:(cs++[vr])[256]? = some vr:=by rw[List.getElem?_append_right Om,hcl];rfl
    refine ST (Ex.load1 H G Km Ta55 hlast) G ?_;refine MV G G (q0F (enc:=encB) xty88 ([34]:Ls) H G Kf (fun _=>G) G G (q00 G) G ?_);intro v121 M w H hle hs121;replace hp0:=hp0.mono hle;replace htb :∀(i:Nat) (o:Option Ls),(tabk 0)[i]? = some o→∃v,cs[i]? = some v∧SlO M v o:=fun i o ho=>by obtain⟨v,hv,hs⟩:=htb i o ho;exact ⟨v,hv,hs.mono hle⟩
    refine ST (q1X Tu88 Tu5 Tu9 H hs121 G) G (q0F (enc:=encS) xty55 ([[34]]:List Ls) H G Kf (fun _=>G) G G (q00 G) G ?_);intro v123 M w H hle hs123;replace hp0:=hp0.mono hle;replace htb :∀(i:Nat) (o:Option Ls),(tabk 0)[i]? = some o→∃v,cs[i]? = some v∧SlO M v o:=fun i o ho=>by obtain⟨v,hv,hs⟩:=htb i o ho;exact ⟨v,hv,hs.mono hle⟩
    refine q1g (l:=trk 0) (l3:=trk (0+1)) xty55 G (fun _=>G) H G (fun _=>by repeat first|exact .head|apply Upd.tail) G hs123 (by decide +kernel) (q00 G) G ?_;intro v124 w H;have ho124:One v124:=H.rowOne Km;refine ST (q03 Tu232 G Ts55 Dc G) G ?_;have hset1:(cs++[vr]).set 256 v124=cs++[v124]:=by rw[l2c _ _ Om,hcl];rfl
    refine q0Q (cs++[v124]) H G G ho124 Ku hset1 Ts55 (by rw[l00,hcl];exact (by decide:(256:Nat)<256+1)) (q00 G) ?_;intro w H;refine NL (TN (RG (MV G G (MV G G (WR.toBytesC H Tu9 Tu88 Tu5 G (toB_ok (l:=[92,34]) Dc) (q00 G) G ?_)))));intro gb cap w hok H;refine ST (q03 Tu232 G Ts230 Dc G) G (ST (q1Z (i:=34) Tu230 Ts88 G G Dc) G ?_);have hset2:(cs++[v124]).set 34 (.slice (some ⟨gb,0,none⟩) 2 cap)=cs.set 34 (.slice (some ⟨gb,0,none⟩) 2 cap)++[v124]:=List.set_append_left _ _ Om;refine q0Q (cs.set 34 (.slice (some ⟨gb,0,none⟩) 2 cap)++[v124]) H G G (q1u _ _ _) Ku hset2 Ts88 (by rw[l00,hcl];exact (by decide:(34:Nat)<256+1)) (q00 G) ?_;intro w H;refine NL (IB (TN (RG (MV G G (ST (q1E (z:=2-2*((0+1:Nat):Int)) G G G) G (AS G G (NL ?_)))))));obtain⟨M,hle,hs,H⟩:=H.freezeSCN (gb:=gb) (cap:=cap) (t:=5) Kv hok ⟨⟨_,Km⟩,trivial⟩;exact AG m ⟨0+1,cs.set 34 (.slice (some ⟨gb,0,none⟩) 2 cap),v124,_,G,by omega,by omega,H.pick (L':=[.blk b11 (.cells (cs.set 34 (.slice (some ⟨gb,0,none⟩) 2 cap)++[v124]).toArray 232),RowI 9 encS v124 (trk (0+1)), .blk bp0 (.cells #[Value.int .u32 0,Value.int .i32 1,Value.int .u32 0,Value.nilIface,vp0] 166)]) Kp,hp0.mono hle,by rw[l1s];exact hcl,tab_step hcl (fun i o ho=>by obtain⟨v,hv,hs⟩:=htb i o ho;exact ⟨v,hv,hs.mono hle⟩) Dc (by decide +kernel) (.inr ⟨_,_,_,G,G,hs⟩)⟩ (l0b _)
  · refine WC.seq ?_;refine SQ (RG (MV G G (q1F (q1a G G) Dc (q00 G) G G (NL (TN (CT G (SK (TN (SQ (BL (SQ ?_)))))))))));obtain⟨b105,o105,ha105,hc105⟩:=hp0.atC (i:=0) (a:=[92]) rfl;refine RG (MV G G (MV G G (ST (q0u ha105 Tu55 Ts9 G G) G (ST (q08 H G hc105 Ta9) G (ST (q0t (i:=0) (c:=92) Tu9 G G G) G (AS G G (NL (TN (SQ ?_)))))))));obtain⟨b111,o111,ha111,hc111⟩:=hp0.atC (i:=1) (a:=[92,92]) rfl;refine RG (MV G G (MV G G (ST (q0p (z:=1) G G G) G (ST (q0u ha111 Tu55 Ts9 G G) G (ST (q08 H G hc111 Ta9) G (AS G G (NL (TN (SQ (SQ ?_))))))))));have hnil:cs[92]? = some (Value.slice none 0 0):=by
     obtain⟨v,hv,hs⟩:=htb 92 none (by decide +kernel);rcases hs with ⟨_,rfl⟩|⟨l,a,c,h,_⟩
     · exact hv
     cases h
    have hcell:(cs++[vr])[92]? = some (Value.slice none 0 0):=by rw[List.getElem?_append_left Om];exact hnil
    refine RG (MV G G (ST (q03 Tu232 G Ts230 Dc G) G (ST (q1Z (i:=92) Tu230 Ts88 G G Dc) G (ST (Ex.load1 H G Km Ta88 hcell) G ?_))));refine ST (Ex.eqlNilS Tu88 G) G (NL (TN (CT G (RG (ST (q03 Tu232 G Ts55 Dc G) G ?_)))));have hlast:(cs++[vr])[256]? = some vr:=by rw[List.getElem?_append_right Om,hcl];rfl
    refine ST (Ex.load1 H G Km Ta55 hlast) G ?_;refine MV G G (q0F (enc:=encB) xty88 ([92]:Ls) H G Kf (fun _=>G) G G (q00 G) G ?_);intro v121 M w H hle hs121;replace hp0:=hp0.mono hle;replace htb :∀(i:Nat) (o:Option Ls),(tabk 1)[i]? = some o→∃v,cs[i]? = some v∧SlO M v o:=fun i o ho=>by obtain⟨v,hv,hs⟩:=htb i o ho;exact ⟨v,hv,hs.mono hle⟩
    refine ST (q1X Tu88 Tu5 Tu9 H hs121 G) G (q0F (enc:=encS) xty55 ([[92]]:List Ls) H G Kf (fun _=>G) G G (q00 G) G ?_);intro v123 M w H hle hs123;replace hp0:=hp0.mono hle;replace htb :∀(i:Nat) (o:Option Ls),(tabk 1)[i]? = some o→∃v,cs[i]? = some v∧SlO M v o:=fun i o ho=>by obtain⟨v,hv,hs⟩:=htb i o ho;exact ⟨v,hv,hs.mono hle⟩
    refine q1g (l:=trk 1) (l3:=trk (1+1)) xty55 G (fun _=>G) H G (fun _=>by repeat first|exact .head|apply Upd.tail) G hs123 (by decide +kernel) (q00 G) G ?_;intro v124 w H;have ho124:One v124:=H.rowOne Km;refine ST (q03 Tu232 G Ts55 Dc G) G ?_;have hset1:(cs++[vr]).set 256 v124=cs++[v124]:=by rw[l2c _ _ Om,hcl];rfl
    refine q0Q (cs++[v124]) H G G ho124 Ku hset1 Ts55 (by rw[l00,hcl];exact (by decide:(256:Nat)<256+1)) (q00 G) ?_;intro w H;refine NL (TN (RG (MV G G (MV G G (WR.toBytesC H Tu9 Tu88 Tu5 G (toB_ok (l:=[92,92]) Dc) (q00 G) G ?_)))));intro gb cap w hok H;refine ST (q03 Tu232 G Ts230 Dc G) G (ST (q1Z (i:=92) Tu230 Ts88 G G Dc) G ?_);have hset2:(cs++[v124]).set 92 (.slice (some ⟨gb,0,none⟩) 2 cap)=cs.set 92 (.slice (some ⟨gb,0,none⟩) 2 cap)++[v124]:=List.set_append_left _ _ Om;refine q0Q (cs.set 92 (.slice (some ⟨gb,0,none⟩) 2 cap)++[v124]) H G G (q1u _ _ _) Ku hset2 Ts88 (by rw[l00,hcl];exact (by decide:(92:Nat)<256+1)) (q00 G) ?_;intro w H;refine NL (IB (TN (RG (MV G G (ST (q1E (z:=2-2*((1+1:Nat):Int)) G G G) G (AS G G (NL ?_)))))));obtain⟨M,hle,hs,H⟩:=H.freezeSCN (gb:=gb) (cap:=cap) (t:=5) Kv hok ⟨⟨_,Km⟩,trivial⟩;exact AG m ⟨1+1,cs.set 92 (.slice (some ⟨gb,0,none⟩) 2 cap),v124,_,G,by omega,by omega,H.pick (L':=[.blk b11 (.cells (cs.set 92 (.slice (some ⟨gb,0,none⟩) 2 cap)++[v124]).toArray 232),RowI 9 encS v124 (trk (1+1)), .blk bp0 (.cells #[Value.int .u32 0,Value.int .i32 1,Value.int .u32 0,Value.nilIface,vp0] 166)]) Kp,hp0.mono hle,by rw[l1s];exact hcl,tab_step hcl (fun i o ho=>by obtain⟨v,hv,hs⟩:=htb i o ho;exact ⟨v,hv,hs.mono hle⟩) Dc (by decide +kernel) (.inr ⟨_,_,_,G,G,hs⟩)⟩ (l0b _)
  refine WC.seq ?_;refine SQ (RG (MV G G (q0V (q1a G G) Dc (q00 G) G G (NL (TN (CF G (q0m (q06 (q06 (q0d ?_))))))))));exact MN ⟨cs,vr,_,G,H,hcl,htb⟩
 rintro e w ⟨cs,vr,M,rfl,H,hcl,htb⟩;refine TN (SQ (RG (ST (Ex.makeIface Tryz.underlying233 G) G (AS G G (NL (TN (RT ?_)))))));obtain⟨M,hle,hb,H⟩:=H.freezeVarN (b:=b11) Kv ⟨⟨_,Km⟩,trivial⟩;obtain⟨M,hle2,hs,H⟩:=H.freezeRowN (v:=vr) (enc:=encS) (t:=9) Kv ⟨⟨_,Km⟩,trivial⟩;exact q1s (its:=[.blk bp0 (.cells #[Value.int .u32 0,Value.int .i32 1,Value.int .u32 0,Value.nilIface,vp0] 166)]) G G H Kp ⟨_,G,⟨cs,vr,hb.mono hle2,hcl,fun i o ho=>by obtain⟨v,hv,hs⟩:=htb i o ho;exact ⟨v,hv,(hs.mono hle).mono hle2⟩,hs⟩,G⟩
theorem Y2Q {p0:(List (Option Ls) × List Ls)}{p1:Ls}{bp0:Nat}{r:Ls}(h:Y0C p0 p1=some r):Ct Tryz.prog 273 [ptr bp0 0,S p1] (fun M=>TabO M bp0 232 p0.1 p0.2) (fun v M=>v=S r):=by
 refine Ct.of Tryz.func273 (enters Tryz.func273 Kr G) G G G ?_;intro w0 M0 H hp;have hp0:=hp;unfold Y0C at h;refine SQ (RG (AS G G (NL (TN (SQ (RG (MV G G (ST (q0g Tu9 G) G (AS G G (NL (TN (SQ (RG (AS G G (NL (TN (SQ (SQ ?_))))))))))))))))));obtain⟨v21,hc21,hs21⟩:=hp0.tl;obtain⟨n1,hxn1,h⟩:=bnd h;refine RG (MV G G (FN G G Tu232 G Ts55 G G (ST (q08 H G hc21 Ta55) G (ST (q0D Tu55 hs21 G) G (ST (Ex.mulC G G hxn1) G (MV G G (ST (q0g Tu9 G) G (ST (q1C G G) G (NL (TN ?_))))))))));obtain⟨o2,e3,h⟩:=bnd h;refine q0h (fun e w =>∃(n4:Int) (b5:Bool) (M:Mem),e=[(0,ptr bp0 0),(1,S p1),(5,I n4),(6,Value.bool b5)]∧St w0 M0 M [] w∧TabO M bp0 232 p0.1 p0.2∧some (n4,b5)=some o2) [] ?_ ?_ (trivial)
 ·
  refine CB (p:=n1≤(p1.length:Int)) G (fun hk6=>?_) fun hk6=>?_
  ·
   rw[if_pos hk6] at e3;refine SQ ?_;obtain⟨v30,hc30,hs30⟩:=hp0.tl;refine RG (MV G G (FN G G Tu232 G Ts55 G G (ST (q08 H G hc30 Ta55) G (ST (q0D Tu55 hs30 G) G (MV G G (NL (TN ?_)))))));obtain⟨o7,e8,e3⟩:=bnd e3;refine q0h (fun e w =>∃(n9:Int) (b10:Bool) (M:Mem),e=[(0,ptr bp0 0),(1,S p1),(5,I n9),(6,Value.bool b10)]∧St w0 M0 M [] w∧TabO M bp0 232 p0.1 p0.2∧some (n9,b10)=some o7) [] ?_ ?_ (trivial)
   ·
    refine BL (q0A (fun m e w =>∃(n11:Int) (b12:Bool) (n13:Int) (M:Mem),e=[(0,ptr bp0 0),(1,S p1),(5,I n11),(6,Value.bool b12),(30,v30),(31,I (p0.2.length:Int)),(32,I n13)]∧St w0 M0 M [] w∧TabO M bp0 232 p0.1 p0.2∧Sl M encS v30 p0.2∧Y00 p0 p1 m n11 b12 n13=some o7) FU [(0,_),(1,_),(5,_),(6,_),(30,_),(31,_),(32,_)] ⟨rfl,rfl,rfl,rfl,rfl,rfl,rfl,trivial⟩ ⟨_,_,_,_,rfl,H,hp0,hs30,e8⟩ ?_);rintro m14 e w ⟨n11,b12,n13,M,rfl,H,hp0,hs30,e8⟩;rcases m14 with _|m14
    · rw[Y00] at e8;cases e8
    rw[Y00] at e8;refine SQ (RG (ST (q0n G G) G (NL (TN (SQ ?_)))));refine CB (p:=n13<(p0.2.length:Int)) G (fun hk15=>?_) fun hk15=>?_
    ·
     rw[if_pos hk15] at e8;refine SK (TN (SQ (BL (SQ ?_))));obtain⟨a16,hxa16,e8⟩:=bnd e8;obtain⟨bk34,o34,ha34,hc34⟩:=hs30.atC hxa16;refine RG (ST (q0u ha34 Tu55 Ts9 G G) G (ST (q08 H G hc34 Ta9) G (AS G G (NL (TN (SQ ?_))))));obtain⟨n17,hx18,e8⟩:=bnd e8;refine RG (MV G G (MV G G (q05 H (Y4M hx18) G trivial (q00 G) G ?_)));intro v38 M w H hle hR;replace hs30:=hs30.mono hle;replace hp0:=hp0.mono hle;obtain rfl:=hR;refine AS G G (NL (TN (SQ (RG (MV G G (ST (q1p G G) G (NL (TN ?_))))))));refine q0k G (fun hk19=>?_) (fun hk19=>?_)
     ·
      replace hk19 :¬(n17=(0:Int)):=of_not_decide hk19;rw[if_neg hk19] at e8;refine SQ ?_;obtain⟨c20,hxc20,e8⟩:=bnd e8;obtain⟨q21,hxq21,e8⟩:=bnd e8;obtain⟨v48,hc48,ho48⟩:=hp0.at hxq21;obtain⟨n22,hxn22,e8⟩:=bnd e8;obtain⟨n23,hxn23,e8⟩:=bnd e8;obtain⟨n24,hxn24,e8⟩:=bnd e8;refine q0H (m:=14) G G H ?_;intro w H;refine TK 0 G (fun _=>q01 G) G (TK 1 G (fun _=>q01 G) G (TK 2 G (fun _=>q01 G) G (TK 3 G (fun _=>q01 G) G (TK 4 G (fun _=>q0t Tu9 G G hxc20) G (q0v (fuel:=0) [5,6,7,8,9,10,11,12,13] G Kr (FN G G Tu232 G Ts230 G G (ST (Ex.idxArrO Tu230 Ts88 G G hxq21) G ?_)))))));refine ST (q08 H G hc48 Ta88) G (ST (q0D Tu88 ho48.sl G) G (ST (q1E G G hxn22) G (ST (Ex.mulC G G hxn23) G (ST (q0p G G hxn24) G (AS G G (NA (q0l Kr (TN (RG (AS G G (NL (IB (TN ?_)))))))))))));obtain⟨n25,hxn25,e8⟩:=bnd e8;refine RG (ST (q0p G G hxn25) G (MV G G (NL ?_)));exact AG m14 ⟨_,_,_,_,G,H,hp0,hs30,e8⟩ (l0b _)
     replace hk19:n17=(0:Int):=of_not_decide' hk19;rw[if_pos hk19] at e8;refine SK (IB (TN ?_));obtain⟨n26,hxn26,e8⟩:=bnd e8;refine RG (ST (q0p G G hxn26) G (MV G G (NL ?_)));exact AG m14 ⟨_,_,_,_,G,H,hp0,hs30,e8⟩ (l0b _)
    rw[if_neg hk15] at e8;refine q0m (q06 (q06 (q0d ?_)));exact MN ⟨_,_,_,G,H,hp0,e8⟩
   rintro e w ⟨n9,b10,M,rfl,H,hp0,q27⟩;obtain rfl:=oI q27;try dsimp only at e3
   exact MN ⟨_,_,_,G,H,hp0,e3⟩
  rw[if_neg hk6] at e3;refine SQ (RG (AS G G (NL (TN ?_))));obtain⟨o28,e29,e3⟩:=bnd e3;refine q0h (fun e w =>∃(n30:Int) (b31:Bool) (M:Mem),e=[(0,ptr bp0 0),(1,S p1),(5,I n30),(6,Value.bool b31)]∧St w0 M0 M [] w∧TabO M bp0 232 p0.1 p0.2∧some (n30,b31)=some o28) [] ?_ ?_ (trivial)
  ·
   refine BL (q0A (fun m e w =>∃(n32:Int) (b33:Bool) (n34:Int) (M:Mem),e=[(0,ptr bp0 0),(1,S p1),(5,I n32),(6,Value.bool b33),(10,I n34)]∧St w0 M0 M [] w∧TabO M bp0 232 p0.1 p0.2∧Y01 p0 p1 m n32 b33 n34=some o28) FU [(0,_),(1,_),(5,_),(6,_),(10,_)] ⟨rfl,rfl,rfl,rfl,rfl,trivial⟩ ⟨_,_,_,_,rfl,H,hp0,e29⟩ ?_);rintro m35 e w ⟨n32,b33,n34,M,rfl,H,hp0,e29⟩;rcases m35 with _|m35
   · rw[Y01] at e29;cases e29
   rw[Y01] at e29;refine SQ (SQ (RG (MV G G (MV G G (ST (q0g Tu9 G) G (ST (q0n G G) G (NL (TN ?_))))))));refine CB (p:=n34<(p1.length:Int)) G (fun hk36=>?_) fun hk36=>?_
   ·
    rw[if_pos hk36] at e29;refine SK (TN (SQ (BL (SQ ?_))));obtain⟨c37,hxc37,e29⟩:=bnd e29;refine RG (MV G G (MV G G (ST (q0t Tu9 G G hxc37) G (AS G G (NL (TN (SQ ?_)))))));obtain⟨q38,hxq38,e29⟩:=bnd e29;obtain⟨v68,hc68,ho68⟩:=hp0.at hxq38;refine RG (MV G G (MV G G (FN G G Tu232 G Ts230 G G (ST (Ex.idxArrO Tu230 Ts88 G G hxq38) G (ST (q08 H G hc68 Ta88) G (ST (Ex.neqNilO Tu88 ho68 G) G (NL (TN ?_))))))));refine q0k G (fun hk39=>?_) (fun hk39=>?_)
    ·
     rw[if_pos hk39] at e29;refine SQ ?_;obtain⟨q40,hxq40,e29⟩:=bnd e29;obtain⟨v76,hc76,ho76⟩:=hp0.at hxq40;obtain⟨n41,hxn41,e29⟩:=bnd e29;obtain⟨n42,hxn42,e29⟩:=bnd e29;refine RG (MV G G (MV G G (MV G G (FN G G Tu232 G Ts230 G G (ST (Ex.idxArrO Tu230 Ts88 G G hxq40) G (ST (q08 H G hc76 Ta88) G (ST (q0D Tu88 ho76.sl G) G (ST (q1E G G hxn41) G (ST (q0p G G hxn42) G (AS G G (NL (TN (RG (AS G G (NL (IB (TN ?_)))))))))))))))));obtain⟨n43,hxn43,e29⟩:=bnd e29;refine RG (MV G G (ST (q0p G G hxn43) G (AS G G (NL ?_))));exact AG m35 ⟨_,_,_,_,G,H,hp0,e29⟩ (l0b _)
    rw[if_neg (by rw[hk39];exact l06)] at e29;refine SK (IB (TN ?_));obtain⟨n44,hxn44,e29⟩:=bnd e29;refine RG (MV G G (ST (q0p G G hxn44) G (AS G G (NL ?_))));exact AG m35 ⟨_,_,_,_,G,H,hp0,e29⟩ (l0b _)
   rw[if_neg hk36] at e29;refine q0m (q06 (q06 (q0d ?_)));exact MN ⟨_,_,_,G,H,hp0,e29⟩
  rintro e w ⟨n30,b31,M,rfl,H,hp0,q45⟩;obtain rfl:=oI q45;try dsimp only at e3
  exact MN ⟨_,_,_,G,H,hp0,e3⟩
 rintro e w ⟨n4,b5,M,rfl,H,hp0,q46⟩;obtain rfl:=oI q46;try dsimp only at h
 refine TN (SQ (SQ (RG (MV G G (ST (q0L G) G (NL (TN ?_)))))));refine q0k G (fun hk47=>?_) (fun hk47=>?_)
 ·
  replace hk47:b5=false:=by simpa using hk47
  subst hk47;rw[if_neg l06] at h;refine SQ (RG (MV G G (AS G G (NL (TN (RT ?_))))));obtain rfl:=oI h;exact q07 G G H.ext G
 replace hk47:b5=true:=by simpa using hk47
 subst hk47;rw[if_pos rfl] at h;refine SK (TN (SQ ?_));obtain⟨l48,hxl48,h⟩:=bnd h;refine RG (MV G G (WR.mkC (enc:=encB) (z0:=(0:UInt8)) xty88 G H G G hxl48 (q00 G) G ?_));intro v85 w H;refine AS G G (NL (TN (SQ (RG (AS G G (NL (TN (SQ (SQ (RG (AS G G (NL (TN ?_)))))))))))));obtain⟨o50,e51,h⟩:=bnd h;refine q0h (fun e w =>∃(l52:Ls) (M:Mem),e=[(12,v85)]∧St w0 M0 M [RowI 5 encB v85 l52] w∧some l52=some o50) [] ?_ ?_ (trivial)
 ·
  refine BL (q0A (fun m e w =>∃(l53:Ls) (n54:Int) (n55:Int) (M:Mem),e=[(0,ptr bp0 0),(1,S p1),(12,v85),(13,I n54),(14,I n55)]∧St w0 M0 M [RowI 5 encB v85 l53] w∧TabO M bp0 232 p0.1 p0.2∧Y02 p0 p1 m l53 n54 n55=some o50) FU [(0,_),(1,_),(12,_),(13,_),(14,_)] ⟨rfl,rfl,rfl,rfl,rfl,trivial⟩ ⟨_,_,_,_,rfl,H,hp0,e51⟩ ?_);rintro m56 e w ⟨l53,n54,n55,M,rfl,H,hp0,e51⟩;rcases m56 with _|m56
  · rw[Y02] at e51;cases e51
  rw[Y02] at e51;refine SQ (SQ (RG (MV G G (MV G G (ST (q0g Tu9 G) G (ST (q0n G G) G (NL (TN ?_))))))));refine CB (p:=n55<(p1.length:Int)) G (fun hk57=>?_) fun hk57=>?_
  ·
   rw[if_pos hk57] at e51;refine SK (TN (SQ (BL (SQ ?_))));obtain⟨c58,hxc58,e51⟩:=bnd e51;refine RG (MV G G (MV G G (ST (q0t Tu9 G G hxc58) G (AS G G (NL (TN (SQ ?_)))))));obtain⟨q59,hxq59,e51⟩:=bnd e51;obtain⟨v99,hc99,ho99⟩:=hp0.at hxq59;refine RG (MV G G (MV G G (FN G G Tu232 G Ts230 G G (ST (Ex.idxArrO Tu230 Ts88 G G hxq59) G (ST (q08 H G hc99 Ta88) G (ST (Ex.neqNilO Tu88 ho99 G) G (NL (TN ?_))))))));refine q0k G (fun hk60=>?_) (fun hk60=>?_)
   ·
    rw[if_pos hk60] at e51;obtain⟨n61,hxn61,e51⟩:=bnd e51;obtain⟨q62,hxq62,e51⟩:=bnd e51;obtain⟨v110,hc110,ho110⟩:=hp0.at hxq62;obtain⟨⟨l63,n64⟩,hx65,e51⟩:=bnd e51;try dsimp only at e51
    obtain⟨n66,hxn66,e51⟩:=bnd e51;refine q2f (fun e w =>∃  (M:Mem),e=[(0,ptr bp0 0),(1,S p1),(12,v85),(13,I n66),(14,I n55)]∧St w0 M0 M [RowI 5 encB v85 l63] w∧TabO M bp0 232 p0.1 p0.2) ?_ ?_
    ·
     refine q0H (m:=13) G G H ?_;intro w H;refine TK 0 G (fun _=>q01 G) G (TK 1 G (fun _=>q01 G) G (TK 2 G (fun _=>q01 G) G (TK 4 G (fun _=>q01 G) G (TK 5 G (fun _=>q01 G) G (TK 6 G (fun _=>q0K G) G (TK 7 G (fun _=>q03 Tu232 G Ts230 Dc G) G ?_))))));refine TK 8 G (fun _=>Ex.idxArrO Tu230 Ts88 G G hxq62) G ?_;refine q0R (i:=3) (j:=9) Kr G G ?_ ?_
     ·
      refine WR.rowFrom (l:=l53) Tu88 Ts5 H Km hxn61 G G (q00 G) G ?_;intro v105 hb105;refine NA (q0v (fuel:=0) [9,10,11,12] G Kr (ST (q08 H G hc110 Ta88) G (WR.copyC (l:=l53) Tu88 xone1_5 (fun _=>G) H (fun _=>by repeat first|exact .head|apply Upd.tail) hb105 (ho110.sl) hx65 G G (q00 G) G ?_)));intro w H;refine ST (q0p G G hxn66) G (AS G G (NA (q0l Kr ?_)));exact MP ⟨_,G,H,hp0⟩
     refine ST (q08 H G hc110 Ta88) G (NA (q0v (fuel:=0) [3,10,11,12] G Kr (WR.rowFrom (l:=l53) Tu88 Ts5 H Km hxn61 G G (q00 G) G ?_)));intro v105 hb105;refine WR.copyC (l:=l53) Tu88 xone1_5 (fun _=>G) H (fun _=>by repeat first|exact .head|apply Upd.tail) hb105 (ho110.sl) hx65 G G (q00 G) G ?_;intro w H;refine ST (q0p G G hxn66) G (AS G G (NA (q0l Kr ?_)));exact MP ⟨_,G,H,hp0⟩
    rintro e w ⟨M,rfl,H,hp0⟩;refine IB (TN ?_);obtain⟨n67,hxn67,e51⟩:=bnd e51;refine RG (MV G G (ST (q0p G G hxn67) G (AS G G (NL ?_))));exact AG m56 ⟨_,_,_,_,G,H,hp0,e51⟩ (l0b _)
   rw[if_neg (by rw[hk60];exact l06)] at e51;refine SQ ?_;obtain⟨c68,hxc68,e51⟩:=bnd e51;obtain⟨l69,hxl69,e51⟩:=bnd e51;refine RG (MV G G (MV G G (MV G G (WR.idxRowC (l:=l53) H Tu88 Ts5 Km G G hxc68 (q00 G) G ?_))));intro g117 hg117;refine WR.storeRowC (a:=c58) H G G ⟨G,G⟩ hg117 (fun _=>by repeat first|exact .head|apply Upd.tail) hxl69 Ts5 (q00 G) ?_;intro w H;refine NL (TN ?_);obtain⟨n70,hxn70,e51⟩:=bnd e51;refine RG (MV G G (ST (q0p G G hxn70) G (AS G G (NL (IB (TN ?_))))));obtain⟨n71,hxn71,e51⟩:=bnd e51;refine RG (MV G G (ST (q0p G G hxn71) G (AS G G (NL ?_))));exact AG m56 ⟨_,_,_,_,G,H,hp0,e51⟩ (l0b _)
  rw[if_neg hk57] at e51;refine q0m (q06 (q06 (q0d ?_)));exact MN ⟨_,_,G,H,e51⟩
 rintro e w ⟨l52,M,rfl,H,q72⟩;obtain rfl:=oI q72;refine TN (SQ (RG (MV G G ?_)));obtain⟨M,hle,hs73,H⟩:=H.freezeRow (v:=v85) (enc:=encB) (t:=5) Kv;refine ST (q1X Tu88 Tu5 Tu9 H (hs73) G) G (AS G G (NL (TN (RT ?_))));obtain rfl:=oI h;exact q07 G G H.ext G
def RplT (M:Mem)(b2:Nat):Prop:=TabO M b2 232 (tabk 2) (trk 2)
theorem RplT.mono {M M':Mem}{b2:Nat}(h:RplT M b2)(hl:M.le M'):RplT M' b2:=TabO.mono h hl
theorem rplBuilt : Y2D [[92],[92,92],[34],[92,34]]=some ((tabk 2,trk 2),[[92],[92,92],[34],[92,34]]):=by decide +kernel
theorem replT_ct {p0 r:Ls}{b2:Nat}(h:Y1a p0=some r):Ct Tryz.prog 273 [ptr b2 0,S p0] (fun M=>RplT M b2) (fun v M=>v=S r):=Y2Q (p0:=(tabk 2,trk 2)) h
def RplM (M:Mem)(x:Array Value):Prop:=(∃v,x = #[Value.int .u32 0,Value.int .i32 0,Value.int .u32 0,Value.nilIface,v]∧Sl M encS v [[92],[92,92],[34],[92,34]])∨∃b2,x = #[Value.int .u32 1,Value.int .i32 0,Value.int .u32 0,Value.iface 233 (ptr b2 0),Value.slice none 0 0]∧RplT M b2
theorem RplM.mono {M M':Mem}{x:Array Value}(h:RplM M x)(hl:M.le M'):RplM M' x:=by
 rcases h with ⟨v,h1,h2⟩|⟨b2,h1,h2⟩
 · exact .inl ⟨v,h1,h2.mono hl⟩
 exact .inr ⟨b2,h1,h2.mono hl⟩
theorem buildOnce_ct {b:Nat}{v:Value}:CtX Tryz.prog 147 [ptr b 0] [.blk b (.cells #[Value.int .u32 0,Value.int .i32 1,Value.int .u32 0,Value.nilIface,v] 166)] (fun M=>Sl M encS v [[92],[92,92],[34],[92,34]]) (fun r M its=>r = .tuple #[]∧∃b2,RplT M b2∧its=[.blk b (.cells #[Value.int .u32 0,Value.int .i32 1,Value.int .u32 0,Value.iface 233 (ptr b2 0),Value.slice none 0 0] 166)]):=by
 refine CtX.of Tryz.func147 (enters Tryz.func147 Kr G) G G G ?_;intro w0 M0 H hp;refine SQ (RG (MV G G (MV G G (q0x (A:=[.blk b (.cells #[Value.int .u32 0,Value.int .i32 1,Value.int .u32 0,Value.nilIface,v] 166)]) (B:=[]) H (Y3Q rplBuilt) (.left (q0o _)) G hp (q00 G) G ?_))));intro v4 M w its H hle hR;obtain⟨b2,rfl,hb2,rfl⟩:=hR;simp only[l04,l07] at H;refine FN G G Tu166 G Tryz.sizeOf164 G G (q0Q [Value.int .u32 0,Value.int .i32 1,Value.int .u32 0,Value.iface 233 (ptr b2 0),v] H G G ⟨G,G⟩ Upd.head G Tryz.sizeOf164 (show(3:Nat)<5 from by decide) (q00 G) ?_);intro w H;refine NL (TN (RG (MV G G (FN G G Tu166 G Ts55 G G (q0Q [Value.int .u32 0,Value.int .i32 1,Value.int .u32 0,Value.iface 233 (ptr b2 0),Value.slice none 0 0] H G G ⟨G,G⟩ Upd.head G Ts55 (show(4:Nat)<5 from by decide) (q00 G) ?_)))));intro w H;refine NL ?_;exact WQ.endX0 G H Kp ⟨G,b2,hb2,G⟩
theorem onceDo_ct {b:Nat}{x:Array Value}:CtX Tryz.prog 146 [ptr b 0, .func (.func 147) #[ptr b 0] #[]] [.blk b (.cells x 166)] (fun M=>RplM M x) (fun r M its=>r = .tuple #[]∧∃b2,RplT M b2∧its=[.blk b (.cells #[Value.int .u32 1,Value.int .i32 0,Value.int .u32 0,Value.iface 233 (ptr b2 0),Value.slice none 0 0] 166)]):=by
 refine⟨enters Tryz.func146 Kr G,fun w M H hp=>?_⟩;rcases hp with ⟨v,rfl,hs⟩|⟨b2,rfl,hb2⟩
 · have H1:StX (feet [.blk b (.cells #[Value.int .u32 0,Value.int .i32 0,Value.int .u32 0,Value.nilIface,v] 166)]) w M M [.blk b (.cells #[Value.int .u32 0,Value.int .i32 1,Value.int .u32 0,Value.nilIface,v] 166)] (w.setCell ⟨b,1,none⟩ (.int .i32 1)):=H.setC (o:=1) (v := .int .i32 1) Upd.head;refine(oFirst b w (fun w2 =>∃M2 b2,StX (feet [.blk b (.cells #[Value.int .u32 0,Value.int .i32 0,Value.int .u32 0,Value.nilIface,v] 166)]) w M M2 [.blk b (.cells #[Value.int .u32 0,Value.int .i32 1,Value.int .u32 0,Value.iface 233 (ptr b2 0),Value.slice none 0 0] 166)] w2∧RplT M2 b2) (H.cellOf (o:=0) (List.Mem.head _) rfl) (H.cellOf (o:=1) (List.Mem.head _) rfl) (H.thawOf (List.Mem.head _)) (H.thawOf (List.Mem.head _)) ?_ ?_).mono ?_
   · refine(buildOnce_ct.calls _ M (H1.hand (q1S _)) hs).mono ?_;rintro e w2 ⟨r,M2,its,rfl,h2,rfl,b2,hb2,rfl⟩;exact⟨G,M2,b2,H1.back (q1S _) h2,hb2⟩
   · rintro w2 ⟨M2,b2,h2,_⟩;exact⟨h2.cellOf (o:=0) (List.Mem.head _) G,h2.cellOf (o:=1) (List.Mem.head _) G,h2.thawOf (List.Mem.head _),h2.thawOf (List.Mem.head _)⟩
   rintro e w' ⟨rfl,w2,⟨M2,b2,h2,hb2⟩,rfl⟩;have h3:StX (feet [.blk b (.cells #[Value.int .u32 0,Value.int .i32 0,Value.int .u32 0,Value.nilIface,v] 166)]) w M M2 [.blk b (.cells #[Value.int .u32 1,Value.int .i32 1,Value.int .u32 0,Value.iface 233 (ptr b2 0),Value.slice none 0 0] 166)] (w2.drew.setCell ⟨b,0,none⟩ (.int .u32 1)):=h2.drew.setC (o:=0) (v := .int .u32 1) Upd.head;have h4:StX (feet [.blk b (.cells #[Value.int .u32 0,Value.int .i32 0,Value.int .u32 0,Value.nilIface,v] 166)]) w M M2 [.blk b (.cells #[Value.int .u32 1,Value.int .i32 0,Value.int .u32 0,Value.iface 233 (ptr b2 0),Value.slice none 0 0] 166)] ((w2.drew.setCell ⟨b,0,none⟩ (.int .u32 1)).setCell ⟨b,1,none⟩ (.int .i32 0)):=h3.setC (o:=1) (v := .int .i32 0) Upd.head;exact⟨_,M2,_,G,h4,G,b2,hb2,G⟩
 refine(oAgain ⟨b,0,none⟩ 1 Dc _ w (H.cellOf (o:=0) (List.Mem.head _) G)).mono ?_;rintro e w' ⟨rfl,rfl⟩;exact⟨_,M,_,G,H,G,b2,hb2,G⟩
theorem methR (b2 : Nat): MethAt Tryz.prog 233 (ptr b2 0) "Replace" 273 (ptr b2 0) := fun w => by kernel_rfl
theorem Y3G {p0:Ls}{b:Nat}{x:Array Value}{r:Ls}(h:Y1a p0=some r):CtX Tryz.prog 116 [ptr b 0,S p0] [.blk b (.cells x 166)] (fun M=>RplM M x) (fun v M its =>∃x',v=S r∧RplM M x'∧its=[.blk b (.cells x' 166)]):=by
 refine CtX.of Tryz.func116 (enters Tryz.func116 Kr G) G G G ?_;intro w0 M0 H hp;refine SQ (RG (AS G G (NL (TN (SQ (RG (MV G G (FN G G Tu166 G Tryz.sizeOf162 G G (MV G G (ST (Ex.makeFuncF (vs:=[ptr b 0]) G) G (q0x (A:=[.blk b (.cells x 166)]) (B:=[]) H (onceDo_ct (b:=b) (x:=x)) (.left (q0o _)) G hp (q00 G) G ?_)))))))))));intro v10 M w its H hle hR;obtain⟨rfl,b2,hb2,rfl⟩:=hR;simp only[l04,l07] at H;refine NL (TN (SQ (RG (MV G G (FN G G Tu166 G Tryz.sizeOf164 G G (ST (Ex.load1 H G (List.Mem.head _) Tryz.isAgg164 Kf) G ?_))))));refine MV G G (WR.callI H (replT_ct h) (methR b2) G G hb2 (q00 G) G ?_);intro v16 M w H hle hR;obtain rfl:=hR;refine AS G G (NL (TN (RT ?_)));exact q1s (its:=[.blk b (.cells #[Value.int .u32 1,Value.int .i32 0,Value.int .u32 0,Value.iface 233 (ptr b2 0),Value.slice none 0 0] 166)]) G G H Kp ⟨_,G, .inr ⟨b2,G,hb2.mono hle⟩,G⟩
theorem xplacesR :∀{fs:Array Field},Tryz.prog.underlying 166=some (.struct fs)→∀w,(fs.mapM fun f=>do pure (f.offset,←sizeOf f.type):Sem (Array (Nat × Nat))).run Tryz.prog w = .ok #[(0,3),(3,1),(4,1)] w:=by
 intro fs h w;rw[Tu166] at h;cases h;simp
theorem Y4b {p0:List Ls}{vp0:Value}{r:Unit}(h:Y14 p0=some r):CtX Tryz.prog 115 [vp0] [] (fun M=>Sl M encS vp0 p0) (fun v M its =>∃b x,v=ptr b 0∧RplM M x∧its=[.blk b (.cells x 166)]):=by
 unfold Y14 at h;split at h
 case isFalse=>cases h
 rename_i hl;subst hl;refine CtX.of Tryz.func115 (enters Tryz.func115 Kr G) G G G ?_;intro w0 M0 H hp0;refine SQ (RG (AS G G (NL (TN (SQ (SQ (RG (MV G G (ST (q0D Tu55 hp0 G) G (ST (Ex.remC (a:=4) (b:=2) (z:=0) G G G) G (q0V (q0e G G) Dc (q00 G) G G (NL (TN (CF G (SK (TN (SQ (RG (MV G G ?_)))))))))))))))))));replace H:=H.newRow 9 encS;refine q1g (l:=[]) xty55 G (fun _=>G) H G (fun _=>by repeat first|exact .head|apply Upd.tail) G hp0 (l3:=[[92],[92,92],[34],[92,34]]) G (q00 G) G ?_;intro v9 w H;obtain⟨M,hle,hs,H1⟩:=H.freezeRowN (v:=v9) (enc:=encS) (t:=9) Kv trivial;have hs2:=hs;obtain⟨A9,c9,rfl,-⟩:=hs2;refine ST (q0N [Value.int .u32 0,Value.int .i32 0,Value.int .u32 0,Value.nilIface, .slice A9 4 c9] Tu166 Tryz.zeroValue166 (xplacesR Tu166) G Kr) G (q1z [Value.int .u32 0,Value.int .i32 0,Value.int .u32 0,Value.nilIface, .slice A9 4 c9] H1 G G (q00 G) G ?_);intro b11 w H2;refine AS G G (NL (TN (RT ?_)));exact q1s (its:=[.blk b11 (.cells #[Value.int .u32 0,Value.int .i32 0,Value.int .u32 0,Value.nilIface, .slice A9 4 c9] 166)]) G G H2 Kp ⟨b11,_,G, .inl ⟨_,G,hs⟩,G⟩
theorem Y4r {s sep:Ls}{k:Int}:CtX Tryz.prog 113 [S s,S sep,I k] [] (fun _=>True) (fun v M its =>∃b1 b2 b3,v = .func (.func 143) #[] #[ptr b1 0,ptr b2 0,ptr b3 0]∧its=[.blk b1 (.cells #[S sep] 9), .blk b2 (.cells #[S s] 9), .blk b3 (.cells #[I k] 3)]):=by
 refine CtX.of Tryz.func113 (enters Tryz.func113 Kr G) G G G ?_;intro w0 M0 H _;refine SQ (RG (q1z [_] H G G (q00 G) G ?_));intro b2 w H;refine q1z [_] H G G (q00 G) G ?_;intro b1 w H;refine q1z [_] H G G (q00 G) G ?_;intro b3 w H;refine AS G G (NL (TN (SQ (RG (ST (q1T G) G (AS G G (NL (TN (RT ?_)))))))));exact q1s (its:=[.blk b1 (.cells #[S sep] 9), .blk b2 (.cells #[S s] 9), .blk b3 (.cells #[I k] 3)]) G G H Kp ⟨_,_,_,G,G⟩
theorem Y3H {s sep:Ls}:CtX Tryz.prog 79 [S s,S sep] [] (fun _=>True) (fun v M its =>∃b1 b2 b3,v = .func (.func 143) #[] #[ptr b1 0,ptr b2 0,ptr b3 0]∧its=[.blk b1 (.cells #[S sep] 9), .blk b2 (.cells #[S s] 9), .blk b3 (.cells #[I 0] 3)]):=by
 refine CtX.of Tryz.func79 (enters Tryz.func79 Kr G) G G G ?_;intro w0 M0 H _;refine SQ (RG (AS G G (NL (TN (SQ (RG (MV G G (MV G G (q0x (A:=[]) (B:=[]) H Y4r (q0o _) G trivial (q00 G) G ?_)))))))));intro v7 M w its H hle hR;obtain⟨b1,b2,b3,rfl,rfl⟩:=hR;simp only[l04,l07] at H;refine AS G G (NL (TN (RT ?_)));exact q1s (its:=[.blk b1 (.cells #[S sep] 9), .blk b2 (.cells #[S s] 9), .blk b3 (.cells #[I 0] 3)]) G G H Kp ⟨_,_,_,G,G⟩
theorem Y45 {p0 r:List (Ls × Ls × Ls)}{vp0:Value}(h:Y1Q p0=some r):Ct Tryz.prog 39 [vp0] (fun M=>SlS M 3 xenc24 vp0 p0) (fun v M=>SlS M 3 xenc24 v r):=by
 refine Ct.of Tryz.func39 (enters Tryz.func39 Kr G) G G G ?_;intro w0 M0 H hp0;unfold Y1Q at h;refine SQ (RG (AS G G (NL (TN (SQ (SQ ?_))))));rcases SlS.nilOr hp0 with ⟨rfl,rfl⟩|⟨a,c,rfl⟩
 · refine WC.region ?_;refine MV G G (ST (Ex.eqlNilS Tu30 G) G (NL (TN (CT G (SQ (RG (AS G G (NL (TN (RT ?_))))))))));obtain⟨_,rfl⟩:=app_some h;exact q07 G G H.ext (SlS.nil _ _ (fun _=>G))
 refine WC.region ?_;refine MV G G (ST (Ex.eqlNilS Tu30 G) G (NL (TN (CF G (SK ?_)))))
 (repeat(first|refine WQ.then ?_))
 refine SQ (RG (WR.litE xty30 xenc24 H (q00 G) G ?_));intro v5 w H;refine MV G G (q2l (l:=[]) xty30 G xone24 H G (fun _=>by repeat first|exact .head|apply Upd.tail) G hp0 h (q00 G) G ?_);intro v7 w H;refine AS G G (NL (TN (RT ?_)));obtain⟨M,hle,hf,H⟩:=H.freezeRowS (v:=v7) (enc:=xenc24) (t:=24) Kv (fun _=>rfl);exact q07 G G H.ext hf
theorem Y07 {p0:Int}{p1:Int}{r:(Int × Int)}(h:Y0a p0 p1=some r):Ct Tryz.prog 30 [I p0,I p1] (fun M=>True) (fun v M=>v=Value.agg #[I r.1,I r.2]):=by
 refine Ct.of Tryz.func30 (enters Tryz.func30 Kr G) G G G ?_;intro w0 M0 H hp;unfold Y0a at h;refine SQ (RG (q0j [_,_] H Tz27 G (q00 G) G ?_));intro bk4 w H;refine NL (TN (SQ (RG (MV G G (MV G G (ST (q0N [I p0,I p1] Tu27 Tz27 (xplaces27 Tu27) G G) G (q0c [_,_] H G G G Ku Ts27 G Kf Kf (q00 G) ?_)))))));intro w H;refine NL (TN (RT ?_));obtain rfl:=oI h;exact q07 G ⟨_,G,H.loadAgg Km Ta27 Ts27 Kf⟩ H.ext G
theorem Y3M {p0:Ls}{r:Int}(h:Y2r p0=some r):Ct Tryz.prog 29 [S p0] (fun M=>Tabs M) (fun v M=>v=I r):=by
 refine Ct.of Tryz.func29 (enters Tryz.func29 Kr G) G G G ?_;intro w0 M0 H hp;have gT:=hp;unfold Y2r at h;refine SQ (RG (AS G G (NL (TN (SQ (SQ (RG (MV G G (ST (q0g Tu9 G) G (ST (q0E G G) G (NL (TN ?_))))))))))));refine CB (p:=(500:Int)<(p0.length:Int)) G (fun hk1=>?_) fun hk1=>?_
 ·
  rw[if_pos hk1] at h;refine SQ (RG (AS G G (NL (TN (RT ?_)))));obtain rfl:=oI h;exact q07 G G H.ext G
 rw[if_neg hk1] at h;refine SK (TN (SQ (SQ ?_)));obtain⟨b2,hx3,h⟩:=bnd h;refine RG (MV G G (q05 H (Y3F hx3) G (gT) (q00 G) G ?_));intro v7 M w H hle hR;obtain rfl:=hR;refine ST (q0L G) G (NL (TN ?_));refine q0k G (fun hk4=>?_) (fun hk4=>?_)
 ·
  replace hk4:b2=false:=by simpa using hk4
  subst hk4;rw[if_neg l06] at h;refine SQ (RG (AS G G (NL (TN (RT ?_)))));obtain rfl:=oI h;exact q07 G G H.ext G
 replace hk4:b2=true:=by simpa using hk4
 subst hk4;rw[if_pos rfl] at h;refine SK (TN (SQ (RG (AS G G (NL (TN (RT ?_)))))));obtain rfl:=oI h;exact q07 G G H.ext G
theorem Y3N {p0:Ls}{p1:(UInt8→Option Bool)}{vp1:Value}{r:Bool}(h:Y2U p0 p1=some r):Ct Tryz.prog 66 [S p0,vp1] (fun M=>FnT90 M vp1 p1) (fun v M=>v=Value.bool r):=by
 refine Ct.of Tryz.func66 (enters Tryz.func66 Kr G) G G G ?_;intro w0 M0 H hp;have hp1:=hp;unfold Y2U at h;refine SQ (RG (AS G G (NL (TN (SQ (SQ (RG (MV G G (ST (q0g Tu9 G) G (MV G G (NL (TN ?_))))))))))));obtain⟨o1,e2,h⟩:=bnd h;refine q0h (fun e w =>∃  (M:Mem),e=[]∧St w0 M0 M [] w∧some (.inl ())=some o1) [] ?_ ?_ (trivial)
 ·
  refine BL (q0A (fun m e w =>∃(n3:Int) (M:Mem),e=[(0,S p0),(1,vp1),(7,I (p0.length:Int)),(8,I n3)]∧St w0 M0 M [] w∧FnT90 M vp1 p1∧Y1A p0 p1 m n3=some o1) FU [(0,_),(1,_),(7,_),(8,_)] ⟨rfl,rfl,rfl,rfl,trivial⟩ ⟨_,_,rfl,H,hp1,e2⟩ ?_);rintro m4 e w ⟨n3,M,rfl,H,hp1,e2⟩;rcases m4 with _|m4
  · rw[Y1A] at e2;cases e2
  rw[Y1A] at e2;refine SQ (RG (ST (q0n G G) G (NL (TN (SQ ?_)))));refine CB (p:=n3<(p0.length:Int)) G (fun hk5=>?_) fun hk5=>?_
  ·
   rw[if_pos hk5] at e2;refine SK (TN (SQ (BL (SQ (RG (MV G G (AS G G (NL (TN (SQ ?_))))))))));obtain⟨c6,hxc6,e2⟩:=bnd e2;obtain⟨b7,hx8,e2⟩:=bnd e2;refine RG (MV G G (MV G G (MV G G (ST (q0t Tu9 G G hxc6) G (WR.callF H (hp1.2 _ _ hx8) G G (q00 G) G ?_)))));intro v15 M w H hle hR;replace hp1:=hp1.mono hle;obtain rfl:=hR;refine ST (q0L G) G (NL (TN ?_));refine q0k G (fun hk9=>?_) (fun hk9=>?_)
   ·
    replace hk9:b7=false:=by simpa using hk9
    subst hk9;rw[if_neg l06] at e2;refine SQ (RG (AS G G (NL (TN (RT ?_)))));obtain rfl:=oI e2;try dsimp only at h
    obtain rfl:=oI h;exact q07 G G H.ext G
   replace hk9:b7=true:=by simpa using hk9
   subst hk9;rw[if_pos rfl] at e2;refine SK (IB (TN ?_));obtain⟨n10,hxn10,e2⟩:=bnd e2;refine RG (ST (q0p G G hxn10) G (MV G G (NL ?_)));exact AG m4 ⟨_,_,G,H,hp1,e2⟩ (l0b _)
  rw[if_neg hk5] at e2;refine q0m (q06 (q06 (q0d ?_)));exact MN ⟨_,G,H,e2⟩
 rintro e w ⟨M,rfl,H,q11⟩;obtain rfl:=oI q11;try dsimp only at h
 refine TN (SQ (RG (AS G G (NL (TN (RT ?_))))));obtain rfl:=oI h;exact q07 G G H.ext G
theorem Y4x {p0:UInt8}{r:Bool}(h:Y2J p0=some r):Ct Tryz.prog 67 [encB p0] (fun M=>True) (fun v M=>v=Value.bool r):=by
 refine Ct.of Tryz.func67 (enters Tryz.func67 Kr G) G G G ?_;intro w0 M0 H hp;unfold Y2J at h;refine SQ (RG (AS G G (NL (TN (SQ ?_)))));obtain⟨o1,e2,h⟩:=bnd h;refine q0h (fun e w =>∃(b3:Bool) (M:Mem),e=[(2,Value.bool b3)]∧St w0 M0 M [] w∧some b3=some o1) [] ?_ ?_ (trivial)
 ·
  by_cases hk4:32≤p0.toNat
  ·
   rw[if_pos hk4] at e2;refine RG (MV G G (DT hk4 (q1f (i:=p0.toNat) (j:=32) G G) G (MV G G (SG (q01 G) G G G (SG (q1A (i:=p0.toNat) (j:=126) G G) G G G (PT G G G (AS G G (NL ?_))))))));exact MN ⟨_,_,G,H,e2⟩
  rw[if_neg hk4] at e2;refine RG (MV G G (DF hk4 (q1f (i:=p0.toNat) (j:=32) G G) G (MV G G (GF G G G (GF G G G (PF G G G (AS G G (NL ?_))))))));exact MN ⟨_,_,G,H,e2⟩
 rintro e w ⟨b3,M,rfl,H,q5⟩;obtain rfl:=oI q5;refine TN (RT ?_);obtain rfl:=oI h;exact q07 G G H.ext G
theorem Y2Z {p0:Ls}{r:Bool}(h:Y2f p0=some r):Ct Tryz.prog 31 [S p0] (fun M=>True) (fun v M=>v=Value.bool r):=by
 refine Ct.of Tryz.func31 (enters Tryz.func31 Kr G) G G G ?_;intro w0 M0 H hp;unfold Y2f at h;refine SQ (RG (AS G G (NL (TN (SQ ?_)))));obtain⟨o1,e2,h⟩:=bnd h;refine q0h (fun e w =>∃(b3:Bool) (M:Mem),e=[(2,Value.bool b3)]∧St w0 M0 M [] w∧some b3=some o1) [] ?_ ?_ (trivial)
 ·
  by_cases hk4:p0=[]
  ·
   rw[if_pos hk4] at e2;refine RG (MV G G (q09 (v' := .bool false) (q1q G G) (congrArg Value.bool (by rw[decide_eq_true hk4];rfl)) (q00 G) G G ?_));refine MV G G (q0i 3 G G (PF G G G (MV G G (GF G G G (GF G G G (PF G G G (AS G G (NL ?_))))))));exact MN ⟨_,_,G,H,e2⟩
  rw[if_neg hk4] at e2;refine RG (MV G G (q09 (v' := .bool true) (q1q G G) (congrArg Value.bool (by rw[decide_eq_false hk4];rfl)) (q00 G) G G ?_));by_cases hk5:(p0.length:Int)≤(60:Int)
  ·
   rw[if_pos hk5] at e2;obtain⟨b6,hx7,e2⟩:=bnd e2;refine MV G G (SG (q01 G) G G G (SG (q0g Tu9 G) G G G (DU hk5 (q1C G G) G G G (PT G G G (MV G G (SG (q01 G) G G G (q05 H (Y3N hx7) G ((⟨⟨G,G⟩,(fun _ _ h=>FnV.of (Y4x h) (fun _ _=>trivial))⟩:FnT90 _ _ _)) (q04 G G G) G ?_)))))));intro v12 M w H hle hR;obtain rfl:=hR;refine PT G G G (AS G G (NL ?_));exact MN ⟨_,_,G,H,e2⟩
  rw[if_neg hk5] at e2;refine MV G G (SG (q01 G) G G G (SG (q0g Tu9 G) G G G (DG hk5 (q1C G G) G G G (PT G G G (MV G G (GF G G G (GF G G G (PF G G G (AS G G (NL ?_))))))))));exact MN ⟨_,_,G,H,e2⟩
 rintro e w ⟨b3,M,rfl,H,q8⟩;obtain rfl:=oI q8;refine TN (RT ?_);obtain rfl:=oI h;exact q07 G G H.ext G
theorem Y3t {p1:Ls}{p2:Ls}{p3:Int}{bp1:Nat}{bp2:Nat}{bp3:Nat}:ItS Tryz.prog 143 [ptr bp1 0,ptr bp2 0,ptr bp3 0] [.blk bp1 (.cells #[S p1] 9), .blk bp2 (.cells #[S p2] 9), .blk bp3 (.cells #[I p3] 3)] (fun M=>GlF (fun w =>∃m,w.cell? ⟨2,0,none⟩=some (.int .i64 m)) M∧Tabs M) encS (Y1H p1 p2 p3):=by
 refine ItS.of Tryz.func143 (enters Tryz.func143 Kr G) G G G ?_;intro lid σ Y Z C hY s0 r L0 w0 M0 h hzz H hp;simp only[l04,l07] at H;obtain⟨gM,gT⟩:=hp;unfold Y1H at h;refine SQ (SQ (RG (ST (XL H Ta9) G ?_)));refine ST (q0g Tu9 G) G (ST (q0e G G) G (NL (TN ?_)));refine CB (p:=(p1.length:Int)=(0:Int)) G (fun hk1=>?_) fun hk1=>?_
 ·
  rw[if_pos hk1] at h;refine SQ ?_;obtain⟨o2,e3,h⟩:=bnd h;refine q0h (fun e w =>∃(s4:Ls) (s5:σ) (Lc:List Ph.Item) (M:Mem),e=[]∧StX C w0 M0 M (.blk bp1 (.cells #[S p1] 9) :: .blk bp2 (.cells #[S s4] 9) :: .blk bp3 (.cells #[I p3] 3)::Lc) w∧GlF (fun w =>∃m,w.cell? ⟨2,0,none⟩=some (.int .i64 m)) M∧Tabs M∧ZH Z s5 Lc M∧some (.inl (s4,s5))=some o2) [] ?_ ?_ (trivial)
  ·
   refine BL ?_;refine q0A (fun m e w =>∃(s6:Ls) (s7:σ) (Lc:List Ph.Item) (M:Mem),e=[(0,(yv lid)),(2,ptr bp2 0)]∧StX C w0 M0 M (.blk bp2 (.cells #[S s6] 9) :: .blk bp1 (.cells #[S p1] 9) :: .blk bp3 (.cells #[I p3] 3)::Lc) w∧GlF (fun w =>∃m,w.cell? ⟨2,0,none⟩=some (.int .i64 m)) M∧Tabs M∧ZH Z s7 Lc M∧Y1C Y m s6 s7=some o2) FU [(0,_),(2,_)] ⟨rfl,rfl,trivial⟩ ⟨_,_,_,_,rfl,(H.pick (L':=(.blk bp2 (.cells #[S p2] 9) :: .blk bp1 (.cells #[S p1] 9) :: .blk bp3 (.cells #[I p3] 3)::L0)) (by repeat(first|refine Pick.cons Kv ?_|exact Pick.ofSub (by repeat(first|exact List.Sublist.refl _|apply List.Sublist.cons))))),gM,gT,hzz,e3⟩ ?_;rintro m8 e w ⟨s6,s7,Lc,M,rfl,H,gM,gT,hzz,e3⟩;rcases m8 with _|m8
   · rw[Y1C] at e3;cases e3
   rw[Y1C] at e3;refine SQ (SQ (RG (ST (XL H Ta9) G ?_)));refine ST (q0g Tu9 G) G (ST (q0E G G) G (NL (TN ?_)));refine CB (p:=(0:Int)<(s6.length:Int)) G (fun hk9=>?_) fun hk9=>?_
   ·
    rw[if_pos hk9] at e3;refine SK (TN (BL (SQ ?_)));obtain⟨⟨n10,n11⟩,hx12,e3⟩:=bnd e3;try dsimp only at e3
    refine RG (ST (XL H Ta9) G ?_);refine q05 H (Y3J hx12) G (gT) (q00 G) G ?_;intro v17 M w H hle hR;replace gM:=gM.mono hle;replace gT:=gT.mono hle;replace hzz:=hzz.mono hle;try dsimp only at hR
    obtain rfl:=hR;refine MV G G (ST (q0b G G) G (ST (q0b G G) G (AS G G (AS G G (NL (TN (SQ (SQ ?_))))))));obtain⟨s13,hxs13,e3⟩:=bnd e3;obtain⟨⟨s14,b15⟩,hx16,e3⟩:=bnd e3;try dsimp only at e3
    refine RG (MV G G (ST (XL H Ta9) G ?_));refine MV G G (ST (q2m Tu9 G G hxs13) G (WR.yieldS H (.right (.right (.right (q1S _)))) hY hzz hx16 G G (q00 G) G ?_));intro w M Lc H hle hzz;simp only[l04,l07] at H;replace gM:=gM.mono hle;replace gT:=gT.mono hle;refine ST (q0L G) G (NL (TN ?_));refine q0k G (fun hk17=>?_) (fun hk17=>?_)
    ·
     replace hk17:b15=false:=by simpa using hk17
     subst hk17;rw[if_neg l06] at e3;refine RT ?_;obtain rfl:=oI e3;try dsimp only at h
     obtain rfl:=oI h;exact WQ.retZ G H (by repeat(first|exact List.Sublist.refl _|apply List.Sublist.cons)) hzz G
    replace hk17:b15=true:=by simpa using hk17
    subst hk17;rw[if_pos rfl] at e3;refine SK (TN ?_);obtain⟨s18,hxs18,e3⟩:=bnd e3;refine RG (ST (XL H Ta9) G ?_);refine MV G G (ST (q1U Tu9 G G hxs18) G (q0c [_] H G G G Ku Ts9 G Kf Kf (q00 G) ?_));intro w H;refine NL (IB ?_);exact AG m8 ⟨_,_,_,_,G,H,gM,gT,hzz,e3⟩ (l0b _)
   rw[if_neg hk9] at e3;refine q0m (q06 (q06 (q0d ?_)));exact MN ⟨_,_,_,_,G,(H.pick (L':=(.blk bp1 (.cells #[S p1] 9) :: .blk bp2 (.cells #[S s6] 9) :: .blk bp3 (.cells #[I p3] 3)::Lc)) (by repeat(first|refine Pick.cons Kv ?_|exact Pick.ofSub (by repeat(first|exact List.Sublist.refl _|apply List.Sublist.cons))))),gM,gT,hzz,e3⟩
  rintro e w ⟨s4,s5,Lc,M,rfl,H,gM,gT,hzz,q19⟩;obtain rfl:=oI q19;try dsimp only at h
  refine TN (RT ?_);obtain rfl:=oI h;exact WQ.retZ G H (by repeat(first|exact List.Sublist.refl _|apply List.Sublist.cons)) hzz G
 rw[if_neg hk1] at h;refine SK (TN (SQ ?_));obtain⟨o22,e23,h⟩:=bnd h;refine q0h (fun e w =>∃(s24:Ls) (s25:σ) (Lc:List Ph.Item) (M:Mem),e=[(0,(yv lid)),(2,ptr bp2 0)]∧StX C w0 M0 M (.blk bp2 (.cells #[S s24] 9) :: .blk bp1 (.cells #[S p1] 9) :: .blk bp3 (.cells #[I p3] 3)::Lc) w∧GlF (fun w =>∃m,w.cell? ⟨2,0,none⟩=some (.int .i64 m)) M∧Tabs M∧ZH Z s25 Lc M∧some (.inl (s24,s25))=some o22) [] ?_ ?_ (trivial)
 ·
  refine BL (q0A (fun m e w =>∃(s26:Ls) (s27:σ) (Lc:List Ph.Item) (M:Mem),e=[(0,(yv lid)),(1,ptr bp1 0),(2,ptr bp2 0),(3,ptr bp3 0)]∧StX C w0 M0 M (.blk bp1 (.cells #[S p1] 9) :: .blk bp2 (.cells #[S s26] 9) :: .blk bp3 (.cells #[I p3] 3)::Lc) w∧GlF (fun w =>∃m,w.cell? ⟨2,0,none⟩=some (.int .i64 m)) M∧Tabs M∧ZH Z s27 Lc M∧Y0z Y p1 p3 m s26 s27=some o22) FU [(0,_),(1,_),(2,_),(3,_)] ⟨rfl,rfl,rfl,rfl,trivial⟩ ⟨_,_,_,_,rfl,H,gM,gT,hzz,e23⟩ ?_);rintro m28 e w ⟨s26,s27,Lc,M,rfl,H,gM,gT,hzz,e23⟩;rcases m28 with _|m28
  · rw[Y0z] at e23;cases e23
  rw[Y0z] at e23;refine BL (SQ ?_);obtain⟨n29,hx30,e23⟩:=bnd e23;refine RG (ST (XL H Ta9) G ?_);refine ST (XL H Ta9) G ?_;refine q05 H (Y4N hx30) G (gM) (q00 G) G ?_;intro v31 M w H hle hR;replace gM:=gM.mono hle;replace gT:=gT.mono hle;replace hzz:=hzz.mono hle;obtain rfl:=hR;refine AS G G (NL (TN (SQ (SQ (RG (MV G G (ST (q0n G G) G (NL (TN ?_)))))))));refine CB (p:=n29<(0:Int)) G (fun hk31=>?_) fun hk31=>?_
  ·
   rw[if_pos hk31] at e23;refine q0m (q06 (q2p G (q06 (q0d ?_))));exact MN ⟨_,_,_,_,G,(H.pick (L':=(.blk bp2 (.cells #[S s26] 9) :: .blk bp1 (.cells #[S p1] 9) :: .blk bp3 (.cells #[I p3] 3)::Lc)) (by repeat(first|refine Pick.cons Kv ?_|exact Pick.ofSub (by repeat(first|exact List.Sublist.refl _|apply List.Sublist.cons))))),gM,gT,hzz,e23⟩
  rw[if_neg hk31] at e23;refine SK (TN (SQ ?_));obtain⟨n32,hxn32,e23⟩:=bnd e23;obtain⟨s33,hxs33,e23⟩:=bnd e23;refine RG (ST (XL H Ta9) G ?_);refine MV G G (ST (XL H Ta3) G ?_);refine ST (q0p G G hxn32) G (ST (q2m Tu9 G G hxs33) G (AS G G (NL (TN (SQ (SQ ?_))))));obtain⟨⟨s34,b35⟩,hx36,e23⟩:=bnd e23;try dsimp only at e23
  refine RG (MV G G (MV G G (WR.yieldS H (.right (.right (.right (q1S _)))) hY hzz hx36 G G (q00 G) G ?_)));intro w M Lc H hle hzz;simp only[l04,l07] at H;replace gM:=gM.mono hle;replace gT:=gT.mono hle;refine ST (q0L G) G (NL (TN ?_));refine q0k G (fun hk37=>?_) (fun hk37=>?_)
  ·
   replace hk37:b35=false:=by simpa using hk37
   subst hk37;rw[if_neg l06] at e23;refine RT ?_;obtain rfl:=oI e23;try dsimp only at h
   obtain rfl:=oI h;exact WQ.retZ G H (by repeat(first|exact List.Sublist.refl _|apply List.Sublist.cons)) hzz G
  replace hk37:b35=true:=by simpa using hk37
  subst hk37;rw[if_pos rfl] at e23;refine SK (TN ?_);obtain⟨n38,hxn38,e23⟩:=bnd e23;obtain⟨s39,hxs39,e23⟩:=bnd e23;refine RG (ST (XL H Ta9) G ?_);refine MV G G (ST (XL H Ta9) G ?_);refine ST (q0g Tu9 G) G (ST (q0p G G hxn38) G (ST (q1U Tu9 G G hxs39) G (q0c [_] H G G G Ku Ts9 G Kf Kf (q00 G) ?_)));intro w H;refine NL (IB ?_);exact AG m28 ⟨_,_,_,_,G,H,gM,gT,hzz,e23⟩ (l0b _)
 rintro e w ⟨s24,s25,Lc,M,rfl,H,gM,gT,hzz,q40⟩;obtain rfl:=oI q40;try dsimp only at h
 refine TN ?_;obtain⟨⟨s41,b42⟩,hx43,h⟩:=bnd h;try dsimp only at h
 refine RG (MV G G (ST (XL H Ta9) G ?_));refine WR.yieldS H (.right (.right (.right (q1S _)))) hY hzz hx43 G G (q00 G) G ?_;intro w M Lc H hle hzz;simp only[l04,l07] at H;refine NL ?_;obtain rfl:=oI h;exact WQ.endZ G H (by repeat(first|exact List.Sublist.refl _|apply List.Sublist.cons)) hzz G
theorem Y49 {p0:Ls}{p1:(UInt8→Option Bool)}{vp1:Value}{r:Bool}(h:Y2P p0 p1=some r):Ct Tryz.prog 68 [S p0,vp1] (fun M=>GlF (fun w =>∃m,w.cell? ⟨2,0,none⟩=some (.int .i64 m)) M∧Tabs M∧FnT90 M vp1 p1) (fun v M=>v=Value.bool r):=by
 refine Ct.ofM Tryz.func68 (enters Tryz.func68 Kr G) G G G ?_;intro w0 M0 H hp;obtain⟨gM,gT,hp1⟩:=hp;unfold Y2P at h;refine SQ (RG (q1z [_] H G hp1.1.1 (q00 G) G ?_));intro bk3 w H;refine q0j [_] H Tz4 G (q00 G) G ?_;intro bk4 w H;refine NL (TN (SQ (SQ (RG (MV G G (q0x (A:=[]) (B:=[.blk bk4 (.cells #[Value.bool false] 4), .blk bk3 (.cells #[vp1] 90)]) H Y3H (q0o _) G trivial (q00 G) G ?_))))));intro v7 M w its H hle hR;replace gM:=gM.mono hle;replace gT:=gT.mono hle;replace hp1:=hp1.mono hle;obtain⟨bk7_0,bk7_1,bk7_2,rfl,rfl⟩:=hR;simp only[l04,l07] at H;refine NL (TN (BL ?_));obtain⟨o4,e5,h⟩:=bnd h;refine WC.rangeS (A:=[.blk bk7_0 (.cells #[S [46]] 9), .blk bk7_1 (.cells #[S p0] 9), .blk bk7_2 (.cells #[I 0] 3)]) (L:=[.blk bk3 (.cells #[vp1] 90), .blk bk4 (.cells #[Value.bool false] 4)]) (B:=[]) (H.pick (L':=[.blk bk7_0 (.cells #[S [46]] 9), .blk bk7_1 (.cells #[S p0] 9), .blk bk7_2 (.cells #[I 0] 3), .blk bk3 (.cells #[vp1] 90), .blk bk4 (.cells #[Value.bool false] 4)]) Kp) rfl Y3t (.left (.left (.left (.left (.left (q0o _)))))) ⟨gM,gT⟩ rfl (fun s L M =>∃(b1:Bool) (tg3:Nat),s=(b1,tg3)∧L=[.blk bk3 (.cells #[vp1] 90), .blk bk4 (.cells #[Value.bool b1] 4)]∧GlF (fun w =>∃m,w.cell? ⟨2,0,none⟩=some (.int .i64 m)) M∧Tabs M∧FnT90 M vp1 p1) (fun s=>exE [.ret] s.2) exStop (fun s=>exE_stop _ s) (Y28 p1) (false,0) o4 e5 (by rintro s L M M' ⟨b1,tg3,rfl,rfl,gM,gT,hp1⟩ hle;exact ⟨_,_,rfl,rfl,gM.mono hle,gT.mono hle,hp1.mono hle⟩) rfl ⟨_,_,rfl,rfl,gM,gT,hp1⟩ ?_ ?_ ?_
 ·
  rintro lid2 rc2 hrc2 s x6 sx2 L wb2 Mb2 hE e7 ⟨b1,tg3,rfl,rfl,gM,gT,hp1⟩ H;unfold Y28 at e7;try dsimp only at e7
  refine RG (AS G G (NL (WQ.begin hrc2 H Ku ?_)));intro w H;refine BL (SQ ?_);obtain⟨o8,e9,e7⟩:=bnd e7;refine q0h (fun e w =>∃(b10:Bool) (M:Mem),e=[(3,ptr bk3 0),(4,ptr bk4 0),(16,Value.bool b10)]∧StX (feet (.blk lid2 (.loop (rc2 .ready none))::[.blk bk3 (.cells #[vp1] 90), .blk bk4 (.cells #[Value.bool b1] 4)])) wb2 Mb2 M [.blk bk3 (.cells #[vp1] 90), .blk bk4 (.cells #[Value.bool b1] 4), .blk lid2 (.loop (rc2 .busy none))] w∧GlF (fun w =>∃m,w.cell? ⟨2,0,none⟩=some (.int .i64 m)) M∧Tabs M∧FnT90 M vp1 p1∧some b10=some o8) [] ?_ ?_ (trivial)
  ·
   by_cases hk11:x6=[]
   ·
    rw[if_pos hk11] at e9;refine RG (MV G G (DT hk11 (q0z G G) G (MV G G (q0i 4 G G (PT G G G (NL ?_))))));exact MN ⟨_,_,G,(H.pick (L':=[.blk bk3 (.cells #[vp1] 90), .blk bk4 (.cells #[Value.bool b1] 4), .blk lid2 (.loop (rc2 .busy none))]) Kp),gM,gT,hp1,e9⟩
   rw[if_neg hk11] at e9;obtain⟨b12,hx13,e9⟩:=bnd e9;refine RG (MV G G (DF hk11 (q0z G G) G (MV G G (SG (q01 G) G G G (SG (XL H Tryz.isAgg90) G G G ?_)))));refine q05 H (Y3N hx13) G (hp1) (q04 G G G) G ?_;intro v14 M w H hle hR;replace gM:=gM.mono hle;replace gT:=gT.mono hle;replace hp1:=hp1.mono hle;obtain rfl:=hR;refine SG (q0L G) G G G (PF G G G (NL ?_));exact MN ⟨_,_,G,(H.pick (L':=[.blk bk3 (.cells #[vp1] 90), .blk bk4 (.cells #[Value.bool b1] 4), .blk lid2 (.loop (rc2 .busy none))]) Kp),gM,gT,hp1,e9⟩
  rintro e w ⟨b10,M,rfl,H,gM,gT,hp1,q14⟩;obtain rfl:=oI q14;refine TN ?_;refine q0k G (fun hk15=>?_) (fun hk15=>?_)
  ·
   subst hk15;rw[if_pos rfl] at e7;refine SQ (RG (q0c [_] H G G G Ku Ts4 G Kf Kf (q00 G) ?_));intro w H;refine NL (TN (RT ?_));obtain rfl:=oI e7;exact WQ.rsRet hrc2 (H.pick (L':=[.blk lid2 (.loop (rc2 .busy none)), .blk bk3 (.cells #[vp1] 90), .blk bk4 (.cells #[Value.bool false] 4)]) Kp) G ⟨_,_,G,G,gM,gT,hp1⟩
  subst hk15;rw[if_neg l06] at e7;refine SK (IB ?_);obtain rfl:=oI e7;exact WQ.rsOn hrc2 (H.pick (L':=[.blk lid2 (.loop (rc2 .busy none)), .blk bk3 (.cells #[vp1] 90), .blk bk4 (.cells #[Value.bool b1] 4)]) Kp) G ⟨_,_,G,G,gM,gT,hp1⟩
 ·
  rintro Dm2 w M L H hle hE ⟨b1,tg3,rfl,rfl,gM,gT,hp1⟩;simp only[l04,l07,l0g] at H;try dsimp only at h
  obtain rfl:=exE_none hE;rw[if_pos rfl] at h;refine IB (TN (SQ (RG (q0c [_] H G G G Ku Ts4 G Kf Kf (q00 G) ?_))));intro w H;refine NL (TN (RT ?_));obtain rfl:=oI h;exact WQ.nret1 G H Kv (fun w H=>⟨_,G,H.load1 Km Ta4 Kf⟩) G
 rintro Dm2 w M L c H hle hE ⟨b1,tg3,rfl,rfl,gM,gT,hp1⟩;simp only[l04,l07,l0g] at H;try dsimp only at h
 by_cases kt2:tg3=1
 ·
  subst kt2;obtain rfl:=oI hE;rw[if_neg Dc,if_pos rfl] at h;refine RT ?_;obtain rfl:=oI h;exact WQ.nret1 G H Kv (fun w H=>⟨_,G,H.load1 Km Ta4 Kf⟩) G
 have kn2_1:=kt2;rw[if_neg (exE_ne hE),if_neg kn2_1] at h;cases h
theorem Y3I {p0:UInt8}{r:Bool}(h:Y2b p0=some r):Ct Tryz.prog 70 [encB p0] (fun M=>True) (fun v M=>v=Value.bool r):=by
 refine Ct.of Tryz.func70 (enters Tryz.func70 Kr G) G G G ?_;intro w0 M0 H hp;unfold Y2b at h;refine SQ (RG (AS G G (NL (TN (SQ ?_)))));obtain⟨o1,e2,h⟩:=bnd h;refine q0h (fun e w =>∃(b3:Bool) (M:Mem),e=[(2,Value.bool b3)]∧St w0 M0 M [] w∧some b3=some o1) [] ?_ ?_ (trivial)
 ·
  by_cases hk4:97≤p0.toNat
  ·
   rw[if_pos hk4] at e2;refine RG (MV G G (DT hk4 (q1f (i:=p0.toNat) (j:=97) G G) G ?_));by_cases hk5:p0.toNat≤122
   ·
    rw[if_pos hk5] at e2;refine MV G G (SG (q01 G) G G G (DU hk5 (q1A (i:=p0.toNat) (j:=122) G G) G G G (PT G G G (MV G G (q0i 6 G G (PT G G G (MV G G (q0i 6 G G (PT G G G (AS G G (NL ?_)))))))))));exact MN ⟨_,_,G,H,e2⟩
   rw[if_neg hk5] at e2;by_cases hk6:65≤p0.toNat
   ·
    rw[if_pos hk6] at e2;by_cases hk7:p0.toNat≤90
    ·
     rw[if_pos hk7] at e2;refine MV G G (SG (q01 G) G G G (DG hk5 (q1A (i:=p0.toNat) (j:=122) G G) G G G (PT G G G (MV G G (SG (q01 G) G G G (DU hk6 (q1f (i:=p0.toNat) (j:=65) G G) G G G (SG (q01 G) G G G (SG (q01 G) G G G (DU hk7 (q1A (i:=p0.toNat) (j:=90) G G) G G G (SG (q0r G G) G G G (PF G G G (MV G G (q0i 6 G G (PT G G G (AS G G (NL ?_))))))))))))))));exact MN ⟨_,_,G,H,e2⟩
    rw[if_neg hk7] at e2;by_cases hk8:48≤p0.toNat
    ·
     rw[if_pos hk8] at e2;refine MV G G (SG (q01 G) G G G (DG hk5 (q1A (i:=p0.toNat) (j:=122) G G) G G G (PT G G G (MV G G (SG (q01 G) G G G (DU hk6 (q1f (i:=p0.toNat) (j:=65) G G) G G G (SG (q01 G) G G G (SG (q01 G) G G G (DG hk7 (q1A (i:=p0.toNat) (j:=90) G G) G G G (SG (q0r G G) G G G (PF G G G (MV G G (SG (q01 G) G G G (DU hk8 (q1f (i:=p0.toNat) (j:=48) G G) G G G (SG (q01 G) G G G (SG (q01 G) G G G ?_))))))))))))))));refine SG (q1A (i:=p0.toNat) (j:=57) G G) G G G (SG (q0r G G) G G G (PF G G G (AS G G (NL ?_))));exact MN ⟨_,_,G,H,e2⟩
    rw[if_neg hk8] at e2;refine MV G G (SG (q01 G) G G G (DG hk5 (q1A (i:=p0.toNat) (j:=122) G G) G G G (PT G G G (MV G G (SG (q01 G) G G G (DU hk6 (q1f (i:=p0.toNat) (j:=65) G G) G G G (SG (q01 G) G G G (SG (q01 G) G G G (DG hk7 (q1A (i:=p0.toNat) (j:=90) G G) G G G (SG (q0r G G) G G G (PF G G G (MV G G (SG (q01 G) G G G (DG hk8 (q1f (i:=p0.toNat) (j:=48) G G) G G G (SG (q01 G) G G G (GF G G G ?_))))))))))))))));refine GF G G G (SG (q0s G G) G G G (PF G G G (AS G G (NL ?_))));exact MN ⟨_,_,G,H,e2⟩
   rw[if_neg hk6] at e2;by_cases hk9:48≤p0.toNat
   ·
    rw[if_pos hk9] at e2;refine MV G G (SG (q01 G) G G G (DG hk5 (q1A (i:=p0.toNat) (j:=122) G G) G G G (PT G G G (MV G G (SG (q01 G) G G G (DG hk6 (q1f (i:=p0.toNat) (j:=65) G G) G G G (SG (q01 G) G G G (GF G G G (GF G G G (SG (q0s G G) G G G (PF G G G (MV G G (SG (q01 G) G G G (DU hk9 (q1f (i:=p0.toNat) (j:=48) G G) G G G (SG (q01 G) G G G (SG (q01 G) G G G (SG (q1A (i:=p0.toNat) (j:=57) G G) G G G (SG (q0r G G) G G G (PF G G G (AS G G (NL ?_)))))))))))))))))))));exact MN ⟨_,_,G,H,e2⟩
   rw[if_neg hk9] at e2;refine MV G G (SG (q01 G) G G G (DG hk5 (q1A (i:=p0.toNat) (j:=122) G G) G G G (PT G G G (MV G G (SG (q01 G) G G G (DG hk6 (q1f (i:=p0.toNat) (j:=65) G G) G G G (SG (q01 G) G G G (GF G G G (GF G G G (SG (q0s G G) G G G (PF G G G (MV G G (SG (q01 G) G G G (DG hk9 (q1f (i:=p0.toNat) (j:=48) G G) G G G (SG (q01 G) G G G (GF G G G (GF G G G (SG (q0s G G) G G G (PF G G G (AS G G (NL ?_)))))))))))))))))))));exact MN ⟨_,_,G,H,e2⟩
  rw[if_neg hk4] at e2;refine RG (MV G G (DF hk4 (q1f (i:=p0.toNat) (j:=97) G G) G ?_));by_cases hk10:65≤p0.toNat
  ·
   rw[if_pos hk10] at e2;by_cases hk11:p0.toNat≤90
   ·
    rw[if_pos hk11] at e2;refine MV G G (GF G G G (GF G G G (PF G G G (MV G G (SG (q01 G) G G G (DU hk10 (q1f (i:=p0.toNat) (j:=65) G G) G G G (SG (q01 G) G G G (SG (q01 G) G G G (DU hk11 (q1A (i:=p0.toNat) (j:=90) G G) G G G (SG (q0r G G) G G G (PF G G G (MV G G (q0i 6 G G (PT G G G (AS G G (NL ?_))))))))))))))));exact MN ⟨_,_,G,H,e2⟩
   rw[if_neg hk11] at e2;by_cases hk12:48≤p0.toNat
   ·
    rw[if_pos hk12] at e2;refine MV G G (GF G G G (GF G G G (PF G G G (MV G G (SG (q01 G) G G G (DU hk10 (q1f (i:=p0.toNat) (j:=65) G G) G G G (SG (q01 G) G G G (SG (q01 G) G G G (DG hk11 (q1A (i:=p0.toNat) (j:=90) G G) G G G (SG (q0r G G) G G G (PF G G G (MV G G (SG (q01 G) G G G (DU hk12 (q1f (i:=p0.toNat) (j:=48) G G) G G G (SG (q01 G) G G G (SG (q01 G) G G G (SG (q1A (i:=p0.toNat) (j:=57) G G) G G G (SG (q0r G G) G G G (PF G G G (AS G G (NL ?_)))))))))))))))))))));exact MN ⟨_,_,G,H,e2⟩
   rw[if_neg hk12] at e2;refine MV G G (GF G G G (GF G G G (PF G G G (MV G G (SG (q01 G) G G G (DU hk10 (q1f (i:=p0.toNat) (j:=65) G G) G G G (SG (q01 G) G G G (SG (q01 G) G G G (DG hk11 (q1A (i:=p0.toNat) (j:=90) G G) G G G (SG (q0r G G) G G G (PF G G G (MV G G (SG (q01 G) G G G (DG hk12 (q1f (i:=p0.toNat) (j:=48) G G) G G G (SG (q01 G) G G G (GF G G G (GF G G G (SG (q0s G G) G G G (PF G G G (AS G G (NL ?_)))))))))))))))))))));exact MN ⟨_,_,G,H,e2⟩
  rw[if_neg hk10] at e2;by_cases hk13:48≤p0.toNat
  ·
   rw[if_pos hk13] at e2;refine MV G G (GF G G G (GF G G G (PF G G G (MV G G (SG (q01 G) G G G (DG hk10 (q1f (i:=p0.toNat) (j:=65) G G) G G G (SG (q01 G) G G G (GF G G G (GF G G G (SG (q0s G G) G G G (PF G G G (MV G G (SG (q01 G) G G G (DU hk13 (q1f (i:=p0.toNat) (j:=48) G G) G G G (SG (q01 G) G G G (SG (q01 G) G G G (SG (q1A (i:=p0.toNat) (j:=57) G G) G G G (SG (q0r G G) G G G (PF G G G (AS G G (NL ?_)))))))))))))))))))));exact MN ⟨_,_,G,H,e2⟩
  rw[if_neg hk13] at e2;refine MV G G (GF G G G (GF G G G (PF G G G (MV G G (SG (q01 G) G G G (DG hk10 (q1f (i:=p0.toNat) (j:=65) G G) G G G (SG (q01 G) G G G (GF G G G (GF G G G (SG (q0s G G) G G G (PF G G G (MV G G (SG (q01 G) G G G (DG hk13 (q1f (i:=p0.toNat) (j:=48) G G) G G G (SG (q01 G) G G G (GF G G G (GF G G G (SG (q0s G G) G G G (PF G G G (AS G G (NL ?_)))))))))))))))))))));exact MN ⟨_,_,G,H,e2⟩
 rintro e w ⟨b3,M,rfl,H,q14⟩;obtain rfl:=oI q14;refine TN (RT ?_);obtain rfl:=oI h;exact q07 G G H.ext G
theorem Y4s {p0:UInt8}{r:Bool}(h:Y2y p0=some r):Ct Tryz.prog 69 [encB p0] (fun M=>True) (fun v M=>v=Value.bool r):=by
 refine Ct.of Tryz.func69 (enters Tryz.func69 Kr G) G G G ?_;intro w0 M0 H hp;unfold Y2y at h;refine SQ (RG (AS G G (NL (TN (SQ ?_)))));obtain⟨o1,e2,h⟩:=bnd h;refine q0h (fun e w =>∃(b3:Bool) (M:Mem),e=[(2,Value.bool b3)]∧St w0 M0 M [] w∧some b3=some o1) [] ?_ ?_ (trivial)
 ·
  obtain⟨b4,hx5,e2⟩:=bnd e2;refine RG (MV G G (q05 H (Y3I hx5) G trivial (q00 G) G ?_));intro v4 M w H hle hR;obtain rfl:=hR;refine MV G G ?_;rcases b4 with _|_
  ·
   rw[if_neg l06] at e2;refine SG (q01 G) G G G (SG (q1B (c:=p0) (d:=45) G G) G G G (PF G G G (AS G G (NL ?_))));exact MN ⟨_,_,G,H,e2⟩
  rw[if_pos rfl] at e2;refine GT G G G (GT G G G (PT G G G (AS G G (NL ?_))));exact MN ⟨_,_,G,H,e2⟩
 rintro e w ⟨b3,M,rfl,H,q6⟩;obtain rfl:=oI q6;refine TN (RT ?_);obtain rfl:=oI h;exact q07 G G H.ext G
theorem Y3Y {p0:Ls}{r:Bool}(h:Y2C p0=some r):Ct Tryz.prog 32 [S p0] (fun M=>GlF (fun w =>∃m,w.cell? ⟨2,0,none⟩=some (.int .i64 m)) M∧Tabs M) (fun v M=>v=Value.bool r):=by
 refine Ct.of Tryz.func32 (enters Tryz.func32 Kr G) G G G ?_;intro w0 M0 H hp;obtain⟨gM,gT⟩:=hp;unfold Y2C at h;refine SQ (RG (AS G G (NL (TN (SQ ?_)))));obtain⟨o1,e2,h⟩:=bnd h;refine q0h (fun e w =>∃(b3:Bool) (M:Mem),e=[(2,Value.bool b3)]∧St w0 M0 M [] w∧GlF (fun w =>∃m,w.cell? ⟨2,0,none⟩=some (.int .i64 m)) M∧Tabs M∧some b3=some o1) [] ?_ ?_ (trivial)
 ·
  refine RG (MV G G (ST (q0g Tu9 G) G ?_));by_cases hk4:(p0.length:Int)≤(60:Int)
  ·
   rw[if_pos hk4] at e2;obtain⟨b5,hx6,e2⟩:=bnd e2;refine DT hk4 (q1C G G) G (MV G G (SG (q01 G) G G G (q05 H (Y49 hx6) G ⟨gM,gT,(⟨⟨G,G⟩,(fun _ _ h=>FnV.of (Y4s h) (fun _ _=>trivial))⟩:FnT90 _ _ _)⟩ (q04 G G G) G ?_)));intro v8 M w H hle hR;replace gM:=gM.mono hle;replace gT:=gT.mono hle;obtain rfl:=hR;refine PT G G G (AS G G (NL ?_));exact MN ⟨_,_,G,H,gM,gT,e2⟩
  rw[if_neg hk4] at e2;refine DF hk4 (q1C G G) G (MV G G (GF G G G (GF G G G (PF G G G (AS G G (NL ?_))))));exact MN ⟨_,_,G,H,gM,gT,e2⟩
 rintro e w ⟨b3,M,rfl,H,gM,gT,q7⟩;obtain rfl:=oI q7;refine TN (RT ?_);obtain rfl:=oI h;exact q07 G G H.ext G
theorem Y0L  {r:(Int × Int)} (h:Y0T=some r):Ct Tryz.prog 33 [] (fun M=>True) (fun v M=>v=Value.agg #[I r.1,I r.2]):=by
 refine Ct.of Tryz.func33 (enters Tryz.func33 Kr G) G G G ?_;intro w0 M0 H hp;unfold Y0T at h;refine SQ (RG (q0j [_,_] H Tz27 G (q00 G) G ?_));intro bk0 w H;refine NL (TN (SQ (RG (ST (q0N [I 0,I 0] Tu27 Tz27 (xplaces27 Tu27) G G) G (q0c [_,_] H G G G Ku Ts27 G Kf Kf (q00 G) ?_)))));intro w H;refine NL (TN (RT ?_));obtain rfl:=oI h;exact q07 G ⟨_,G,H.loadAgg Km Ta27 Ts27 Kf⟩ H.ext G
theorem Y1s {p0:(Ls × Ls × Ls)}{r:(Int × Int)}(h:Y1L p0=some r):Ct Tryz.prog 10 [Value.agg #[S p0.1,S p0.2.1,S p0.2.2]] (fun M=>GlF (fun w =>∃m,w.cell? ⟨2,0,none⟩=some (.int .i64 m)) M∧Tabs M) (fun v M=>v=Value.agg #[I r.1,I r.2]):=by
 refine Ct.of Tryz.func10 (enters Tryz.func10 Kr G) G G G ?_;intro w0 M0 H hp;obtain⟨gM,gT⟩:=hp;unfold Y1L at h;refine SQ (RG (q1z [_,_,_] H G G (q00 G) G ?_));intro bk1 w H;refine q0j [_,_] H Tz27 G (q00 G) G ?_;intro bk2 w H;refine NL (TN (SQ (SQ ?_)));obtain⟨n1,hx2,h⟩:=bnd h;refine RG (ST (q03 Tu24 G Ts9 Dc G) G (ST (XL H Ta9) G ?_));refine q05 H (Y3M hx2) G (gT) (q00 G) G ?_;intro v6 M w H hle hR;replace gM:=gM.mono hle;replace gT:=gT.mono hle;obtain rfl:=hR;refine AS G G (NL (TN (SQ (RG (MV G G (ST (q1p G G) G (NL (TN ?_))))))));refine q0k G (fun hk3=>?_) (fun hk3=>?_)
 ·
  replace hk3 :¬(n1=(0:Int)):=of_not_decide hk3;rw[if_neg hk3] at h;refine SQ ?_;obtain⟨⟨n4,n5⟩,hx6,h⟩:=bnd h;try dsimp only at h
  refine RG (MV G G (q05 H (Y07 hx6) G trivial (q00 G) G ?_));intro v10 M w H hle hR;try dsimp only at hR
  obtain rfl:=hR;refine q0c [_,_] H G G G Ku Ts27 G Kf Kf (q00 G) ?_;intro w H;refine NL (TN (RT ?_));obtain rfl:=oI h;exact q07 G ⟨_,G,H.loadAgg Km Ta27 Ts27 Kf⟩ H.ext G
 replace hk3:n1=(0:Int):=of_not_decide' hk3;rw[if_pos hk3] at h;refine SK (TN (SQ (SQ ?_)));obtain⟨b7,hx8,h⟩:=bnd h;refine RG (ST (q03 Tu24 G Ts9 Dc G) G (ST (XL H Ta9) G ?_));refine q05 H (Y2Z hx8) G trivial (q00 G) G ?_;intro v13 M w H hle hR;replace gM:=gM.mono hle;replace gT:=gT.mono hle;obtain rfl:=hR;refine ST (q0L G) G (NL (TN ?_));refine q0k G (fun hk9=>?_) (fun hk9=>?_)
 ·
  replace hk9:b7=false:=by simpa using hk9
  subst hk9;rw[if_neg l06] at h;refine SQ ?_;obtain⟨⟨n10,n11⟩,hx12,h⟩:=bnd h;try dsimp only at h
  refine RG (q05 H (Y07 hx12) G trivial (q00 G) G ?_);intro v15 M w H hle hR;try dsimp only at hR
  obtain rfl:=hR;refine q0c [_,_] H G G G Ku Ts27 G Kf Kf (q00 G) ?_;intro w H;refine NL (TN (RT ?_));obtain rfl:=oI h;exact q07 G ⟨_,G,H.loadAgg Km Ta27 Ts27 Kf⟩ H.ext G
 replace hk9:b7=true:=by simpa using hk9
 subst hk9;rw[if_pos rfl] at h;refine SK (TN (SQ (SQ ?_)));obtain⟨b13,hx14,h⟩:=bnd h;refine RG (ST (q03 Tu24 G Ts9 Dc G) G (ST (XL H Ta9) G ?_));refine q05 H (Y3Y hx14) G ⟨gM,gT⟩ (q00 G) G ?_;intro v18 M w H hle hR;obtain rfl:=hR;refine ST (q0L G) G (NL (TN ?_));refine q0k G (fun hk15=>?_) (fun hk15=>?_)
 ·
  replace hk15:b13=false:=by simpa using hk15
  subst hk15;rw[if_neg l06] at h;refine SQ ?_;obtain⟨⟨n16,n17⟩,hx18,h⟩:=bnd h;try dsimp only at h
  refine RG (q05 H (Y07 hx18) G trivial (q00 G) G ?_);intro v20 M w H hle hR;try dsimp only at hR
  obtain rfl:=hR;refine q0c [_,_] H G G G Ku Ts27 G Kf Kf (q00 G) ?_;intro w H;refine NL (TN (RT ?_));obtain rfl:=oI h;exact q07 G ⟨_,G,H.loadAgg Km Ta27 Ts27 Kf⟩ H.ext G
 replace hk15:b13=true:=by simpa using hk15
 subst hk15;rw[if_pos rfl] at h;refine SK (TN (SQ ?_));obtain⟨⟨n19,n20⟩,hx21,h⟩:=bnd h;try dsimp only at h
 refine RG (q05 H (Y0L hx21) G trivial (q00 G) G ?_);intro v21 M w H hle hR;try dsimp only at hR
 obtain rfl:=hR;refine q0c [_,_] H G G G Ku Ts27 G Kf Kf (q00 G) ?_;intro w H;refine NL (TN (RT ?_));obtain rfl:=oI h;exact q07 G ⟨_,G,H.loadAgg Km Ta27 Ts27 Kf⟩ H.ext G
theorem Y2t {p0:(Int × Int)}{r:Bool}(h:Y1z p0=some r):Ct Tryz.prog 38 [Value.agg #[I p0.1,I p0.2]] (fun M=>True) (fun v M=>v=Value.bool r):=by
 refine Ct.of Tryz.func38 (enters Tryz.func38 Kr G) G G G ?_;intro w0 M0 H hp;unfold Y1z at h;refine SQ (RG (q1z [_,_] H G G (q00 G) G ?_));intro bk1 w H;refine AS G G (NL (TN (SQ (RG (ST (q03 Tu27 G Ts3 Dc G) G (ST (XL H Ta3) G ?_))))));refine ST (q1p G G) G (AS G G (NL (TN (RT ?_))));obtain rfl:=oI h;exact q07 G G H.ext G
theorem Y4W {p0:(Ls × Bool × List (Ls × Ls × Ls))}{vp0_2:Value}{r:Int}(h:Y3s p0=some r):Ct Tryz.prog 37 [Value.agg #[S p0.1,Value.bool p0.2.1,vp0_2]] (fun M=>GlF (fun w =>∃m,w.cell? ⟨2,0,none⟩=some (.int .i64 m)) M∧Tabs M∧SlS M 3 xenc24 vp0_2 p0.2.2) (fun v M=>v=I r):=by
 refine Ct.of Tryz.func37 (enters Tryz.func37 Kr G) G G G ?_;intro w0 M0 H hp;obtain⟨gM,gT,hp0_2⟩:=hp;unfold Y3s at h;refine SQ (RG (q1z [_,_,_] H G G (q00 G) G ?_));intro bk1 w H;refine AS G G (NL (TN (SQ (SQ ?_))));obtain⟨n1,hx2,h⟩:=bnd h;refine RG (ST (q03 Tu34 G Ts9 Dc G) G (ST (XL H Ta9) G ?_));refine q05 H (Y3M hx2) G (gT) (q00 G) G ?_;intro v9 M w H hle hR;replace gM:=gM.mono hle;replace gT:=gT.mono hle;replace hp0_2:=hp0_2.mono hle;obtain rfl:=hR;refine AS G G (NL (TN (SQ (RG (MV G G (ST (q1p G G) G (NL (TN ?_))))))));refine q0k G (fun hk3=>?_) (fun hk3=>?_)
 ·
  replace hk3 :¬(n1=(0:Int)):=of_not_decide hk3;rw[if_neg hk3] at h;refine SQ (RG (MV G G (AS G G (NL (TN (RT ?_))))));obtain rfl:=oI h;exact q07 G G H.ext G
 replace hk3:n1=(0:Int):=of_not_decide' hk3;rw[if_pos hk3] at h;refine SK (TN (SQ (SQ ?_)));obtain⟨o4,e5,h⟩:=bnd h;refine q0h (fun e w =>∃(b6:Bool) (M:Mem),e=[(1,ptr bk1 0),(29,Value.bool b6)]∧St w0 M0 M [.blk bk1 (.cells #[S p0.1,Value.bool p0.2.1,vp0_2] 34)] w∧GlF (fun w =>∃m,w.cell? ⟨2,0,none⟩=some (.int .i64 m)) M∧Tabs M∧SlS M 3 xenc24 vp0_2 p0.2.2∧some b6=some o4) [] ?_ ?_ (trivial)
 ·
  by_cases hk7:p0.2.1=(!decide (p0.1=[]))
  ·
   rw[if_pos hk7] at e5;by_cases hk8:p0.2.1=true
   ·
    rw[if_pos hk8] at e5;refine RG (ST (q03 Tu34 G Ts4 Dc G) G (ST (XL H Ta4) G ?_));refine ST (q03 Tu34 G Ts9 Dc G) G (ST (XL H Ta9) G ?_);refine ST (q1q G G) G (q09 (v' := .bool false) (Ex.neqBo Tu4 G G) (congrArg Value.bool (by rw[decide_eq_true hk7];rfl)) (q00 G) G G ?_);refine MV G G (SG (q03 Tu34 G Ts4 Dc G) G G G (SG (XL H Ta4) G G G ?_));refine q09 (v' := .bool false) (q0L G) (congrArg Value.bool (by rw[hk8];rfl)) (q04 G G G) G G ?_;refine SG (q01 G) G G G (q0i 4 G G (SG (q0s G G) G G G (PF G G G (NL ?_))));exact MN ⟨_,_,G,H,gM,gT,hp0_2,e5⟩
   rw[if_neg hk8] at e5;refine RG (ST (q03 Tu34 G Ts4 Dc G) G (ST (XL H Ta4) G ?_));refine ST (q03 Tu34 G Ts9 Dc G) G (ST (XL H Ta9) G ?_);refine ST (q1q G G) G (q09 (v' := .bool false) (Ex.neqBo Tu4 G G) (congrArg Value.bool (by rw[decide_eq_true hk7];rfl)) (q00 G) G G ?_);refine MV G G (SG (q03 Tu34 G Ts4 Dc G) G G G (SG (XL H Ta4) G G G ?_));refine q09 (v' := .bool true) (q0L G) (congrArg Value.bool (by rw[(l1g hk8)];rfl)) (q04 G G G) G G ?_;refine SG (q01 G) G G G (SG (q03 Tu34 G Ts30 Dc G) G G G (SG (XL H Ta30) G G G ?_));refine SG (q1o Tu30 hp0_2 G) G G G (SG (q1p G G) G G G (SG (q0r G G) G G G (PF G G G (NL ?_))));exact MN ⟨_,_,G,H,gM,gT,hp0_2,e5⟩
  rw[if_neg hk7] at e5;refine RG (ST (q03 Tu34 G Ts4 Dc G) G (ST (XL H Ta4) G ?_));refine ST (q03 Tu34 G Ts9 Dc G) G (ST (XL H Ta9) G ?_);refine ST (q1q G G) G (q09 (v' := .bool true) (Ex.neqBo Tu4 G G) (congrArg Value.bool (by rw[decide_eq_false hk7];rfl)) (q00 G) G G ?_);refine MV G G (q0i 9 G G (PT G G G (NL ?_)));exact MN ⟨_,_,G,H,gM,gT,hp0_2,e5⟩
 rintro e w ⟨b6,M,rfl,H,gM,gT,hp0_2,q9⟩;obtain rfl:=oI q9;refine TN ?_;refine q0k G (fun hk10=>?_) (fun hk10=>?_)
 ·
  subst hk10;rw[if_pos rfl] at h;refine SQ (RG (AS G G (NL (TN (RT ?_)))));obtain rfl:=oI h;exact q07 G G H.ext G
 subst hk10;rw[if_neg l06] at h;refine SK (TN (SQ (SQ (RG (ST (q03 Tu34 G Ts30 Dc G) G (ST (XL H Ta30) G ?_))))));refine ST (q1o Tu30 hp0_2 G) G (MV G G (NL (TN ?_)));obtain⟨o11,e12,h⟩:=bnd h;refine q0h (fun e w =>∃  (M:Mem),e=[]∧St w0 M0 M [] w∧GlF (fun w =>∃m,w.cell? ⟨2,0,none⟩=some (.int .i64 m)) M∧Tabs M∧some (.inl ())=some o11) [] ?_ ?_ (trivial)
 ·
  refine BL ?_;refine q0A (fun m e w =>∃(n13:Int) (M:Mem),e=[(31,vp0_2),(32,I (p0.2.2.length:Int)),(33,I n13)]∧St w0 M0 M [] w∧GlF (fun w =>∃m,w.cell? ⟨2,0,none⟩=some (.int .i64 m)) M∧Tabs M∧SlS M 3 xenc24 vp0_2 p0.2.2∧Y1e p0 m n13=some o11) FU [(31,_),(32,_),(33,_)] ⟨rfl,rfl,rfl,trivial⟩ ⟨_,_,rfl,(H.pick (L':=[]) Kp),gM,gT,hp0_2,e12⟩ ?_;rintro m14 e w ⟨n13,M,rfl,H,gM,gT,hp0_2,e12⟩;rcases m14 with _|m14
  · rw[Y1e] at e12;cases e12
  rw[Y1e] at e12;refine SQ (RG (ST (q0n G G) G (NL (TN (SQ ?_)))));refine CB (p:=n13<(p0.2.2.length:Int)) G (fun hk15=>?_) fun hk15=>?_
  ·
   rw[if_pos hk15] at e12;refine SK (TN (SQ (BL (SQ ?_))));obtain⟨a16,hxa16,e12⟩:=bnd e12;obtain⟨bk35,o35,ha35,hc35⟩:=hp0_2.atC hxa16;refine RG (ST (q0u ha35 Tu30 Ts24 G G) G (ST (q1i H G hc35 Ta24 Ts24 Kf) G ?_));refine q0j [_,_,_] H Tz24 G (q00 G) G ?_;intro bk5 w H;refine q0c [_,_,_] H G G G Ku Ts24 G Kf Kf (q00 G) ?_;intro w H;refine NL (TN (SQ ?_));obtain⟨⟨n17,n18⟩,hx19,e12⟩:=bnd e12;try dsimp only at e12
   refine RG (ST (q0w H G Km Ta24 Ts24 Kf) G ?_);refine q05 H (Y1s hx19) G ⟨gM,gT⟩ (q00 G) G ?_;intro v38 M w H hle hR;replace gM:=gM.mono hle;replace gT:=gT.mono hle;replace hp0_2:=hp0_2.mono hle;try dsimp only at hR
   obtain rfl:=hR;refine q0j [_,_] H Tz27 G (q00 G) G ?_;intro bk6 w H;refine q0c [_,_] H G G G Ku Ts27 G Kf Kf (q00 G) ?_;intro w H;refine NL (TN (SQ ?_));obtain⟨b20,hx21,e12⟩:=bnd e12;refine RG (ST (q0w H G Km Ta27 Ts27 Kf) G ?_);refine q05 H (Y2t hx21) G trivial (q00 G) G ?_;intro v40 M w H hle hR;replace gM:=gM.mono hle;replace gT:=gT.mono hle;replace hp0_2:=hp0_2.mono hle;obtain rfl:=hR;refine NL (TN ?_);refine q0k G (fun hk22=>?_) (fun hk22=>?_)
   ·
    subst hk22;rw[if_pos rfl] at e12;refine SQ (RG (ST (q03 Tu27 G Ts3 Dc G) G (ST (XL H Ta3) G ?_)));refine AS G G (NL (TN (RT ?_)));obtain rfl:=oI e12;try dsimp only at h
    obtain rfl:=oI h;exact q07 G G H.ext G
   subst hk22;rw[if_neg l06] at e12;refine SK (IB (TN ?_));obtain⟨n23,hxn23,e12⟩:=bnd e12;refine RG (ST (q0p G G hxn23) G (MV G G (NL ?_)));exact AG m14 ⟨_,_,G,(H.pick (L':=[]) Kp),gM,gT,hp0_2,e12⟩ (l0b _)
  rw[if_neg hk15] at e12;refine q0m (q06 (q06 (q0d ?_)));exact MN ⟨_,G,H,gM,gT,e12⟩
 rintro e w ⟨M,rfl,H,gM,gT,q24⟩;obtain rfl:=oI q24;try dsimp only at h
 refine TN (SQ (RG (AS G G (NL (TN (RT ?_))))));obtain rfl:=oI h;exact q07 G G H.ext G
end Go.Proofs.YtkmjdamkifbddaaGreatDoor
end
