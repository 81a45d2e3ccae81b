/-
  Rdc, Ren, B64Plain, Ref, Dec, Grp, Lp, Wpf, Wpg, Ppf, Pct1: own texts of this repository (wip/tpl, wip/plans), merged and shaken by wip/tools/pack.py.
-/
import Derived.KernelRfl
import Derived.Test.YtkmjdamkifbddaaGreatDoorProg
import Derived.Test.YtkmjdamkifbddaaGreatDoorE6b
set_option maxRecDepth 100000
set_option linter.unusedVariables false
set_option linter.unusedSimpArgs false
section
namespace Go.Proofs.YtkmjdamkifbddaaGreatDoor
open Go Go.RowKit Go.Ph
open Go.Ph.Gr Go.Ph.Utf Go.Ph.Chs
theorem Y5n (n:Int):utf8 (fix0 n)=utf8 n:=by
 unfold utf8 fix0;split
 · rw[fixN_bad (n:=n) Om];rfl
 rfl
theorem Y2E {u:Int}(h:0≤u)(h1:u<65536):utf8 (unsur u)=utf8 u:=by
 unfold utf8 unsur;split
 · rw[fixN_bad (n:=u) Om];rfl
 rfl
theorem flat_len (ns:List Int):(ns.flatMap utf8).length≤4*ns.length:=by
 induction ns with
 | nil=>simp
 | cons n ns ih =>
   have:=Y2i n;rw[l0u,l00,l02];omega
theorem decoded_0 (v:Value)(l:Ls)(hs:l.length≤1048576):Ct Tryz.prog 160 [I 0,v] (fun M=>Bs M v l) (fun r _=>r=S (decoded 0 l)):=by
 refine Ct.of Tf160 (enters Tf160 Kr G) G G G ?_;intro w0 M0 H hp;refine SQ (RG (AS rfl rfl (NL (TN (SQ (RG (AS rfl rfl (NL (TN (SQ (SQ (RG (MV rfl rfl (NL (TN (BL (SQ (SQ (RG (q1G (q0e rfl rfl) rfl (q00 rfl) rfl rfl (AS rfl rfl (NL (TN (CT rfl (SK (TN (CT rfl (SQ (RG (AS rfl rfl (NL (TN (BL (q1M (fun(q:Nat) (o:Ls)=>[(0,I 0),(1,v),(5,S o),(6,encN q)]) (fun(q:Nat) (o:Ls) w=>q≤l.length∧o=(decS 128 (l.take q)).flatMap utf8∧∃M,St w0 M0 M [] w∧Bs M v l) (fun(q:Nat) (o:Ls)=>l.length-q) (0) ([]) ⟨rfl,rfl,rfl,rfl,trivial⟩ (⟨by omega,rfl,M0,H,hp⟩) ?_))))))))))))))))))))))))))))))))));intro q o w;rintro⟨hq,ho,M,H,hp⟩;have hol:=flat_len (decS 128 (l.take q));rw[←ho] at hol;have hdl:(decS 128 (l.take q)).length=q:=by simp [decS];omega
 refine SQ (SQ (RG (MV G G (MV G G ?_))));first|refine q03 (q0M Tu88 (by assumption) rfl) (q00 rfl) rfl rfl ?_|refine q03 (q0K Tu88 H Km rfl) (q00 rfl) rfl rfl ?_|refine q03 (q0A Tu88 rfl) (q00 rfl) rfl rfl ?_
 refine q0a (q0q G G) (q00 G) G G (fun h6_3=>?_) (fun h6_3=>?_)
 · obtain⟨c,hc⟩ :∃c,l[q]? = some c:=⟨_,List.getElem?_eq_getElem Om⟩
   have hclt:=c.toNat_lt;have hdn:decS 128 (l.take (q+1))=decS 128 (l.take q)++[if 128≤(c.toNat:Int) then 65533 else(c.toNat:Int)]:=by
    obtain⟨e1,e2⟩:=List.getElem?_eq_some_iff.1 hc;rw[l0n e1,e2];simp [decS]
   have hul1:=Y2i 65533;have hul2:=Y2i (c.toNat:Int);refine NL (TN (CT G (SK (TN (SQ (BL (SQ (RG (MV G G (MV G G (q1m Tu88 Ts5 (by assumption) G G (hc) (q00 G) G ?_)))))))))));intro p25 hc25;first|refine q03 (q07 H rfl (by assumption) Ta5) (q00 rfl) rfl rfl ?_|refine q03 (XL H Ta5) (q00 rfl) rfl rfl ?_
   first|refine q03 (q1r Tu5 Tu3 rfl) (q00 rfl) rfl rfl ?_|refine q03 (q1L Tu5 Tu3 rfl Om) (q00 rfl) rfl rfl ?_
   refine AS G G (NL (TN (SQ (SQ (RG (MV G G (q1G (q0e G G) G (q00 G) G G (MV G G (SG (q01 G) G G G ?_)))))))));refine q0a (q0J G G) (q04 G G G) G G (fun h9_4=>?_) (fun h9_4=>?_)
   · refine PT G G G (NL (TN (CT G (RG (AS G G (NL (TN (RG (MV G G (MV G G (q05 H (Y1a _) G (trivial) (q00 G) G ?_)))))))))));intro v36 M w H hle hr36;replace hp:=hp.mono hle;replace hc25:=hc25.mono hle;obtain rfl:=hr36;refine ST (q1p G G (by first|omega|(simp only[l02,l03];omega)|(simp only[l00,l02,l03,l01,l04];omega))) G ?_;refine AS G G (NL (IB (TN (RG (MV G G (ST (q0g G G Om) G ?_))))));refine AS G G (NL ?_);refine q0V (q+1) (o++utf8 65533) ⟨G,G,G,G,trivial⟩ ?_ ?_
     · refine⟨by omega,?_,M,H,hp⟩;rw[hdn,l0W,←ho,if_pos Om];simp
     omega
   refine PT G G G (NL (TN (CF G (SK (TN (RG (MV G G (MV G G (q05 H (Y1a _) G (trivial) (q00 G) G ?_)))))))));intro v36 M w H hle hr36;replace hp:=hp.mono hle;replace hc25:=hc25.mono hle;obtain rfl:=hr36;refine ST (q1p G G (by first|omega|(simp only[l02,l03];omega)|(simp only[l00,l02,l03,l01,l04];omega))) G ?_;refine AS G G (NL (IB (TN (RG (MV G G (ST (q0g G G Om) G ?_))))));refine AS G G (NL ?_);refine q0V (q+1) (o++utf8 (c.toNat:Int)) ⟨G,G,G,G,trivial⟩ ?_ ?_
   · refine⟨by omega,?_,M,H,hp⟩;rw[hdn,l0W,←ho,if_neg Om];simp
   omega
 refine NL (TN (CF G (q0r (q06 (q06 (q0f (IB (TN (SQ (RG (MV G G (AS G G (NL (TN (RT ?_)))))))))))))));refine q08 G G H.ext ?_;exact by rw[ho,l0r Om];rfl
theorem decoded_1 (v:Value)(l:Ls)(hs:l.length≤1048576):Ct Tryz.prog 160 [I 1,v] (fun M=>Bs M v l) (fun r _=>r=S (decoded 1 l)):=by
 refine Ct.of Tf160 (enters Tf160 Kr G) G G G ?_;intro w0 M0 H hp;refine SQ (RG (AS rfl rfl (NL (TN (SQ (RG (AS rfl rfl (NL (TN (SQ (SQ (RG (MV rfl rfl (NL (TN (BL (SQ (SQ (RG (q0Z (q0e rfl rfl) Dc (q00 rfl) rfl rfl (AS rfl rfl (NL (TN (CF rfl (RG (q1G (q0e rfl rfl) rfl (q00 rfl) rfl rfl (AS rfl rfl (NL (TN (CT rfl (SQ (RG (AS rfl rfl (NL (TN (BL (q1M (fun(q:Nat) (o:Ls)=>[(0,I 1),(1,v),(5,S o),(6,encN q)]) (fun(q:Nat) (o:Ls) w=>q≤l.length∧o=(decS 256 (l.take q)).flatMap utf8∧∃M,St w0 M0 M [] w∧Bs M v l) (fun(q:Nat) (o:Ls)=>l.length-q) (0) ([]) ⟨rfl,rfl,rfl,rfl,trivial⟩ (⟨by omega,rfl,M0,H,hp⟩) ?_)))))))))))))))))))))))))))))))))))));intro q o w;rintro⟨hq,ho,M,H,hp⟩;have hol:=flat_len (decS 256 (l.take q));rw[←ho] at hol;have hdl:(decS 256 (l.take q)).length=q:=by simp [decS];omega
 refine SQ (SQ (RG (MV G G (MV G G ?_))));first|refine q03 (q0M Tu88 (by assumption) rfl) (q00 rfl) rfl rfl ?_|refine q03 (q0K Tu88 H Km rfl) (q00 rfl) rfl rfl ?_|refine q03 (q0A Tu88 rfl) (q00 rfl) rfl rfl ?_
 refine q0a (q0q G G) (q00 G) G G (fun h6_3=>?_) (fun h6_3=>?_)
 · obtain⟨c,hc⟩ :∃c,l[q]? = some c:=⟨_,List.getElem?_eq_getElem Om⟩
   have hclt:=c.toNat_lt;have hdn:decS 256 (l.take (q+1))=decS 256 (l.take q)++[if 256≤(c.toNat:Int) then 65533 else(c.toNat:Int)]:=by
    obtain⟨e1,e2⟩:=List.getElem?_eq_some_iff.1 hc;rw[l0n e1,e2];simp [decS]
   have hul1:=Y2i 65533;have hul2:=Y2i (c.toNat:Int);refine NL (TN (CT G (SK (TN (SQ (BL (SQ (RG (MV G G (MV G G (q1m Tu88 Ts5 (by assumption) G G (hc) (q00 G) G ?_)))))))))));intro p25 hc25;first|refine q03 (q07 H rfl (by assumption) Ta5) (q00 rfl) rfl rfl ?_|refine q03 (XL H Ta5) (q00 rfl) rfl rfl ?_
   first|refine q03 (q1r Tu5 Tu3 rfl) (q00 rfl) rfl rfl ?_|refine q03 (q1L Tu5 Tu3 rfl Om) (q00 rfl) rfl rfl ?_
   refine AS G G (NL (TN (SQ (SQ (RG (MV G G (q0Z (q0e G G) Dc (q00 G) G G (MV G G (GF G G G (GF G G G (PF G G G (NL (TN (CF G (SK (TN (RG (MV G G (MV G G (q05 H (Y1a _) G (trivial) (q00 G) G ?_))))))))))))))))))));intro v36 M w H hle hr36;replace hp:=hp.mono hle;replace hc25:=hc25.mono hle;obtain rfl:=hr36;refine ST (q1p G G (by first|omega|(simp only[l02,l03];omega)|(simp only[l00,l02,l03,l01,l04];omega))) G ?_;refine AS G G (NL (IB (TN (RG (MV G G (ST (q0g G G Om) G ?_))))));refine AS G G (NL ?_);refine q0V (q+1) (o++utf8 (c.toNat:Int)) ⟨G,G,G,G,trivial⟩ ?_ ?_
   · refine⟨by omega,?_,M,H,hp⟩;rw[hdn,l0W,←ho,if_neg Om];simp
   omega
 refine NL (TN (CF G (q0r (q06 (q06 (q0f (IB (TN (SQ (RG (MV G G (AS G G (NL (TN (RT ?_)))))))))))))));refine q08 G G H.ext ?_;exact by rw[ho,l0r Om];rfl
theorem decoded_2 (v:Value)(l:Ls)(hs:l.length≤1048576):Ct Tryz.prog 160 [I 2,v] (fun M=>Bs M v l) (fun r _=>r=S (decoded 2 l)):=by
 refine Ct.of Tf160 (enters Tf160 Kr G) G G G ?_;intro w0 M0 H hp;refine SQ (RG (AS G G (NL (TN (SQ (RG (AS G G (NL (TN (SQ (SQ (RG (MV G G (NL (TN (BL (SQ (SQ (RG (q0Z (q0e G G) Dc (q00 G) G G (AS G G (NL (TN (CF G (RG (q0Z (q0e G G) Dc (q00 G) G G (AS G G (NL (TN (CF G (SQ (RG (q1G (q0e G G) G (q00 G) G G (AS G G (NL (TN (CT G (SQ (RG (MV G G (ST (q2f Tu88 Tu5 Tu9 H (by assumption) G) G ?_)))))))))))))))))))))))))))))))))))))))));refine q05 H (runes_spec _ Om) G (trivial) (q00 G) G ?_;intro v42 M w H hle hr42;replace hp:=hp.mono hle;have hf42:=hr42;refine AS rfl rfl (NL (TN (SQ (RG (AS rfl rfl (NL (TN (BL (q1M (fun(k:Nat) (o:Ls)=>[(5,S o),(8,v42),(9,encN k)]) (fun(k:Nat) (o:Ls) w=>k≤(chars l).length∧o=(((chars l).take k).map (fun c=>fix0 c.1)).flatMap utf8∧∃M,St w0 M0 M [] w∧Sl M encI v42 ((chars l).map (·.1))) (fun(k:Nat) (o:Ls)=>(chars l).length-k) (0) ([]) ⟨rfl,rfl,rfl,trivial⟩ (⟨by omega,rfl,M,H,hf42⟩) ?_)))))))));intro k o w;rintro⟨hk,ho,M,H,hf42⟩;have hml:((chars l).map (·.1)).length=(chars l).length:=l0a _;have hol:=flat_len (((chars l).take k).map (fun c=>fix0 c.1));rw[←ho,l0a,l04] at hol;have hcl:=decU_len l;rw[decU,l0a] at hcl;refine SQ (SQ (RG (MV G G (MV G G ?_))));first|refine q03 (q0M Tu168 (by assumption) rfl) (q00 rfl) rfl rfl ?_|refine q03 (q0K Tu168 H Km rfl) (q00 rfl) rfl rfl ?_|refine q03 (q0A Tu168 rfl) (q00 rfl) rfl rfl ?_
 refine q0a (q0q G G) (q00 G) G G (fun h15_3=>?_) (fun h15_3=>?_)
 · obtain⟨c,hc⟩ :∃c,(chars l)[k]? = some c:=⟨_,List.getElem?_eq_getElem Om⟩
   have hx:((chars l).map (·.1))[k]? = some c.1:=by rw[List.getElem?_map,hc];rfl
   have hsn:(chars l).take (k+1)=(chars l).take k++[c]:=by
    have e:=List.getElem?_eq_some_iff.1 hc;rw[l0n e.1,e.2]
   have hul1:=Y2i c.1;refine NL (TN (CT G (SK (TN (SQ (BL (RG (MV G G (MV G G (MV G G (q1m Tu168 Ts3 (by assumption) G G (hx) (q00 G) G ?_)))))))))));intro p52 hc52;first|refine q03 (q07 H rfl (by assumption) Ta3) (q00 rfl) rfl rfl ?_|refine q03 (XL H Ta3) (q00 rfl) rfl rfl ?_
   refine q05 H (Y1a _) G (trivial) (q00 G) G ?_;intro v54 M w H hle hr54;replace hf42:=hf42.mono hle;replace hc52:=hc52.mono hle;obtain rfl:=hr54;refine ST (q1p G G (by first|omega|(simp only[l02,l03];omega)|(simp only[l00,l02,l03,l01,l04];omega))) G ?_;refine AS G G (NL (IB (TN (RG (MV G G (ST (q0g G G Om) G ?_))))));refine AS G G (NL ?_);refine q0V (k+1) (o++utf8 c.1) ⟨G,G,G,trivial⟩ ?_ ?_
   · refine⟨by omega,?_,M,H,hf42⟩;rw[hsn,l0R,l0W,←ho];simp [Y5n]
   omega
 refine NL (TN (CF G (q0r (q06 (q06 (q0f (IB (TN (SQ (RG (MV G G (AS G G (NL (TN (RT ?_)))))))))))))));refine q08 G G H.ext ?_;exact by rw[ho,l0r Om];rfl
set_option maxHeartbeats 2000000 in
theorem decoded_3 (v:Value) (l:Ls) (hs:l.length≤1048576):Ct Tryz.prog 160 [I 3,v] (fun M=>Bs M v l) (fun r _=>r=S (decoded 3 l)):=by
 refine Ct.of Tf160 (enters Tf160 Kr G) G G G ?_;intro w0 M0 H hp;refine SQ (RG (AS rfl rfl (NL (TN (SQ (RG (AS rfl rfl (NL (TN (SQ (SQ (RG (MV rfl rfl (NL (TN (BL (SQ (SQ (RG (q0Z (q0e rfl rfl) Dc (q00 rfl) rfl rfl (AS rfl rfl (NL (TN (CF rfl (RG (q0Z (q0e rfl rfl) Dc (q00 rfl) rfl rfl (AS rfl rfl (NL (TN (CF rfl (SQ (RG (q0Z (q0e rfl rfl) Dc (q00 rfl) rfl rfl (AS rfl rfl (NL (TN (CF rfl (SQ (RG (q1G (q0e rfl rfl) rfl (q00 rfl) rfl rfl (AS rfl rfl (NL (TN (CT rfl (SQ (RG (AS rfl rfl (NL (TN (BL (q1M (fun(q:Nat) (o:Ls)=>[(1,v),(5,S o),(10,encN q)]) (fun(q:Nat) (o:Ls) w=>q≤l.length∧o.length≤4*q∧(decW l).flatMap utf8=o++(decW (l.drop q)).flatMap utf8∧∃M,St w0 M0 M [] w∧Bs M v l) (fun(q:Nat) (o:Ls)=>l.length-q) (0) ([]) ⟨rfl,rfl,rfl,trivial⟩ (⟨by omega,by simp,rfl,M0,H,hp⟩) ?_)))))))))))))))))))))))))))))))))))))))))))))))))));intro q o w;rintro⟨hq,hol,hdec,M,H,hp⟩;refine SQ (SQ (RG (MV G G (MV G G ?_))));first|refine q03 (q0M Tu88 (by assumption) rfl) (q00 rfl) rfl rfl ?_|refine q03 (q0K Tu88 H Km rfl) (q00 rfl) rfl rfl ?_|refine q03 (q0A Tu88 rfl) (q00 rfl) rfl rfl ?_
 refine q0a (q0q G G) (q00 G) G G (fun h20_3=>?_) (fun h20_3=>?_)
 · obtain ⟨x,hx⟩ :∃c,l[q]? = some c:=⟨_,List.getElem?_eq_getElem Om⟩
   have hltx:=x.toNat_lt;have hulm:=Y2i (-1);refine NL (TN (CT G (SK (TN (SQ (BL (SQ (SQ (RG (MV G G (ST (q0g G G Om) G ?_)))))))))));refine MV G G ?_;first|refine q03 (q0M Tu88 (by assumption) rfl) (q00 rfl) rfl rfl ?_|refine q03 (q0K Tu88 H Km rfl) (q00 rfl) rfl rfl ?_|refine q03 (q0A Tu88 rfl) (q00 rfl) rfl rfl ?_
   refine q0a (q0e G G) (q00 G) G G (fun h22_4=>?_) (fun h22_4=>?_)
   · have hlast:l.drop q=[x]:=by
      obtain⟨e1,e2⟩:=List.getElem?_eq_some_iff.1 hx;rw[l09 e1,e2,l08 Om]
     have hr:(decW l).flatMap utf8=o++utf8 (-1):=by rw[hdec,hlast];simp [decW];decide
     refine NL (TN (CT G (SQ (RG (MV G G (q05 H (Y1a _) G (trivial) (q00 G) G ?_))))));intro v70 M w H hle hr70;replace hp:=hp.mono hle;obtain rfl:=hr70;refine ST (q1p G G (by first|omega|(simp only[l02,l03];omega)|(simp only[l00,l02,l03,l01,l04];omega))) G ?_;refine AS G G (NL (TN (RT ?_)));refine q08 G G H.ext ?_;exact by rw[←hr];rfl
   obtain⟨y,hy⟩ :∃c,l[q+1]? = some c:=⟨_,List.getElem?_eq_getElem Om⟩
   have hlty:=y.toNat_lt;have hd:l.drop q=x::y::l.drop (q+2):=by
    obtain⟨e1,e2⟩:=List.getElem?_eq_some_iff.1 hx;obtain⟨e3,e4⟩:=List.getElem?_eq_some_iff.1 hy;rw[l09 e1,e2,l09 e3,e4]
   have hul:=unit_lt x y;have hulu:=Y2i (unit x y);refine NL (TN (CF G (SK (TN (SQ (q0E (m:=14) G G H ?_))))));intro w H;refine TK 0 G (fun _=>q01 G) G (TK 1 G (fun _=>q01 G) G (q1V (i:=2) G Kr Kr Kr Tu88 Ts5 (by assumption) G G (hx) (q00 G) G ?_));intro p74 hc74;refine TK 6 G (fun _=>q01 G) G (TK 7 G (fun _=>q01 G) G (q0T (v':=encN (q+1)) (i:=8) G Kr Kr Kr (fun _=>q0g G G Om) G (q00 G) G G (fun _ _=>G) ?_));refine q1V (i:=9) G Kr Kr Kr Tu88 Ts5 (by assumption) G G (hy) (q00 G) G ?_;intro p81 hc81;refine q0G (i:=3) (j:=10) Kr G G ?_ ?_
   · first | refine q03 (q07 H rfl (by assumption) Ta5) (q00 rfl) rfl rfl ?_|refine q03 (XL H Ta5) (q00 rfl) rfl rfl ?_
     refine NA (TK 4 G (fun _=>q1r Tu5 Tu3 G) G (TK 5 G (fun _=>q1O G G Om) G ?_));refine ON 10 Kr G ?_;first|refine q03 (q07 H rfl (by assumption) Ta5) (q00 rfl) rfl rfl ?_|refine q03 (XL H Ta5) (q00 rfl) rfl rfl ?_
     refine NA (ON 11 Kr G ?_);first|refine q03 (q1r Tu5 Tu3 rfl) (q00 rfl) rfl rfl ?_|refine q03 (q1L Tu5 Tu3 rfl Om) (q00 rfl) rfl rfl ?_
     refine NA (ON 12 Kr G (q09 (v':=I (unit x y)) (q0g G G Om) (congrArg I (by unfold unit;rfl)) (q00 G) G G ?_));refine NA (ON 13 Kr G (AS G G (NA (q0h Kr (TN (SQ (SQ (RG (MV G G ?_)))))))));by_cases h25_1:(55296:Int)≤unit x y∧unit x y≤56319
     · refine q05 H (q0z (in_spec _ _ _) (R':=fun r _=>r = .bool true) (fun _ _ h=>h.trans (congrArg Value.bool (decide_eq_true h25_1)))) G (trivial) (q00 G) G ?_;intro v86 M w H hle hr86;replace hp:=hp.mono hle;replace hc74:=hc74.mono hle;replace hc81:=hc81.mono hle;obtain rfl:=hr86;refine MV G G (SG (q01 G) G G G (SG (q0g G G Om) G G G ?_));refine SG (q01 G) G G G ?_;first|refine q03 (q0M Tu88 (by assumption) rfl) (q04 rfl rfl rfl) rfl rfl ?_|refine q03 (q0K Tu88 H Km rfl) (q04 rfl rfl rfl) rfl rfl ?_|refine q03 (q0A Tu88 rfl) (q04 rfl rfl rfl) rfl rfl ?_
       refine q0a (q0q G G) (q04 G G G) G G (fun h25_7=>?_) (fun h25_7=>?_)
       · obtain⟨x2,hx2⟩ :∃c,l[q+2]? = some c:=⟨_,List.getElem?_eq_getElem Om⟩
         have hltx2:=x2.toNat_lt;obtain⟨y2,hy2⟩ :∃c,l[q+3]? = some c:=⟨_,List.getElem?_eq_getElem Om⟩
         have hlty2:=y2.toNat_lt;have hd2:l.drop (q+2)=x2::y2::l.drop (q+2+2):=by
          obtain⟨e1,e2⟩:=List.getElem?_eq_some_iff.1 hx2;obtain⟨e3,e4⟩:=List.getElem?_eq_some_iff.1 hy2;rw[l09 e1,e2,l09 e3,e4]
         have hul2:=unit_lt x2 y2;have hulp:=Y2i (65536+1024*(unit x y-55296)+unit x2 y2-56320);refine PT G G G (NL (TN (CT G (SQ (q0E (m:=15) G G H ?_)))));intro w H;refine TK 0 G (fun _=>q01 G) G (TK 1 G (fun _=>q01 G) G (q0T (v':=encN (q+2)) (i:=2) G Kr Kr Kr (fun _=>q0g G G Om) G (q00 G) G G (fun _ _=>G) ?_));refine q1V (i:=3) G Kr Kr Kr Tu88 Ts5 (by assumption) G G (hx2) (q00 G) G ?_;intro p97 hc97;refine TK 7 G (fun _=>q01 G) G (TK 8 G (fun _=>q01 G) G (q0T (v':=encN (q+3)) (i:=9) G Kr Kr Kr (fun _=>q0g G G Om) G (q00 G) G G (fun _ _=>G) ?_));refine q1V (i:=10) G Kr Kr Kr Tu88 Ts5 (by assumption) G G (hy2) (q00 G) G ?_;intro p104 hc104;refine q0G (i:=4) (j:=11) Kr G G ?_ ?_
         · first|refine q03 (q07 H rfl (by assumption) Ta5) (q00 rfl) rfl rfl ?_|refine q03 (XL H Ta5) (q00 rfl) rfl rfl ?_
           refine NA (TK 5 G (fun _=>q1r Tu5 Tu3 G) G (TK 6 G (fun _=>q1O G G Om) G ?_));refine ON 11 Kr G ?_;first|refine q03 (q07 H rfl (by assumption) Ta5) (q00 rfl) rfl rfl ?_|refine q03 (XL H Ta5) (q00 rfl) rfl rfl ?_
           refine NA (ON 12 Kr G ?_);first|refine q03 (q1r Tu5 Tu3 rfl) (q00 rfl) rfl rfl ?_|refine q03 (q1L Tu5 Tu3 rfl Om) (q00 rfl) rfl rfl ?_
           refine NA (ON 13 Kr G (q09 (v':=I (unit x2 y2)) (q0g G G Om) (congrArg I (by unfold unit;rfl)) (q00 G) G G ?_));refine NA (ON 14 Kr G (AS G G (NA (q0h Kr (TN (SQ (RG (MV G G ?_))))))));by_cases h27_1:(56320:Int)≤unit x2 y2∧unit x2 y2≤57343
           · refine q05 H (q0z (in_spec _ _ _) (R':=fun r _=>r = .bool true) (fun _ _ h=>h.trans (congrArg Value.bool (decide_eq_true h27_1)))) G (trivial) (q00 G) G ?_;intro v109 M w H hle hr109;replace hp:=hp.mono hle;replace hc74:=hc74.mono hle;replace hc81:=hc81.mono hle;replace hc97:=hc97.mono hle;replace hc104:=hc104.mono hle;obtain rfl:=hr109;refine NL (TN (CT G (SQ (RG (MV G G (MV G G (ST (q1o G G Om) G ?_)))))));refine ST (q1O G G Om) G ?_;refine ST (q0g G G Om) G ?_;refine MV G G (ST (q0g G G Om) G ?_);refine ST (q1o G G Om) G ?_;refine q05 H (Y1a _) G (trivial) (q00 G) G ?_;intro v118 M w H hle hr118;replace hp:=hp.mono hle;replace hc74:=hc74.mono hle;replace hc81:=hc81.mono hle;replace hc97:=hc97.mono hle;replace hc104:=hc104.mono hle;obtain rfl:=hr118;refine ST (q1p G G (by first|omega|(simp only[l02,l03];omega)|(simp only[l00,l02,l03,l01,l04];omega))) G ?_;refine AS G G (NL (TN (SQ (RG (MV G G (q09 (v':=encN (q+2)) (q0g G G Om) G (q00 G) G G ?_))))));refine AS G G (NL (TN (q0r (q06 (q0f (TN (RG (MV G G (q09 (v':=encN (q+2+2)) (q0g G G Om) G (q00 G) G G ?_)))))))));refine AS G G (NL ?_);refine q0V (q+2+2) (o++utf8 (65536+1024*(unit x y-55296)+unit x2 y2-56320)) ⟨G,G,G,trivial⟩ ?_ ?_
             · refine⟨by omega,by rw[l00];omega,?_,M,H,hp⟩;rw[hdec,hd,hd2,decW_pair Om Om];simp
             omega
           have hone:decW (x::y::l.drop (q+2))=unsur (unit x y)::decW (l.drop (q+2)):=decW_one (by
            rintro⟨_,c',d',r',hr,h3,h4⟩;rw[hd2] at hr;cases hr;exact h27_1 Om)
           refine q05 H (q0z (in_spec _ _ _) (R':=fun r _=>r = .bool false) (fun _ _ h=>h.trans (congrArg Value.bool (decide_eq_false h27_1)))) G (trivial) (q00 G) G ?_;intro v109 M w H hle hr109;replace hp:=hp.mono hle;replace hc74:=hc74.mono hle;replace hc81:=hc81.mono hle;replace hc97:=hc97.mono hle;replace hc104:=hc104.mono hle;obtain rfl:=hr109;refine NL (TN (CF G (SK (TN (RG (MV G G (MV G G (q05 H (Y1a _) G (trivial) (q00 G) G ?_))))))));intro v124 M w H hle hr124;replace hp:=hp.mono hle;replace hc74:=hc74.mono hle;replace hc81:=hc81.mono hle;replace hc97:=hc97.mono hle;replace hc104:=hc104.mono hle;obtain rfl:=hr124;refine ST (q1p G G (by first|omega|(simp only[l02,l03];omega)|(simp only[l00,l02,l03,l01,l04];omega))) G ?_;refine AS G G (NL (IB (TN (RG (MV G G (q09 (v':=encN (q+2)) (q0g G G Om) G (q00 G) G G ?_))))));refine AS G G (NL ?_);refine q0V (q+2) (o++utf8 (unit x y)) ⟨G,G,G,trivial⟩ ?_ ?_
           · refine⟨by omega,by rw[l00];omega,?_,M,H,hp⟩;rw[hdec,hd,hone];simp [Y2E hul.1 hul.2]
           omega
         first|refine q03 (q07 H rfl (by assumption) Ta5) (q00 rfl) rfl rfl ?_|refine q03 (XL H Ta5) (q00 rfl) rfl rfl ?_
         refine NA (TK 12 G (fun _=>q1r Tu5 Tu3 G) G (ON 4 Kr G ?_));first|refine q03 (q07 H rfl (by assumption) Ta5) (q00 rfl) rfl rfl ?_|refine q03 (XL H Ta5) (q00 rfl) rfl rfl ?_
         refine NA (ON 5 Kr G ?_);first|refine q03 (q1r Tu5 Tu3 rfl) (q00 rfl) rfl rfl ?_|refine q03 (q1L Tu5 Tu3 rfl Om) (q00 rfl) rfl rfl ?_
         refine NA (ON 6 Kr G (ST (q1O G G Om) G ?_));refine NA (ON 13 Kr G (q09 (v':=I (unit x2 y2)) (q0g G G Om) (congrArg I (by unfold unit;rfl)) (q00 G) G G ?_));refine NA (ON 14 Kr G (AS G G (NA (q0h Kr (TN (SQ (RG (MV G G ?_))))))));by_cases h27_1:(56320:Int)≤unit x2 y2∧unit x2 y2≤57343
         · refine q05 H (q0z (in_spec _ _ _) (R':=fun r _=>r = .bool true) (fun _ _ h=>h.trans (congrArg Value.bool (decide_eq_true h27_1)))) G (trivial) (q00 G) G ?_;intro v109 M w H hle hr109;replace hp:=hp.mono hle;replace hc74:=hc74.mono hle;replace hc81:=hc81.mono hle;replace hc97:=hc97.mono hle;replace hc104:=hc104.mono hle;obtain rfl:=hr109;refine NL (TN (CT G (SQ (RG (MV G G (MV G G (ST (q1o G G Om) G ?_)))))));refine ST (q1O G G Om) G ?_;refine ST (q0g G G Om) G ?_;refine MV G G (ST (q0g G G Om) G ?_);refine ST (q1o G G Om) G ?_;refine q05 H (Y1a _) G (trivial) (q00 G) G ?_;intro v118 M w H hle hr118;replace hp:=hp.mono hle;replace hc74:=hc74.mono hle;replace hc81:=hc81.mono hle;replace hc97:=hc97.mono hle;replace hc104:=hc104.mono hle;obtain rfl:=hr118;refine ST (q1p G G (by first|omega|(simp only[l02,l03];omega)|(simp only[l00,l02,l03,l01,l04];omega))) G ?_;refine AS G G (NL (TN (SQ (RG (MV G G (q09 (v':=encN (q+2)) (q0g G G Om) G (q00 G) G G ?_))))));refine AS G G (NL (TN (q0r (q06 (q0f (TN (RG (MV G G (q09 (v':=encN (q+2+2)) (q0g G G Om) G (q00 G) G G ?_)))))))));refine AS G G (NL ?_);refine q0V (q+2+2) (o++utf8 (65536+1024*(unit x y-55296)+unit x2 y2-56320)) ⟨G,G,G,trivial⟩ ?_ ?_
           · refine⟨by omega,by rw[l00];omega,?_,M,H,hp⟩;rw[hdec,hd,hd2,decW_pair Om Om];simp
           omega
         have hone:decW (x::y::l.drop (q+2))=unsur (unit x y)::decW (l.drop (q+2)):=decW_one (by
          rintro⟨_,c',d',r',hr,h3,h4⟩;rw[hd2] at hr;cases hr;exact h27_1 Om)
         refine q05 H (q0z (in_spec _ _ _) (R':=fun r _=>r = .bool false) (fun _ _ h=>h.trans (congrArg Value.bool (decide_eq_false h27_1)))) G (trivial) (q00 G) G ?_;intro v109 M w H hle hr109;replace hp:=hp.mono hle;replace hc74:=hc74.mono hle;replace hc81:=hc81.mono hle;replace hc97:=hc97.mono hle;replace hc104:=hc104.mono hle;obtain rfl:=hr109;refine NL (TN (CF G (SK (TN (RG (MV G G (MV G G (q05 H (Y1a _) G (trivial) (q00 G) G ?_))))))));intro v124 M w H hle hr124;replace hp:=hp.mono hle;replace hc74:=hc74.mono hle;replace hc81:=hc81.mono hle;replace hc97:=hc97.mono hle;replace hc104:=hc104.mono hle;obtain rfl:=hr124;refine ST (q1p G G (by first|omega|(simp only[l02,l03];omega)|(simp only[l00,l02,l03,l01,l04];omega))) G ?_;refine AS G G (NL (IB (TN (RG (MV G G (q09 (v':=encN (q+2)) (q0g G G Om) G (q00 G) G G ?_))))));refine AS G G (NL ?_);refine q0V (q+2) (o++utf8 (unit x y)) ⟨G,G,G,trivial⟩ ?_ ?_
         · refine⟨by omega,by rw[l00];omega,?_,M,H,hp⟩;rw[hdec,hd,hone];simp [Y2E hul.1 hul.2]
         omega
       have hone:decW (x::y::l.drop (q+2))=unsur (unit x y)::decW (l.drop (q+2)):=decW_one (by
        rintro⟨_,c',d',r',hr,_⟩;have:=congrArg List.length hr;rw[l01] at this;simp at this;omega)
       refine PT G G G (NL (TN (CF G (SK (TN (RG (MV G G (MV G G (q05 H (Y1a _) G (trivial) (q00 G) G ?_)))))))));intro v124 M w H hle hr124;replace hp:=hp.mono hle;replace hc74:=hc74.mono hle;replace hc81:=hc81.mono hle;obtain rfl:=hr124;refine ST (q1p G G (by first|omega|(simp only[l02,l03];omega)|(simp only[l00,l02,l03,l01,l04];omega))) G ?_;refine AS G G (NL (IB (TN (RG (MV G G (q09 (v':=encN (q+2)) (q0g G G Om) G (q00 G) G G ?_))))));refine AS G G (NL ?_);refine q0V (q+2) (o++utf8 (unit x y)) ⟨G,G,G,trivial⟩ ?_ ?_
       · refine⟨by omega,by rw[l00];omega,?_,M,H,hp⟩;rw[hdec,hd,hone];simp [Y2E hul.1 hul.2]
       omega
     have hone:decW (x::y::l.drop (q+2))=unsur (unit x y)::decW (l.drop (q+2)):=decW_one (fun h=>h25_1 Om);refine q05 H (q0z (in_spec _ _ _) (R':=fun r _=>r = .bool false) (fun _ _ h=>h.trans (congrArg Value.bool (decide_eq_false h25_1)))) G (trivial) (q00 G) G ?_;intro v86 M w H hle hr86;replace hp:=hp.mono hle;replace hc74:=hc74.mono hle;replace hc81:=hc81.mono hle;obtain rfl:=hr86;refine MV G G (GF G G G (GF G G G (GF G G G (GF G G G (GF G G G (PF G G G (NL (TN (CF G (SK (TN (RG (MV G G (MV G G (q05 H (Y1a _) G (trivial) (q00 G) G ?_)))))))))))))));intro v124 M w H hle hr124;replace hp:=hp.mono hle;replace hc74:=hc74.mono hle;replace hc81:=hc81.mono hle;obtain rfl:=hr124;refine ST (q1p G G (by first|omega|(simp only[l02,l03];omega)|(simp only[l00,l02,l03,l01,l04];omega))) G ?_;refine AS G G (NL (IB (TN (RG (MV G G (q09 (v':=encN (q+2)) (q0g G G Om) G (q00 G) G G ?_))))));refine AS G G (NL ?_);refine q0V (q+2) (o++utf8 (unit x y)) ⟨G,G,G,trivial⟩ ?_ ?_
     · refine⟨by omega,by rw[l00];omega,?_,M,H,hp⟩;rw[hdec,hd,hone];simp [Y2E hul.1 hul.2]
     omega
   first|refine q03 (q07 H rfl (by assumption) Ta5) (q00 rfl) rfl rfl ?_|refine q03 (XL H Ta5) (q00 rfl) rfl rfl ?_
   refine NA (TK 11 G (fun _=>q1r Tu5 Tu3 G) G (ON 3 Kr G ?_));first|refine q03 (q07 H rfl (by assumption) Ta5) (q00 rfl) rfl rfl ?_|refine q03 (XL H Ta5) (q00 rfl) rfl rfl ?_
   refine NA (ON 4 Kr G ?_);first|refine q03 (q1r Tu5 Tu3 rfl) (q00 rfl) rfl rfl ?_|refine q03 (q1L Tu5 Tu3 rfl Om) (q00 rfl) rfl rfl ?_
   refine NA (ON 5 Kr G (ST (q1O G G Om) G ?_));refine NA (ON 12 Kr G (q09 (v':=I (unit x y)) (q0g G G Om) (congrArg I (by unfold unit;rfl)) (q00 G) G G ?_));refine NA (ON 13 Kr G (AS G G (NA (q0h Kr (TN (SQ (SQ (RG (MV G G ?_)))))))));by_cases h25_1:(55296:Int)≤unit x y∧unit x y≤56319
   · refine q05 H (q0z (in_spec _ _ _) (R':=fun r _=>r = .bool true) (fun _ _ h=>h.trans (congrArg Value.bool (decide_eq_true h25_1)))) G (trivial) (q00 G) G ?_;intro v86 M w H hle hr86;replace hp:=hp.mono hle;replace hc74:=hc74.mono hle;replace hc81:=hc81.mono hle;obtain rfl:=hr86;refine MV G G (SG (q01 G) G G G (SG (q0g G G Om) G G G ?_));refine SG (q01 G) G G G ?_;first|refine q03 (q0M Tu88 (by assumption) rfl) (q04 rfl rfl rfl) rfl rfl ?_|refine q03 (q0K Tu88 H Km rfl) (q04 rfl rfl rfl) rfl rfl ?_|refine q03 (q0A Tu88 rfl) (q04 rfl rfl rfl) rfl rfl ?_
     refine q0a (q0q G G) (q04 G G G) G G (fun h25_7=>?_) (fun h25_7=>?_)
     · obtain⟨x2,hx2⟩ :∃c,l[q+2]? = some c:=⟨_,List.getElem?_eq_getElem Om⟩
       have hltx2:=x2.toNat_lt;obtain⟨y2,hy2⟩ :∃c,l[q+3]? = some c:=⟨_,List.getElem?_eq_getElem Om⟩
       have hlty2:=y2.toNat_lt;have hd2:l.drop (q+2)=x2::y2::l.drop (q+2+2):=by
        obtain⟨e1,e2⟩:=List.getElem?_eq_some_iff.1 hx2;obtain⟨e3,e4⟩:=List.getElem?_eq_some_iff.1 hy2;rw[l09 e1,e2,l09 e3,e4]
       have hul2:=unit_lt x2 y2;have hulp:=Y2i (65536+1024*(unit x y-55296)+unit x2 y2-56320);refine PT G G G (NL (TN (CT G (SQ (q0E (m:=15) G G H ?_)))));intro w H;refine TK 0 G (fun _=>q01 G) G (TK 1 G (fun _=>q01 G) G (q0T (v':=encN (q+2)) (i:=2) G Kr Kr Kr (fun _=>q0g G G Om) G (q00 G) G G (fun _ _=>G) ?_));refine q1V (i:=3) G Kr Kr Kr Tu88 Ts5 (by assumption) G G (hx2) (q00 G) G ?_;intro p97 hc97;refine TK 7 G (fun _=>q01 G) G (TK 8 G (fun _=>q01 G) G (q0T (v':=encN (q+3)) (i:=9) G Kr Kr Kr (fun _=>q0g G G Om) G (q00 G) G G (fun _ _=>G) ?_));refine q1V (i:=10) G Kr Kr Kr Tu88 Ts5 (by assumption) G G (hy2) (q00 G) G ?_;intro p104 hc104;refine q0G (i:=4) (j:=11) Kr G G ?_ ?_
       · first|refine q03 (q07 H rfl (by assumption) Ta5) (q00 rfl) rfl rfl ?_|refine q03 (XL H Ta5) (q00 rfl) rfl rfl ?_
         refine NA (TK 5 G (fun _=>q1r Tu5 Tu3 G) G (TK 6 G (fun _=>q1O G G Om) G ?_));refine ON 11 Kr G ?_;first|refine q03 (q07 H rfl (by assumption) Ta5) (q00 rfl) rfl rfl ?_|refine q03 (XL H Ta5) (q00 rfl) rfl rfl ?_
         refine NA (ON 12 Kr G ?_);first|refine q03 (q1r Tu5 Tu3 rfl) (q00 rfl) rfl rfl ?_|refine q03 (q1L Tu5 Tu3 rfl Om) (q00 rfl) rfl rfl ?_
         refine NA (ON 13 Kr G (q09 (v':=I (unit x2 y2)) (q0g G G Om) (congrArg I (by unfold unit;rfl)) (q00 G) G G ?_));refine NA (ON 14 Kr G (AS G G (NA (q0h Kr (TN (SQ (RG (MV G G ?_))))))));by_cases h27_1:(56320:Int)≤unit x2 y2∧unit x2 y2≤57343
         · refine q05 H (q0z (in_spec _ _ _) (R':=fun r _=>r = .bool true) (fun _ _ h=>h.trans (congrArg Value.bool (decide_eq_true h27_1)))) G (trivial) (q00 G) G ?_;intro v109 M w H hle hr109;replace hp:=hp.mono hle;replace hc74:=hc74.mono hle;replace hc81:=hc81.mono hle;replace hc97:=hc97.mono hle;replace hc104:=hc104.mono hle;obtain rfl:=hr109;refine NL (TN (CT G (SQ (RG (MV G G (MV G G (ST (q1o G G Om) G ?_)))))));refine ST (q1O G G Om) G ?_;refine ST (q0g G G Om) G ?_;refine MV G G (ST (q0g G G Om) G ?_);refine ST (q1o G G Om) G ?_;refine q05 H (Y1a _) G (trivial) (q00 G) G ?_;intro v118 M w H hle hr118;replace hp:=hp.mono hle;replace hc74:=hc74.mono hle;replace hc81:=hc81.mono hle;replace hc97:=hc97.mono hle;replace hc104:=hc104.mono hle;obtain rfl:=hr118;refine ST (q1p G G (by first|omega|(simp only[l02,l03];omega)|(simp only[l00,l02,l03,l01,l04];omega))) G ?_;refine AS G G (NL (TN (SQ (RG (MV G G (q09 (v':=encN (q+2)) (q0g G G Om) G (q00 G) G G ?_))))));refine AS G G (NL (TN (q0r (q06 (q0f (TN (RG (MV G G (q09 (v':=encN (q+2+2)) (q0g G G Om) G (q00 G) G G ?_)))))))));refine AS G G (NL ?_);refine q0V (q+2+2) (o++utf8 (65536+1024*(unit x y-55296)+unit x2 y2-56320)) ⟨G,G,G,trivial⟩ ?_ ?_
           · refine⟨by omega,by rw[l00];omega,?_,M,H,hp⟩;rw[hdec,hd,hd2,decW_pair Om Om];simp
           omega
         have hone:decW (x::y::l.drop (q+2))=unsur (unit x y)::decW (l.drop (q+2)):=decW_one (by
          rintro⟨_,c',d',r',hr,h3,h4⟩;rw[hd2] at hr;cases hr;exact h27_1 Om)
         refine q05 H (q0z (in_spec _ _ _) (R':=fun r _=>r = .bool false) (fun _ _ h=>h.trans (congrArg Value.bool (decide_eq_false h27_1)))) G (trivial) (q00 G) G ?_;intro v109 M w H hle hr109;replace hp:=hp.mono hle;replace hc74:=hc74.mono hle;replace hc81:=hc81.mono hle;replace hc97:=hc97.mono hle;replace hc104:=hc104.mono hle;obtain rfl:=hr109;refine NL (TN (CF G (SK (TN (RG (MV G G (MV G G (q05 H (Y1a _) G (trivial) (q00 G) G ?_))))))));intro v124 M w H hle hr124;replace hp:=hp.mono hle;replace hc74:=hc74.mono hle;replace hc81:=hc81.mono hle;replace hc97:=hc97.mono hle;replace hc104:=hc104.mono hle;obtain rfl:=hr124;refine ST (q1p G G (by first|omega|(simp only[l02,l03];omega)|(simp only[l00,l02,l03,l01,l04];omega))) G ?_;refine AS G G (NL (IB (TN (RG (MV G G (q09 (v':=encN (q+2)) (q0g G G Om) G (q00 G) G G ?_))))));refine AS G G (NL ?_);refine q0V (q+2) (o++utf8 (unit x y)) ⟨G,G,G,trivial⟩ ?_ ?_
         · refine⟨by omega,by rw[l00];omega,?_,M,H,hp⟩;rw[hdec,hd,hone];simp [Y2E hul.1 hul.2]
         omega
       first|refine q03 (q07 H rfl (by assumption) Ta5) (q00 rfl) rfl rfl ?_|refine q03 (XL H Ta5) (q00 rfl) rfl rfl ?_
       refine NA (TK 12 G (fun _=>q1r Tu5 Tu3 G) G (ON 4 Kr G ?_));first|refine q03 (q07 H rfl (by assumption) Ta5) (q00 rfl) rfl rfl ?_|refine q03 (XL H Ta5) (q00 rfl) rfl rfl ?_
       refine NA (ON 5 Kr G ?_);first|refine q03 (q1r Tu5 Tu3 rfl) (q00 rfl) rfl rfl ?_|refine q03 (q1L Tu5 Tu3 rfl Om) (q00 rfl) rfl rfl ?_
       refine NA (ON 6 Kr G (ST (q1O G G Om) G ?_));refine NA (ON 13 Kr G (q09 (v':=I (unit x2 y2)) (q0g G G Om) (congrArg I (by unfold unit;rfl)) (q00 G) G G ?_));refine NA (ON 14 Kr G (AS G G (NA (q0h Kr (TN (SQ (RG (MV G G ?_))))))));by_cases h27_1:(56320:Int)≤unit x2 y2∧unit x2 y2≤57343
       · refine q05 H (q0z (in_spec _ _ _) (R':=fun r _=>r = .bool true) (fun _ _ h=>h.trans (congrArg Value.bool (decide_eq_true h27_1)))) G (trivial) (q00 G) G ?_;intro v109 M w H hle hr109;replace hp:=hp.mono hle;replace hc74:=hc74.mono hle;replace hc81:=hc81.mono hle;replace hc97:=hc97.mono hle;replace hc104:=hc104.mono hle;obtain rfl:=hr109;refine NL (TN (CT G (SQ (RG (MV G G (MV G G (ST (q1o G G Om) G ?_)))))));refine ST (q1O G G Om) G ?_;refine ST (q0g G G Om) G ?_;refine MV G G (ST (q0g G G Om) G ?_);refine ST (q1o G G Om) G ?_;refine q05 H (Y1a _) G (trivial) (q00 G) G ?_;intro v118 M w H hle hr118;replace hp:=hp.mono hle;replace hc74:=hc74.mono hle;replace hc81:=hc81.mono hle;replace hc97:=hc97.mono hle;replace hc104:=hc104.mono hle;obtain rfl:=hr118;refine ST (q1p G G (by first|omega|(simp only[l02,l03];omega)|(simp only[l00,l02,l03,l01,l04];omega))) G ?_;refine AS G G (NL (TN (SQ (RG (MV G G (q09 (v':=encN (q+2)) (q0g G G Om) G (q00 G) G G ?_))))));refine AS G G (NL (TN (q0r (q06 (q0f (TN (RG (MV G G (q09 (v':=encN (q+2+2)) (q0g G G Om) G (q00 G) G G ?_)))))))));refine AS G G (NL ?_);refine q0V (q+2+2) (o++utf8 (65536+1024*(unit x y-55296)+unit x2 y2-56320)) ⟨G,G,G,trivial⟩ ?_ ?_
         · refine⟨by omega,by rw[l00];omega,?_,M,H,hp⟩;rw[hdec,hd,hd2,decW_pair Om Om];simp
         omega
       have hone:decW (x::y::l.drop (q+2))=unsur (unit x y)::decW (l.drop (q+2)):=decW_one (by
        rintro⟨_,c',d',r',hr,h3,h4⟩;rw[hd2] at hr;cases hr;exact h27_1 Om)
       refine q05 H (q0z (in_spec _ _ _) (R':=fun r _=>r = .bool false) (fun _ _ h=>h.trans (congrArg Value.bool (decide_eq_false h27_1)))) G (trivial) (q00 G) G ?_;intro v109 M w H hle hr109;replace hp:=hp.mono hle;replace hc74:=hc74.mono hle;replace hc81:=hc81.mono hle;replace hc97:=hc97.mono hle;replace hc104:=hc104.mono hle;obtain rfl:=hr109;refine NL (TN (CF G (SK (TN (RG (MV G G (MV G G (q05 H (Y1a _) G (trivial) (q00 G) G ?_))))))));intro v124 M w H hle hr124;replace hp:=hp.mono hle;replace hc74:=hc74.mono hle;replace hc81:=hc81.mono hle;replace hc97:=hc97.mono hle;replace hc104:=hc104.mono hle;obtain rfl:=hr124;refine ST (q1p G G (by first|omega|(simp only[l02,l03];omega)|(simp only[l00,l02,l03,l01,l04];omega))) G ?_;refine AS G G (NL (IB (TN (RG (MV G G (q09 (v':=encN (q+2)) (q0g G G Om) G (q00 G) G G ?_))))));refine AS G G (NL ?_);refine q0V (q+2) (o++utf8 (unit x y)) ⟨G,G,G,trivial⟩ ?_ ?_
       · refine⟨by omega,by rw[l00];omega,?_,M,H,hp⟩;rw[hdec,hd,hone];simp [Y2E hul.1 hul.2]
       omega
     have hone:decW (x::y::l.drop (q+2))=unsur (unit x y)::decW (l.drop (q+2)):=decW_one (by
      rintro⟨_,c',d',r',hr,_⟩;have:=congrArg List.length hr;rw[l01] at this;simp at this;omega)
     refine PT G G G (NL (TN (CF G (SK (TN (RG (MV G G (MV G G (q05 H (Y1a _) G (trivial) (q00 G) G ?_)))))))));intro v124 M w H hle hr124;replace hp:=hp.mono hle;replace hc74:=hc74.mono hle;replace hc81:=hc81.mono hle;obtain rfl:=hr124;refine ST (q1p G G (by first|omega|(simp only[l02,l03];omega)|(simp only[l00,l02,l03,l01,l04];omega))) G ?_;refine AS G G (NL (IB (TN (RG (MV G G (q09 (v':=encN (q+2)) (q0g G G Om) G (q00 G) G G ?_))))));refine AS G G (NL ?_);refine q0V (q+2) (o++utf8 (unit x y)) ⟨G,G,G,trivial⟩ ?_ ?_
     · refine⟨by omega,by rw[l00];omega,?_,M,H,hp⟩;rw[hdec,hd,hone];simp [Y2E hul.1 hul.2]
     omega
   have hone:decW (x::y::l.drop (q+2))=unsur (unit x y)::decW (l.drop (q+2)):=decW_one (fun h=>h25_1 Om);refine q05 H (q0z (in_spec _ _ _) (R':=fun r _=>r = .bool false) (fun _ _ h=>h.trans (congrArg Value.bool (decide_eq_false h25_1)))) G (trivial) (q00 G) G ?_;intro v86 M w H hle hr86;replace hp:=hp.mono hle;replace hc74:=hc74.mono hle;replace hc81:=hc81.mono hle;obtain rfl:=hr86;refine MV G G (GF G G G (GF G G G (GF G G G (GF G G G (GF G G G (PF G G G (NL (TN (CF G (SK (TN (RG (MV G G (MV G G (q05 H (Y1a _) G (trivial) (q00 G) G ?_)))))))))))))));intro v124 M w H hle hr124;replace hp:=hp.mono hle;replace hc74:=hc74.mono hle;replace hc81:=hc81.mono hle;obtain rfl:=hr124;refine ST (q1p G G (by first|omega|(simp only[l02,l03];omega)|(simp only[l00,l02,l03,l01,l04];omega))) G ?_;refine AS G G (NL (IB (TN (RG (MV G G (q09 (v':=encN (q+2)) (q0g G G Om) G (q00 G) G G ?_))))));refine AS G G (NL ?_);refine q0V (q+2) (o++utf8 (unit x y)) ⟨G,G,G,trivial⟩ ?_ ?_
   · refine⟨by omega,by rw[l00];omega,?_,M,H,hp⟩;rw[hdec,hd,hone];simp [Y2E hul.1 hul.2]
   omega
 have hr:(decW l).flatMap utf8=o:=by rw[hdec,l08 Om];simp [decW]
 refine NL (TN (CF G (q0r (q06 (q06 (q0f (IB (TN (SQ (RG (MV G G (AS G G (NL (TN (RT ?_)))))))))))))));refine q08 G G H.ext ?_;exact by rw[←hr];rfl
theorem decoded_spec_k (v:Value)(l:Ls)(hs:l.length≤1048576)(k:Nat)(hk:k<4):Ct Tryz.prog 160 [I (k:Int),v] (fun M=>Bs M v l) (fun r _=>r=S (decoded k l)):=by
 rcases k with _|_|_|_|k
 · exact decoded_0 v l hs
 · exact decoded_1 v l hs
 · exact decoded_2 v l hs
 · exact decoded_3 v l hs
 omega
end Go.Proofs.YtkmjdamkifbddaaGreatDoor
end
section
namespace Go.Proofs.YtkmjdamkifbddaaGreatDoor
open Go Go.RowKit Go.Ph
open Go.Ph.Gr Go.Ph.Utf Go.Ph.Chs
end Go.Proofs.YtkmjdamkifbddaaGreatDoor
end
section
namespace Go.Ph.B64
def alpha : Ls:=[65,66,67,68,69,70,71,72,73,74,75,76,77,78,79,80,81,82,83,84,85,86,87,88,89,90,97,98,99,100,101,102,103,104,105,106,107,108,109,110,111,112,113,114,115,116,117,118,119,120,121,122,48,49,50,51,52,53,54,55,56,57,43,47]
theorem alpha_len : alpha.length=64:=rfl
def idx (c:UInt8):Nat:=alpha.idxOf c
def val64 (c:UInt8):Int:=if idx c<64 then(idx c:Int) else -1
theorem val64_at (c:UInt8)(k:Nat)(hk:k<alpha.length)(h:alpha[k]=c)(hb :∀j,(hj:j<alpha.length)→j<k→alpha[j]≠c):val64 c=(k:Int):=by
 have h1:idx c=k:=by
  unfold idx;rw[List.idxOf,List.findIdx_eq hk];refine⟨by simp [h],fun j hj=>?_⟩;have:=hb j Om hj;simpa using this
 rw[alpha_len] at hk;simp [val64,h1,hk]
theorem val64_none (c:UInt8)(hb :∀j,(hj:j<alpha.length)→j<64→alpha[j]≠c):val64 c = -1:=by
 have h:c∉alpha:=by
  intro hm;obtain⟨j,hj,e⟩:=l2A hm;exact hb j hj (by rw[alpha_len] at hj;omega) e
 have h1:idx c=64:=by
  unfold idx;rw[List.idxOf_eq_length h];rfl
 simp [val64,h1]
def bits8 (u:Nat):List Nat:=[u / 128 % 2,u / 64 % 2,u / 32 % 2,u / 16 % 2,u / 8 % 2,u / 4 % 2,u / 2 % 2,u / 1 % 2]
def bits6 (u:Nat):List Nat:=[u / 32 % 2,u / 16 % 2,u / 8 % 2,u / 4 % 2,u / 2 % 2,u / 1 % 2]
def bitsOf (l:Ls):List Nat:=l.flatMap fun u=>bits8 u.toNat
def sumN (l:List Nat):Nat:=l.foldl (fun n x=>2*n+x) 0
theorem bits8_len (u:Nat):(bits8 u).length=8:=rfl
theorem bits8_at (u j:Nat)(hj:j<8):(bits8 u)[j]'(by rw[bits8_len];exact hj)=u / 2 ^ (7-j) % 2:=by
 match j,hj with
 | 0,_=>rfl
 | 1,_=>rfl
 | 2,_=>rfl
 | 3,_=>rfl
 | 4,_=>rfl
 | 5,_=>rfl
 | 6,_=>rfl
 | 7,_=>rfl
theorem bits6_len (u:Nat):(bits6 u).length=6:=rfl
theorem bits6_at (u j:Nat)(hj:j<6):(bits6 u)[j]'(by rw[bits6_len];exact hj)=u / 2 ^ (5-j) % 2:=by
 match j,hj with
 | 0,_=>rfl
 | 1,_=>rfl
 | 2,_=>rfl
 | 3,_=>rfl
 | 4,_=>rfl
 | 5,_=>rfl
theorem bitsOf_len (l:Ls):(bitsOf l).length=8*l.length:=by
 induction l with
 | nil=>rfl
 | cons u l ih=>simp only[bitsOf,l0u,l00,bits8_len,l02] at ih ⊢;omega
theorem bitsOf_take (l:Ls)(k:Nat)(hk:k<l.length):bitsOf (l.take (k+1))=bitsOf (l.take k)++bits8 (l[k]).toNat:=by
 rw[l0n hk];unfold bitsOf;rw[l0W];simp only[l0u,l1E,l0k]
theorem sumN_snoc (l:List Nat)(x:Nat):sumN (l++[x])=2*sumN l+x:=by simp [sumN]
theorem sumN_acc (l:List Nat)(h :∀x∈l,x≤1):∀a,l.foldl (fun n x=>2*n+x) a<(a+1)*2 ^ l.length:=by
 induction l with
 | nil=>intro a;simp
 | cons x l ih =>
   intro a;have h1:=ih (fun y hy=>h y (by simp [hy])) (2*a+x);have h2:=h x Sm;rw[l0M,l02,Nat.pow_succ];refine l1j h1 ?_;rw[l1I (2 ^ l.length) 2,←Nat.mul_assoc];exact l1e _ Om
theorem sumN_lt (l:List Nat)(h :∀x∈l,x≤1):sumN l<2 ^ l.length:=by
 have:=sumN_acc l h 0;simpa [sumN] using this
theorem bitsOf_next {l:Ls}{k:Nat}{u:UInt8}(hu:l[k]? = some u):bitsOf (l.take (k+1))=bitsOf (l.take k)++bits8 u.toNat:=by
 obtain⟨hk,rfl⟩:=List.getElem?_eq_some_iff.1 hu;exact bitsOf_take l k hk
theorem bits8_next (u j:Nat)(hj:j<8):(bits8 u).take (j+1)=(bits8 u).take j++[u / 2 ^ (7-j) % 2]:=by
 rw[l0n (by rw[bits8_len];exact hj),bits8_at u j hj]
theorem bits6_next (u j:Nat)(hj:j<6):(bits6 u).take (j+1)=(bits6 u).take j++[u / 2 ^ (5-j) % 2]:=by
 rw[l0n (by rw[bits6_len];exact hj),bits6_at u j hj]
def padBits (l:Ls):List Nat:=bitsOf l++List.replicate ((6-8*l.length % 6) % 6) 0
theorem padBits_len (l:Ls):(padBits l).length=8*l.length+(6-8*l.length % 6) % 6:=by simp [padBits,bitsOf_len]
theorem bits8_le (u:Nat):∀x∈bits8 u,x≤1:=by
 intro x hx;simp only[bits8,l0T,l0G,or_false] at hx;omega
theorem bits6_le (u:Nat):∀x∈bits6 u,x≤1:=by
 intro x hx;simp only[bits6,l0T,l0G,or_false] at hx;omega
theorem bitsOf_le (l:Ls):∀x∈bitsOf l,x≤1:=by
 intro x hx;obtain⟨u,_,h⟩:=List.mem_flatMap.1 hx;exact bits8_le _ x h
theorem padBits_le (l:Ls):∀x∈padBits l,x≤1:=by
 intro x hx;rcases List.mem_append.1 hx with h|h
 · exact bitsOf_le l x h
 rw[(List.mem_replicate.1 h).2];omega
theorem part_le {l:List Nat}(h :∀x∈l,x≤1)(i j:Nat):∀x∈(l.take j).drop i,x≤1:=fun x hx=>h x (l1p (l2w hx))
def six (bits:List Nat)(q:Nat):Nat:=sumN ((bits.take (6*q+6)).drop (6*q))
def eight (bits:List Nat)(q:Nat):Nat:=sumN ((bits.take (8*q+8)).drop (8*q))
theorem six_lt {bits:List Nat}(h :∀x∈bits,x≤1)(q:Nat):six bits q<64:=by
 have h1:=sumN_lt _ (part_le h (6*q) (6*q+6));have h2:2 ^ ((bits.take (6*q+6)).drop (6*q)).length≤2 ^ 6:=l1f Dc (by simp only[l01,l04];omega);unfold six;omega
theorem eight_lt {bits:List Nat}(h :∀x∈bits,x≤1)(q:Nat):eight bits q<256:=by
 have h1:=sumN_lt _ (part_le h (8*q) (8*q+8));have h2:2 ^ ((bits.take (8*q+8)).drop (8*q)).length≤2 ^ 8:=l1f Dc (by simp only[l01,l04];omega);unfold eight;omega
def sext (bits:List Nat):Nat→Ls
 | 0=>[]
 | q+1=>sext bits q++(alpha.take (six bits q+1)).drop (six bits q)
theorem alpha_one (k:Nat)(h:k<64):(alpha.take (k+1)).drop k=[alpha.getD k 0]:=by
 have hk:k<alpha.length:=by rw[alpha_len];exact h
 rw[l0n hk,l0P (by rw[l04,alpha_len];omega),l08 (by rw[l04];omega)];simp [List.getD,hk]
theorem sext_len {bits:List Nat}(h :∀x∈bits,x≤1)(q:Nat):(sext bits q).length=q:=by
 induction q with
 | zero=>rfl
 | succ q ih=>rw[sext,l00,ih,alpha_one _ (six_lt h q)];rfl
def chars64 (l:Ls):Ls :=
 let s:=sext (padBits l) ((padBits l).length / 6)
 s++List.replicate ((4-s.length % 4) % 4) 61
def wrapTo (cs:Ls):Nat→Ls
 | 0=>[]
 | m+1=>wrapTo cs m++(cs.drop (76*m)).take 76++[13,10]
def lines64 (cs:Ls):Ls:=wrapTo cs ((cs.length-1) / 76)++(if cs.drop (76*((cs.length-1) / 76))=[] then [] else cs.drop (76*((cs.length-1) / 76))++[13,10])
def vb (c:UInt8):List Nat:=if val64 c<0 then [] else bits6 (val64 c).toNat
def vbits (l:Ls):List Nat:=l.flatMap vb
theorem vbits_next {l:Ls}{k:Nat}{u:UInt8}(hu:l[k]? = some u):vbits (l.take (k+1))=vbits (l.take k)++vb u:=by
 obtain⟨hk,rfl⟩:=List.getElem?_eq_some_iff.1 hu;rw[l0n hk];unfold vbits;rw[l0W];simp only[l0u,l1E,l0k]
theorem vb_done (u:UInt8)(j:Nat)(h:(6≤j∧0≤val64 u)∨(j=0∧val64 u<0)):(bits6 (val64 u).toNat).take j=vb u:=by
 unfold vb;rcases h with ⟨h1,h2⟩|⟨h1,h2⟩
 · rw[if_neg Om,l0r (by rw[bits6_len];omega)]
 rw[if_pos h2,h1];rfl
theorem vb_len (u:UInt8):(vb u).length≤6:=by unfold vb;split <;> simp [bits6]
theorem vbits_len (l:Ls):(vbits l).length≤6*l.length:=by
 induction l with
 | nil=>simp [vbits]
 | cons u l ih=>have:=vb_len u;simp only[vbits,l0u,l00,l02] at ih ⊢;omega
theorem vbits_le (l:Ls):∀x∈vbits l,x≤1:=by
 intro x hx;obtain⟨u,_,h⟩:=List.mem_flatMap.1 hx;unfold vb at h;split at h
 · cases h
 exact bits6_le _ x h
def upto61 (l:Ls):Ls:=l.takeWhile (· != 61)
theorem upto61_eq (l:Ls)(k:Nat)(hb :∀j u,l[j]? = some u→j<k→u≠61)(he:l.length≤k∨l[k]? = some 61):upto61 l=l.take k:=by
 induction l generalizing k with
 | nil=>simp [upto61]
 | cons u l ih =>
   cases k with
   | zero =>
     have:u=61:=by simpa using he
     subst this;rfl
   | succ k =>
     have h1:u≠61:=hb 0 u rfl Om;have h2:=ih k (fun j v hj hk=>hb (j+1) v (by simpa using hj) Om) (by simpa using he);unfold upto61 at h2 ⊢;rw[l0o (by simpa using h1),h2];rfl
def octs (bits:List Nat):Nat→Ls
 | 0=>[]
 | q+1=>octs bits q++[UInt8.ofNat (eight bits q)]
theorem octs_len (bits:List Nat)(q:Nat):(octs bits q).length=q:=by
 induction q with
 | zero=>rfl
 | succ q ih=>simp [octs,ih]
def loose64 (l:Ls):Ls:=octs (vbits (upto61 l)) ((vbits (upto61 l)).length / 8)
def lstep (s:Ls × Nat × Nat)(c:UInt8):Ls × Nat × Nat :=
 if val64 c<0 then s
 else if s.2.2+6<8 then(s.1,s.2.1*64+idx c,s.2.2+6)
 else(s.1++[UInt8.ofNat ((s.2.1*64+idx c) / 2 ^ (s.2.2+6-8))],(s.2.1*64+idx c) % 2 ^ (s.2.2+6-8),s.2.2+6-8)
def lrun (l:Ls):Ls × Nat × Nat:=l.foldl lstep ([],0,0)
def lenient (l:Ls):Ls:=(lrun (upto61 l)).1
theorem lrun_next {l:Ls}{k:Nat}{u:UInt8}(hu:l[k]? = some u):lrun (l.take (k+1))=lstep (lrun (l.take k)) u:=by
 obtain⟨hk,rfl⟩:=List.getElem?_eq_some_iff.1 hu;rw[l0n hk,lrun,List.foldl_append];rfl
theorem val64_idx {c:UInt8}(h:0≤val64 c):val64 c=(idx c:Int)∧idx c<64:=by
 unfold val64 at h ⊢;split <;> rename_i hi
 · exact⟨G,hi⟩
 rw[if_neg hi] at h;omega
theorem lstep_inv (s:Ls × Nat × Nat)(c:UInt8)(h1:s.2.2≤6∧s.2.2 % 2=0)(h2:s.2.1<2 ^ s.2.2):((lstep s c).2.2≤6∧(lstep s c).2.2 % 2=0)∧(lstep s c).2.1<2 ^ (lstep s c).2.2:=by
 unfold lstep;by_cases hv:val64 c<0
 · rw[if_pos hv];exact ⟨h1,h2⟩
 rw[if_neg hv];have hi:=(val64_idx (c:=c) Om).2;by_cases hb:s.2.2+6<8
 · rw[if_pos hb];have h0:s.2.2=0:=by omega
   rw[h0] at h2 ⊢;exact⟨by simp,by simp at h2 ⊢;omega⟩
 rw[if_neg hb];exact⟨by simp only[];omega,l2u _ (Nat.two_pow_pos _)⟩
theorem lrun_inv (l:Ls):((lrun l).2.2≤6∧(lrun l).2.2 % 2=0)∧(lrun l).2.1<2 ^ (lrun l).2.2:=by
 have key :∀(l:Ls) (s:Ls × Nat × Nat),((s.2.2≤6∧s.2.2 % 2=0)∧s.2.1<2 ^ s.2.2)→(((l.foldl lstep s).2.2≤6∧(l.foldl lstep s).2.2 % 2=0)∧(l.foldl lstep s).2.1<2 ^ (l.foldl lstep s).2.2):=by
  intro l;induction l with
  | nil=>exact fun s h=>h
  | cons c l ih=>exact fun s h=>ih _ (lstep_inv s c h.1 h.2)
 exact key l ([],0,0) Sm
theorem lrun_len (l:Ls):(lrun l).1.length≤l.length:=by
 have key :∀(l:Ls) (s:Ls × Nat × Nat),(l.foldl lstep s).1.length≤s.1.length+l.length:=by
  intro l;induction l with
  | nil=>intro s;simp
  | cons c l ih =>
    intro s;have h1:=ih (lstep s c);have h2:(lstep s c).1.length≤s.1.length+1:=by unfold lstep;split <;>(try split) <;> simp
    simp only[l0M,l02];omega
 have:=key l ([],0,0);simpa [lrun] using this
theorem or_six (x v:Nat)(hv:v<64):x*2 ^ 6 ||| v=x*64+v:=by
 have:=Nat.two_pow_add_eq_or_of_lt (i:=6) (b:=v) Om x;rw[l1I x,←this,l1I]
theorem and_mask (x s:Nat):x &&& (2 ^ s-1)=x % 2 ^ s:=l1U x s
theorem oct_lt (x v b:Nat)(h1:b≤6∧b % 2=0)(h2:x<2 ^ b)(hv:v<64)(hb:8≤b+6):(x*64+v) / 2 ^ (b+6-8)<256:=by
 obtain h|h|h:b=2∨b=4∨b=6:=by omega
 all_goals (subst h;simp at h2 ⊢;omega)
theorem getD_out {α:Type}(l:List α)(i:Nat)(d:α)(h:l.length≤i):l.getD i d=d:=by
 rw[l0w,List.getElem?_eq_none h];rfl
theorem getD_in {α:Type}(l:List α)(i:Nat)(d:α)(h:i<l.length):l.getD i d=l[i]:=by
 rw[l0w,List.getElem?_eq_getElem h];rfl
def accN (l:Ls):Nat→Nat
 | 0=>0
 | i+1=>accN l i*256+(l.getD i 0).toNat
theorem accN_out (l:Ls)(i:Nat)(h:l.length≤i):accN l i*256=accN l (i+1):=by
 rw[accN,getD_out _ _ _ h];simp
theorem accN_lt (l:Ls)(i:Nat):accN l i<256 ^ i:=by
 induction i with
 | zero=>simp [accN]
 | succ i ih =>
   have:=(l.getD i 0).toNat_lt;rw[accN,Nat.pow_succ];omega
def ch (l:Ls)(i:Nat):UInt8:=if min 3 l.length<i then 61 else alpha.getD (accN l 3 / 2 ^ (18-6*i) % 64) 0
def outp (l:Ls)(j:Nat):Ls:=(List.range 4).map fun i=>if i<j then ch l i else 0
theorem outp_set (l:Ls)(j:Nat)(hj:j<4):(outp l j).set j (ch l j)=outp l (j+1):=by
 match j,hj with
 | 0,_=>rfl
 | 1,_=>rfl
 | 2,_=>rfl
 | 3,_=>rfl
def grpAt (l:Ls)(k:Nat):Ls:=outp (l.drop (3*k)) 4
def grpsTo (l:Ls)(k:Nat):List Ls:=(List.range k).map (grpAt l)
def grps (l:Ls):List Ls:=grpsTo l ((l.length+2) / 3)
theorem grpsTo_next (l:Ls)(k:Nat):grpsTo l (k+1)=grpsTo l k++[grpAt l k]:=by
 simp [grpsTo,l2e]
theorem grpsTo_ini (l:Ls)(k:Nat)(h:3*k<l.length):(grpsTo l k++[grpAt l k]) <+: grps l:=by
 rw[←grpsTo_next];refine⟨((List.range' (k+1) ((l.length+2) / 3-(k+1))).map (grpAt l)),?_⟩;unfold grps grpsTo;rw[←l0R];have h1:List.range (k+1)++List.range' (k+1) ((l.length+2) / 3-(k+1))=List.range ((l.length+2) / 3):=by
  have h2:=List.range'_append_1 (s:=0) (m:=k+1) (n:=(l.length+2) / 3-(k+1));rw[l0s] at h2;rw[l2v,l2v,h2];congr 1;omega
 rw[h1]
theorem drop_next (l:Ls)(k n:Nat)(hn:n=min 3 (l.drop (3*k)).length):(l.drop (3*k)).drop n=l.drop (3*(k+1)):=by
 rw[l0l];simp only[l01] at hn;by_cases h:3≤l.length-3*k
 · rw[show 3*k+n=3*(k+1) by omega]
 rw[l08 Om,l08 Om]
theorem or_eight (x:Nat)(v:UInt8):x*2 ^ 8 ||| v.toNat=x*256+v.toNat:=by
 have:=Nat.two_pow_add_eq_or_of_lt (i:=8) (b:=v.toNat) (by have:=v.toNat_lt;omega) x;rw[l1I x,←this,l1I]
def encStep (s:Ls × Nat)(g:Ls):Ls × Nat:=if s.2=76 then(s.1++[13,10]++g,4) else(s.1++g,s.2+4)
def encRun (gs:List Ls):Ls × Nat:=gs.foldl encStep ([],0)
def encode (l:Ls):Ls:=if 0<(encRun (grps l)).2 then(encRun (grps l)).1++[13,10] else(encRun (grps l)).1
theorem encRun_next (gs:List Ls)(g:Ls):encRun (gs++[g])=encStep (encRun gs) g:=by simp [encRun]
theorem grps_len (l:Ls):(grps l).length=(l.length+2) / 3:=by simp [grps,grpsTo]
theorem ini_len {l x:Ls}{pre:List Ls}(h:(pre++[x]) <+: grps l):x.length=4∧(∀g∈pre,g.length=4)∧pre.length+1≤(l.length+2) / 3:=by
 refine⟨?_,fun g hg=>?_,?_⟩
 · obtain⟨k,_,rfl⟩:=List.mem_map.1 (h.subset (l1z _ (List.mem_singleton.2 rfl)));rfl
 · obtain⟨k,_,rfl⟩:=List.mem_map.1 (h.subset (l1o _ hg));rfl
 have:=h.length_le;rw[grps_len] at this;simpa using this
theorem grps_all (l:Ls):∀g∈grps l,g.length=4:=fun g hg=>by
 obtain⟨k,_,rfl⟩:=List.mem_map.1 hg;rfl
theorem encRun_inv (gs:List Ls)(h :∀g∈gs,g.length=4):(encRun gs).1.length≤6*gs.length∧(encRun gs).2≤76∧(encRun gs).2 % 4=0:=by
 have key :∀(gs:List Ls) (s:Ls × Nat),(∀g∈gs,g.length=4)→s.2≤76→s.2 % 4=0→(gs.foldl encStep s).1.length≤s.1.length+6*gs.length∧(gs.foldl encStep s).2≤76∧(gs.foldl encStep s).2 % 4=0:=by
  intro gs;induction gs with
  | nil=>intro s _ h1 h2;exact ⟨by simp,h1,h2⟩
  | cons g gs ih =>
    intro s hg h1 h2;have hg4:g.length=4:=hg g l0K;have h3:(encStep s g).1.length≤s.1.length+6∧(encStep s g).2≤76∧(encStep s g).2 % 4=0:=by
     unfold encStep;split
     · simp [hg4]
     simp [hg4];omega
    have:=ih (encStep s g) (fun x hx=>hg x (l0E _ hx)) h3.2.1 h3.2.2;simp only[l0M,l02];omega
 have:=key gs ([],0) h Sm Sm;simpa [encRun] using this
end Go.Ph.B64
end
section
namespace Go.Proofs.YtkmjdamkifbddaaGreatDoor
open Go Go.RowKit Go.Ph
open Go.Ph.B64
theorem b_eq {a c:UInt8}:((a.toNat:Int)=(c.toNat:Int))↔a=c:=by rw[Int.ofNat_inj,UInt8.toNat_inj]
theorem value64_spec (c:UInt8):Ct Tryz.prog 187 [encB c] (fun _=>True) (fun r _=>r=I (val64 c)):=by
 refine Ct.of Tryz.func187 (enters Tryz.func187 Kr G) G G G ?_;intro w0 M0 H hp;refine SQ (RG (AS G G (NL (TN (SQ (SQ (RG (AS G G (NL (TN (BL (q1Y (fun(k:Nat)=>[(0,encB c),(3,I (k:Int))]) (fun(k:Nat) w=>k≤64∧(∀j,(hj:j<alpha.length)→j<k→alpha[j]≠c)∧St w0 M0 M0 [] w) (fun(k:Nat)=>64-k) (0) ⟨G,G,trivial⟩ (⟨by omega,fun _ _ h=>by omega,H⟩) ?_))))))))))));intro k w;rintro⟨hk,hb,H⟩;refine SQ (SQ (RG (MV G G ?_)));refine q0a (q0q G G) (q00 G) G G (fun h2_1=>?_) (fun h2_1=>?_)
 · refine NL (TN (CT G (SK (TN (SQ (BL (SQ (RG (MV G G ?_)))))))));refine q03 (q1g (l:=alpha) Tu9 G G (List.getElem?_eq_getElem (by rw[alpha_len];omega))) (q00 G) G G ?_;refine MV G G ?_;refine q0a (q0e G G) (q00 G) G G (fun h4_3=>?_) (fun h4_3=>?_)
   · refine NL (TN (CT G (SQ (RG (MV G G (AS G G (NL (TN (RT ?_)))))))));refine q08 G G H.ext ?_;exact(congrArg I (val64_at c k _ (b_eq.1 h4_3) hb).symm)
   refine NL (TN (CF G (SK (IB (TN (RG (MV G G (ST (q0g G G Om) G ?_))))))));refine AS G G (NL ?_);refine q1l (k+1) ⟨G,G,trivial⟩ ?_ ?_
   · refine⟨by omega,fun j hj hjk=>?_,H⟩;rcases l0Q j k with h|h
     · exact hb j hj h
     obtain rfl:j=k:=by omega
     exact fun h=>h4_3 (b_eq.2 h)
   omega
 refine NL (TN (CF G (q0r (q06 (q06 (q0f (TN (SQ (RG (AS G G (NL (TN (RT ?_)))))))))))));refine q08 G G H.ext ?_;exact(congrArg I (val64_none c (fun j hj h=>hb j hj Om)).symm)
theorem sum_spec (v:Value)(l:List Nat)(hs:l.length≤8)(h1 :∀x∈l,x≤1):Ct Tryz.prog 183 [v] (fun M=>Sl M encN v l) (fun r _=>r=encN (sumN l)):=by
 refine Ct.of Tryz.func183 (enters Tryz.func183 Kr G) G G G ?_;intro w0 M0 H hp;refine SQ (RG (AS G G (NL (TN (SQ (RG (AS G G (NL (TN (SQ (SQ (RG (AS G G (NL (TN (BL (q1Y (fun(k:Nat)=>[(0,v),(3,encN (sumN (l.take k))),(4,I (k:Int))]) (fun(k:Nat) w=>k≤l.length∧St w0 M0 M0 [] w) (fun(k:Nat)=>l.length-k) (0) ⟨G,G,G,trivial⟩ (⟨by omega,H⟩) ?_)))))))))))))))));intro k w;rintro⟨hk,H⟩;have hb:=sumN_lt (l.take k) (fun x hx=>h1 x (l1p hx));have hb2:2 ^ (l.take k).length≤2 ^ 8:=l1f Dc (by rw[l04];omega);refine SQ (SQ (RG (MV G G (MV G G ?_))));first|refine q03 (q0M Tu168 (by assumption) rfl) (q00 rfl) rfl rfl ?_|refine q03 (q0K Tu168 H Km rfl) (q00 rfl) rfl rfl ?_|refine q03 (q0A Tu168 rfl) (q00 rfl) rfl rfl ?_
 refine q0a (q0q G G) (q00 G) G G (fun h3_3=>?_) (fun h3_3=>?_)
 · refine NL (TN (CT G (SK (TN (SQ (BL (RG (MV G G (ST (q1O G G Om) G ?_)))))))));refine MV G G (MV G G ?_);refine q1m Tu168 Ts3 (by assumption) G G (List.getElem?_eq_getElem Om) (q00 G) G ?_;intro p15 hc15;first|refine q03 (q07 H rfl (by assumption) Ta3) (q00 rfl) rfl rfl ?_|refine q03 (XL H Ta3) (q00 rfl) rfl rfl ?_
   have hx1:=h1 l[k] (l0N _);refine q09 (v':=encN (sumN (l.take (k+1)))) (q0g G G Om) (by rw[l0n Om,sumN_snoc];simp) (q00 G) G G ?_;refine AS G G (NL (IB (TN (RG (MV G G (ST (q0g G G Om) G ?_))))));refine AS G G (NL ?_);refine q1l (k+1) ⟨G,G,G,trivial⟩ ?_ ?_
   · exact⟨by omega,H⟩
   omega
 refine NL (TN (CF G (q0r (q06 (q06 (q0f (TN (SQ (RG (MV G G (AS G G (NL (TN (RT ?_))))))))))))));refine q08 G G H.ext ?_;exact(by rw[l0r Om])
theorem ub_nat (n:Nat)(h:n<256):ub (n:Int)=UInt8.ofNat n:=by unfold ub;congr 1;omega
theorem mod2 (x:Nat):I ((x:Int) % 2)=encN (x % 2):=rfl
theorem bits_spec (b:Value)(l:Ls)(hs:l.length≤1000000):CtO Tryz.prog 182 [b] (fun M=>Bs M b l) (fun r _ its=>its=[RowI 3 encN r (bitsOf l)]):=by
 refine CtO.of Tryz.func182 (enters Tryz.func182 Kr G) G G G ?_;intro w0 M0 H hp;refine SQ (RG (AS rfl rfl (NL (TN (SQ (RG (AS rfl rfl (NL (TN (SQ (SQ (RG (AS rfl rfl (NL (TN (BL (q1M (fun(k:Nat) (v:Value)=>[(0,b),(3,v),(4,I (k:Int))]) (fun(k:Nat) (v:Value) w=>k≤l.length∧∃M,St w0 M0 M [RowI 3 encN v (bitsOf (l.take k))] w) (fun(k:Nat) (v:Value)=>l.length-k) (0) (_) ⟨rfl,rfl,rfl,trivial⟩ (⟨by omega,M0,H.newRow 3 encN⟩) ?_)))))))))))))))));intro k v w;rintro⟨hk,M,H⟩;have hb:=hp.mono H.ext.le;refine SQ (SQ (RG (MV G G (MV G G ?_))));first|refine q03 (q0M Tu88 (by assumption) rfl) (q00 rfl) rfl rfl ?_|refine q03 (q0K Tu88 H Km rfl) (q00 rfl) rfl rfl ?_|refine q03 (q0A Tu88 rfl) (q00 rfl) rfl rfl ?_
 refine q0a (q0q G G) (q00 G) G G (fun h3_3=>?_) (fun h3_3=>?_)
 · obtain⟨u,hu⟩ :∃u,l[k]? = some u:=⟨_,List.getElem?_eq_getElem Om⟩
   refine NL (TN (CT rfl (SK (TN (SQ (BL (SQ (RG (AS rfl rfl (NL (TN (BL (q1M (fun(j:Nat) (v:Value)=>[(0,b),(3,v),(4,I (k:Int)),(5,I (7-(j:Int)))]) (fun(j:Nat) (v:Value) w=>j≤8∧∃M,St w0 M0 M [RowI 3 encN v (bitsOf (l.take k)++(bits8 u.toNat).take j)] w) (fun(j:Nat) (v:Value)=>8-j) (0) (_) ⟨rfl,rfl,rfl,rfl,trivial⟩ (⟨by omega,M,by simpa using H⟩) ?_)))))))))))));intro j v w;rintro⟨hj,M,H⟩;have hb:=hp.mono H.ext.le;have e1:=bitsOf_len (l.take k);have e2:(l.take k).length≤l.length:=l2y _ _;have e3:((bits8 u.toNat).take j).length≤8:=by rw[l04,bits8_len];omega
   refine SQ (SQ (RG (MV G G ?_)));refine q0a (q0X G G) (q00 G) G G (fun h6_1=>?_) (fun h6_1=>?_)
   · refine NL (TN (CT G (SK (TN (SQ (BL (RG (MV G G (MV G G (MV G G (q1m Tu88 Ts5 (by assumption) G G (hu) (q00 G) G ?_)))))))))));intro p19 hc19;first|refine q03 (q07 H rfl (by assumption) Ta5) (q00 rfl) rfl rfl ?_|refine q03 (XL H Ta5) (q00 rfl) rfl rfl ?_
     first|refine q03 (q1r Tu5 Tu3 rfl) (q00 rfl) rfl rfl ?_|refine q03 (q1L Tu5 Tu3 rfl Om) (q00 rfl) rfl rfl ?_
     refine q09 (v':=I ((7-j:Nat):Int)) (q01 G) (congrArg I Om) (q00 G) G G ?_;refine ST (q1U Tu3 Tu125 G Om) G ?_;refine ST (Ex.shrN (m:=_) (s:=_) G G (by first|(show _≤64;omega)|(show _≤8;omega)|decide)) G ?_;refine q09 (v':=encN (u.toNat / 2 ^ (7-j) % 2)) (q1F G G (by first|omega|exact⟨l0g _,by decide⟩)) (mod2 _) (q00 G) G G ?_;refine q0N (enc:=encN) ty168 [_] H G Kf (fun _=>G) G G (q00 G) G ?_;intro v26 M w H hle hl26;replace hb:=hb.mono hle;replace hc19:=hc19.mono hle;refine q0D ty168 (fun _=>G) H G (fun _=>by repeat first|exact .head|apply Upd.tail) G (by assumption) (by first|omega|(simp only[l00,l02,l03,l04,l01];omega)|(simp only[l00,l02,l03,l04,l01,l0V,bitsOf_len] at *;omega)) (by first|(simp only[maxLen];omega)|(simp only[maxLen,l00,l02,l03,l04,l01];omega)|(simp only[maxLen,l00,l02,l03,l04,l01,l0V,bitsOf_len] at *;omega)) (q00 G) G ?_;intro v27 w H;refine AS G G (NL (IB (TN (RG (MV G G (q09 (v':=I (7-((j+1:Nat):Int))) (q1o G G Om) (congrArg I Om) (q00 G) G G ?_))))));refine AS G G (NL ?_);refine q0V (j+1) (v27) ⟨G,G,G,G,trivial⟩ ?_ ?_
     · refine⟨by omega,M,?_⟩;rw[bits8_next _ _ Om,←l0d];exact H
     omega
   refine NL (TN (CF G (q0r (q06 (q06 (q0f (IB (TN (RG (MV G G (ST (q0g G G Om) G ?_)))))))))));refine AS G G (NL ?_);refine q0V (k+1) (v) ⟨G,G,G,trivial⟩ ?_ ?_
   · refine⟨by omega,M,?_⟩;rw[bitsOf_next hu];rw[l0r (l:=bits8 u.toNat) (by rw[bits8_len];omega)] at H;exact H
   omega
 refine NL (TN (CF G (q0r (q06 (q06 (q0f (TN (SQ (RG (MV G G (AS G G (NL (TN (RT ?_))))))))))))));rw[l0r Om] at H;refine WQ.ret1O G G H (List.Sublist.refl _) ?_;exact G
theorem chars64_spec (b:Value)(l:Ls)(hs:l.length≤1000000):Ct Tryz.prog 153 [b] (fun M=>Bs M b l) (fun r _=>r=S (chars64 l)):=by
 refine Ct.of Tryz.func153 (enters Tryz.func153 Kr G) G G G ?_;intro w0 M0 H hp;refine SQ (RG (AS G G (NL (TN (SQ (RG (MV G G (WR.callO H (bits_spec _ _ Om) G (by assumption) (q00 G) G ?_))))))));intro v8 M w its H hle hr8;replace hp:=hp.mono hle;obtain rfl:=hr8;simp only[l05,l07] at H;refine AS rfl rfl (NL (TN (SQ (BL (q1M (fun(j:Nat) (v:Value)=>[(3,v)]) (fun(j:Nat) (v:Value) w=>j≤(6-8*l.length % 6) % 6∧∃M,St w0 M0 M [RowI 3 encN v (bitsOf l++List.replicate j 0)] w) (fun(j:Nat) (v:Value)=>6-j) (0) (_) ⟨rfl,trivial⟩ (⟨by omega,M,by simpa using H⟩) ?_)))));intro j v w;rintro⟨hj,M,H⟩;have hL:(bitsOf l++List.replicate j 0).length=8*l.length+j:=by simp [bitsOf_len]
 refine SQ (SQ (RG (MV G G ?_)));first|refine q03 (q0M Tu168 (by assumption) rfl) (q00 rfl) rfl rfl ?_|refine q03 (q0K Tu168 H Km rfl) (q00 rfl) rfl rfl ?_|refine q03 (q0A Tu168 rfl) (q00 rfl) rfl rfl ?_
 refine ST (q1F G G (by first|omega|exact⟨l0g _,by decide⟩)) G ?_;refine q0a (Ex.neq G G) (q00 G) G G (fun h2_3=>?_) (fun h2_3=>?_)
 · refine NL (TN (CT G (SK (TN (BL (RG (MV G G (q0N (enc:=encN) ty168 [(0)] H G Kf (fun _=>G) G G (q00 G) G ?_))))))));intro v14 M w H hle hl14;refine q0D ty168 (fun _=>G) H G (fun _=>by repeat first|exact .head|apply Upd.tail) G (by assumption) (by first|omega|(simp only[l00,l02,l03,l04,l01];omega)|(simp only[l00,l02,l03,l04,l01,l0V,bitsOf_len] at *;omega)) (by first|(simp only[maxLen];omega)|(simp only[maxLen,l00,l02,l03,l04,l01];omega)|(simp only[maxLen,l00,l02,l03,l04,l01,l0V,bitsOf_len] at *;omega)) (q00 G) G ?_;intro v15 w H;refine AS G G (NL (IB ?_));refine q0V (j+1) (v15) ⟨G,trivial⟩ ?_ ?_
   · refine⟨by omega,M,?_⟩;rw[List.replicate_succ',←l0d];exact H
   omega
 refine NL (TN (CF G (q0r (q06 (q06 (q0f (TN (SQ (RG (AS G G (NL (TN (SQ (SQ (RG (AS G G (NL (TN (BL ?_)))))))))))))))))));obtain⟨M,hle,hf,H⟩:=H.freezeRow (v:=v) (enc:=encN) (t:=3) Kv;rw[show bitsOf l++List.replicate j 0=padBits l by rw[padBits];congr;omega] at hf;refine q1Y (fun(q:Nat)=>[(3,v),(4,S (sext (padBits l) q)),(5,I ((6*q:Nat):Int))]) (fun(q:Nat) w=>6*q≤(padBits l).length∧∃M,St w0 M0 M [] w∧Sl M encN v (padBits l)) (fun(q:Nat)=>(padBits l).length-6*q) (0) ⟨rfl,rfl,rfl,trivial⟩ (⟨by omega,M,H,hf⟩) ?_;intro q w;rintro⟨hq,M,H,hf⟩;have e1:=padBits_len l;have e2:=sext_len (padBits_le l) q;have e3:=six_lt (padBits_le l) q;refine SQ (SQ (RG (MV G G (MV G G ?_))));first|refine q03 (q0M Tu168 (by assumption) rfl) (q00 rfl) rfl rfl ?_|refine q03 (q0K Tu168 H Km rfl) (q00 rfl) rfl rfl ?_|refine q03 (q0A Tu168 rfl) (q00 rfl) rfl rfl ?_
 refine q0a (q0q G G) (q00 G) G G (fun h6_3=>?_) (fun h6_3=>?_)
 · refine NL (TN (CT G (SK (TN (SQ (BL (SQ (RG (MV G G (MV G G (MV G G (ST (q0g G G Om) G ?_))))))))))));refine WR.sliceSl (i:=6*q) (j:=6*q+6) Tu168 Ts3 (by assumption) G (.inl ⟨_,G,G⟩) (.inl ⟨_,G,G⟩) Om Om (q00 G) G ?_;intro v26 hs26;refine q05 H (sum_spec _ (((padBits l).take (6*q+6)).drop (6*q)) (by simp only[l01,l04];omega) (part_le (padBits_le l) _ _)) G (by assumption) (q00 G) G ?_;intro v27 M w H hle hr27;replace hf:=hf.mono hle;replace hs26:=hs26.mono hle;obtain rfl:=hr27;refine q09 (v':=encN (six (padBits l) q)) (Ex.assign G) G (q00 G) G G (NL (TN (RG (MV G G (MV G G (MV G G (ST (q0g G G Om) G ?_)))))));refine ST (q1i (l:=alpha) (i:=six (padBits l) q) (j:=six (padBits l) q+1) Tu9 G (.inl ⟨_,G,G⟩) (.inl ⟨_,G,G⟩) Om (by rw[alpha_len];omega)) G ?_;refine q09 (v':=S (sext (padBits l) (q+1))) (q1p G G (by first|omega|(simp only[l02,l03];omega)|(simp only[l00,l02,l03,l01,l04];omega))) G (q00 G) G G ?_;refine AS G G (NL (IB (TN (RG (MV G G (q09 (v':=I ((6*(q+1):Nat):Int)) (q0g G G Om) (congrArg I Om) (q00 G) G G ?_))))));refine AS G G (NL ?_);refine q1l (q+1) ⟨G,G,G,trivial⟩ ?_ ?_
   · exact⟨by omega,M,H,hf⟩
   omega
 refine NL (TN (CF rfl (q0r (q06 (q06 (q0f (TN (SQ (BL (q1Y (fun(m:Nat)=>[(4,S (sext (padBits l) q++List.replicate m 61))]) (fun(m:Nat) w=>m≤(4-(sext (padBits l) q).length % 4) % 4∧∃M,St w0 M0 M [] w) (fun(m:Nat)=>4-m) (0) ⟨(by rw[List.replicate_zero,l0k];rfl),trivial⟩ (⟨by omega,M,H⟩) ?_))))))))));intro m w;rintro⟨hm,M,H⟩;have hL2:(sext (padBits l) q++List.replicate m 61).length=(sext (padBits l) q).length+m:=by simp
 refine SQ (SQ (RG (MV G G (ST (q0i Tu9 G) G (ST (q1F G G (by first|omega|exact⟨l0g _,by decide⟩)) G ?_)))));refine q0a (Ex.neq G G) (q00 G) G G (fun h10_3=>?_) (fun h10_3=>?_)
 · refine NL (TN (CT G (SK (TN (BL (RG (MV G G (q09 (v':=S (sext (padBits l) q++List.replicate (m+1) 61)) (q1p G G (by first|omega|(simp only[l02,l03];omega)|(simp only[l00,l02,l03,l01,l04];omega))) (by rw[List.replicate_succ',←l0d]) (q00 G) G G ?_))))))));refine AS G G (NL (IB ?_));refine q1l (m+1) ⟨G,trivial⟩ ?_ ?_
   · exact⟨by omega,M,H⟩
   omega
 refine NL (TN (CF G (q0r (q06 (q06 (q0f (TN (SQ (RG (MV G G (AS G G (NL (TN (RT ?_))))))))))))));refine q08 G G H.ext ?_;exact(by
  have hq2:q=(padBits l).length / 6:=by omega
  have hm2:m=(4-(sext (padBits l) q).length % 4) % 4:=by omega
  subst hq2;rw[hm2,chars64])
theorem loose64_spec (b:Value)(l:Ls)(hs:l.length≤1000000):Ct Tryz.prog 158 [b] (fun M=>Bs M b l) (fun r M=>Bs M r (loose64 l)):=by
 refine Ct.of Tryz.func158 (enters Tryz.func158 Kr G) G G G ?_;intro w0 M0 H hp;refine SQ (RG (AS G G (NL (TN (SQ (RG (AS G G (NL (TN ?_)))))))));refine WC.cut1 (fun(v:Value)=>[(3,v)]) (fun(v:Value) w =>∃M,St w0 M0 M [RowI 3 encN v (vbits (upto61 l))] w) ?_ ?_
 · refine SQ (RG (AS rfl rfl (NL (TN (BL (q1M (fun(k:Nat) (v:Value)=>[(0,b),(3,v),(4,I (k:Int))]) (fun(k:Nat) (v:Value) w=>k≤l.length∧(∀j u,l[j]? = some u→j<k→u≠61)∧∃M,St w0 M0 M [RowI 3 encN v (vbits (l.take k))] w) (fun(k:Nat) (v:Value)=>l.length-k) (0) (_) ⟨rfl,rfl,rfl,trivial⟩ (⟨by omega,fun _ _ _ h=>absurd h Om,M0,H.newRow 3 encN⟩) ?_))))));intro k v w;rintro⟨hk,hb61,M,H⟩;have hb:=hp.mono H.ext.le;refine SQ (SQ (RG (MV G G (MV G G ?_))));first|refine q03 (q0M Tu88 (by assumption) rfl) (q00 rfl) rfl rfl ?_|refine q03 (q0K Tu88 H Km rfl) (q00 rfl) rfl rfl ?_|refine q03 (q0A Tu88 rfl) (q00 rfl) rfl rfl ?_
   refine q0a (q0q G G) (q00 G) G G (fun h3_3=>?_) (fun h3_3=>?_)
   · obtain⟨u,hu⟩ :∃u,l[k]? = some u:=⟨_,List.getElem?_eq_getElem Om⟩
     refine MV G G (SG (q01 G) G G G (SG (q01 G) G G G (q1m Tu88 Ts5 (by assumption) G G (hu) (q04 G G G) G ?_)));intro p16 hc16;first|refine q03 (q07 H rfl (by assumption) Ta5) (q04 rfl rfl rfl) rfl rfl ?_|refine q03 (XL H Ta5) (q04 rfl rfl rfl) rfl rfl ?_
     refine q0a (Ex.neq G G) (q04 G G G) G G (fun h3_9=>?_) (fun h3_9=>?_)
     · refine PT G G G (NL (TN (CT G (SK (TN (SQ (BL (SQ (RG (MV G G (MV G G (q1m Tu88 Ts5 (by assumption) G G (hu) (q00 G) G ?_))))))))))));intro p24 hc24;first|refine q03 (q07 H rfl (by assumption) Ta5) (q00 rfl) rfl rfl ?_|refine q03 (XL H Ta5) (q00 rfl) rfl rfl ?_
       refine q05 H (value64_spec _) G (trivial) (q00 G) G ?_;intro v26 M w H hle hr26;replace hb:=hb.mono hle;replace hc16:=hc16.mono hle;replace hc24:=hc24.mono hle;obtain rfl:=hr26;refine AS rfl rfl (NL (TN (SQ (RG (AS rfl rfl (NL (TN (BL (q1M (fun(j:Nat) (v:Value)=>[(0,b),(3,v),(4,I (k:Int)),(5,I (val64 u)),(6,I (5-(j:Int)))]) (fun(j:Nat) (v:Value) w=>j≤6∧(val64 u<0→j=0)∧∃M,St w0 M0 M [RowI 3 encN v (vbits (l.take k)++(bits6 (val64 u).toNat).take j)] w) (fun(j:Nat) (v:Value)=>6-j) (0) (_) ⟨rfl,rfl,rfl,rfl,rfl,trivial⟩ (⟨by omega,fun _=>rfl,M,by simpa using H⟩) ?_)))))))));intro j v w;rintro⟨hj,hz,M,H⟩;have hb:=hp.mono H.ext.le;have e1:=vbits_len (l.take k);have e2:(l.take k).length≤l.length:=l2y _ _;have e3:((bits6 (val64 u).toNat).take j).length≤6:=by rw[l04,bits6_len];omega
       have e4:val64 u<64:=by unfold val64;split <;> omega
       refine SQ (SQ (RG (MV G G ?_)));refine q0a (q0X G G) (q00 G) G G (fun h7_1=>?_) (fun h7_1=>?_)
       · refine MV G G (SG (q01 G) G G G ?_);refine q0a (q0X G G) (q04 G G G) G G (fun h7_4=>?_) (fun h7_4=>?_)
         · refine PT G G G (NL (TN (CT G (SK (TN (SQ (BL (RG (MV G G (q09 (v':=encN (val64 u).toNat) (q01 G) (congrArg I Om) (q00 G) G G ?_))))))))));refine q09 (v':=I ((5-j:Nat):Int)) (q01 G) (congrArg I Om) (q00 G) G G ?_;refine ST (q1U Tu3 Tu125 G Om) G ?_;refine ST (Ex.shrN (m:=_) (s:=_) G G (by first|(show _≤64;omega)|(show _≤8;omega)|decide)) G ?_;refine q09 (v':=encN ((val64 u).toNat / 2 ^ (5-j) % 2)) (q1F G G (by first|omega|exact⟨l0g _,by decide⟩)) (mod2 _) (q00 G) G G ?_;refine q0N (enc:=encN) ty168 [_] H G Kf (fun _=>G) G G (q00 G) G ?_;intro v41 M w H hle hl41;replace hb:=hb.mono hle;refine q0D ty168 (fun _=>G) H G (fun _=>by repeat first|exact .head|apply Upd.tail) G (by assumption) (by first|omega|(simp only[l00,l02,l03,l04,l01];omega)|(simp only[l00,l02,l03,l04,l01,l0V,bitsOf_len] at *;omega)) (by first|(simp only[maxLen];omega)|(simp only[maxLen,l00,l02,l03,l04,l01];omega)|(simp only[maxLen,l00,l02,l03,l04,l01,l0V,bitsOf_len] at *;omega)) (q00 G) G ?_;intro v42 w H;refine AS G G (NL (IB (TN (RG (MV G G (q09 (v':=I (5-((j+1:Nat):Int))) (q1o G G Om) (congrArg I Om) (q00 G) G G ?_))))));refine AS G G (NL ?_);refine q0V (j+1) (v42) ⟨G,G,G,G,G,trivial⟩ ?_ ?_
           · refine⟨by omega,fun h=>absurd h Om,M,?_⟩;rw[bits6_next _ _ Om,←l0d];exact H
           omega
         refine PT G G G (NL (TN (CF G (q0r (q06 (q06 (q0f (IB (TN (RG (MV G G (ST (q0g G G Om) G ?_))))))))))));refine AS G G (NL ?_);refine q0V (k+1) (v) ⟨G,G,G,trivial⟩ ?_ ?_
         · refine⟨by omega,fun j x hj hjk=>?_,M,?_⟩
           · rcases l0Q j k with h|h
             · exact hb61 j x hj h
             obtain rfl:j=k:=by omega
             rw[hu] at hj;cases hj;exact fun h=>h3_9 (by rw[h];rfl)
           rw[vbits_next hu,←vb_done u j Om];exact H
         omega
       refine MV G G (GF G G G (GF G G G (PF G G G (NL (TN (CF G (q0r (q06 (q06 (q0f (IB (TN (RG (MV G G (ST (q0g G G Om) G ?_)))))))))))))));refine AS G G (NL ?_);refine q0V (k+1) (v) ⟨G,G,G,trivial⟩ ?_ ?_
       · refine⟨by omega,fun j x hj hjk=>?_,M,?_⟩
         · rcases l0Q j k with h|h
           · exact hb61 j x hj h
           obtain rfl:j=k:=by omega
           rw[hu] at hj;cases hj;exact fun h=>h3_9 (by rw[h];rfl)
         rw[vbits_next hu,←vb_done u j Om];exact H
       omega
     refine PT G G G (NL (TN (CF G (q0r (q06 (q06 (q0f (q2d (v) ⟨G,trivial⟩ ?_))))))));refine⟨M,?_⟩;rw[upto61_eq l k hb61 (.inr (by rw[hu];congr 1;exact b_eq.1 (Decidable.not_not.1 h3_9)))];exact H
   refine MV G G (GF G G G (GF G G G (GF G G G (GF G G G (GF G G G (PF G G G (NL (TN (CF G (q0r (q06 (q06 (q0f (q2d (v) ⟨G,trivial⟩ ?_))))))))))))));refine⟨M,?_⟩;rw[upto61_eq l k hb61 (.inl Om)];exact H
 intro v w;rintro⟨M,H⟩;refine SQ (RG (AS G G (NL (TN (SQ (SQ (RG (AS G G (NL (TN (BL ?_)))))))))));obtain⟨M,hle,hf,H⟩:=H.freezeRow (v:=v) (enc:=encN) (t:=3) Kv;replace H:=H.newRow 5 encB;refine q1M (fun(q:Nat) (vo:Value)=>[(3,v),(7,vo),(8,I ((8*q:Nat):Int))]) (fun(q:Nat) (vo:Value) w=>8*q≤(vbits (upto61 l)).length∧∃M,St w0 M0 M [RowI 5 encB vo (octs (vbits (upto61 l)) q)] w∧Sl M encN v (vbits (upto61 l))) (fun(q:Nat) (vo:Value)=>(vbits (upto61 l)).length-8*q) (0) (_) ⟨rfl,rfl,rfl,trivial⟩ (⟨by omega,M,H,hf⟩) ?_;intro q vo w;rintro⟨hq,M,H,hf⟩;have e1:=vbits_len (upto61 l);have e2:=octs_len (vbits (upto61 l)) q;have e3:=eight_lt (vbits_le (upto61 l)) q;have e4:(upto61 l).length≤l.length:=(List.takeWhile_sublist _).length_le;refine SQ (SQ (RG (MV G G (ST (q0g G G Om) G ?_))));refine MV G G ?_;first|refine q03 (q0M Tu168 (by assumption) rfl) (q00 rfl) rfl rfl ?_|refine q03 (q0K Tu168 H Km rfl) (q00 rfl) rfl rfl ?_|refine q03 (q0A Tu168 rfl) (q00 rfl) rfl rfl ?_
 refine q0a (q1y G G) (q00 G) G G (fun h12_4=>?_) (fun h12_4=>?_)
 · refine NL (TN (CT G (SK (TN (SQ (BL (RG (MV G G (MV G G (MV G G (MV G G (ST (q0g G G Om) G ?_))))))))))));refine WR.sliceSl (i:=8*q) (j:=8*q+8) Tu168 Ts3 (by assumption) G (.inl ⟨_,G,G⟩) (.inl ⟨_,G,G⟩) Om Om (q00 G) G ?_;intro v55 hs55;refine q05 H (sum_spec _ (((vbits (upto61 l)).take (8*q+8)).drop (8*q)) (by simp only[l01,l04];omega) (part_le (vbits_le _) _ _)) G (by assumption) (q00 G) G ?_;intro v56 M w H hle hr56;replace hf:=hf.mono hle;replace hs55:=hs55.mono hle;obtain rfl:=hr56;refine q09 (v':=encB (UInt8.ofNat (eight (vbits (upto61 l)) q))) (q1f Tu3 Tu5 G) (congrArg encB (ub_nat _ e3)) (q00 G) G G (q0N (enc:=encB) ty88 [UInt8.ofNat (eight (vbits (upto61 l)) q)] H G Kf (fun _=>G) G G (q00 G) G ?_);intro v58 M w H hle hl58;replace hf:=hf.mono hle;replace hs55:=hs55.mono hle;refine q0D ty88 (fun _=>G) H G (fun _=>by repeat first|exact .head|apply Upd.tail) G (by assumption) (by first|omega|(simp only[l00,l02,l03,l04,l01];omega)|(simp only[l00,l02,l03,l04,l01,l0V,bitsOf_len] at *;omega)) (by first|(simp only[maxLen];omega)|(simp only[maxLen,l00,l02,l03,l04,l01];omega)|(simp only[maxLen,l00,l02,l03,l04,l01,l0V,bitsOf_len] at *;omega)) (q00 G) G ?_;intro v59 w H;refine AS G G (NL (IB (TN (RG (MV G G (q09 (v':=I ((8*(q+1):Nat):Int)) (q0g G G Om) (congrArg I Om) (q00 G) G G ?_))))));refine AS G G (NL ?_);refine q0V (q+1) (v59) ⟨G,G,G,trivial⟩ ?_ ?_
   · exact⟨by omega,M,H,hf⟩
   omega
 refine NL (TN (CF G (q0r (q06 (q06 (q0f (TN (SQ (RG (MV G G (AS G G (NL (TN (RT ?_))))))))))))));obtain⟨M,hle,hfo,H⟩:=H.freezeRow (v:=vo) (enc:=encB) (t:=5) Kv;rw[show q=(vbits (upto61 l)).length / 8 by omega] at hfo;refine q08 G G H.ext ?_;exact hfo
end Go.Proofs.YtkmjdamkifbddaaGreatDoor
end
section
namespace Go.Proofs.YtkmjdamkifbddaaGreatDoor
open Go Go.RowKit Go.Ph
theorem bytesOf_natsB (l:Ls):Lib.bytesOf (l.map fun u=>(u.toNat:Int))=l:=by
 unfold Lib.bytesOf;rw[l1t]
 conv=>rhs;rw [←List.map_id l]
 apply l1r;intro u _;simp
theorem indexByte_idx (l:Ls)(c:UInt8):Lib.indexByte l c=if l.idxOf c<l.length then(l.idxOf c:Int) else -1:=by
 induction l with
 | nil=>simp [Lib.indexByte]
 | cons b l ih =>
   simp only[Lib.indexByte,List.idxOf_cons,l02];by_cases h:b=c
   · subst h;simp
   have h':(b == c)=false:=by simpa using h
   rw[h',ih];simp only[l0h,if_false,cond_false];by_cases hl:l.idxOf c<l.length
   · have h1:l.idxOf c+1<l.length+1:=by omega
     have h2 :¬(((l.idxOf c:Int) == -1)=true):=by simp only[beq_iff_eq];omega
     simp only[hl,h1,if_true,h2,if_false,l0h];omega
   have h1 :¬(l.idxOf c+1<l.length+1):=by omega
   simp only[hl,h1,if_false];rfl
theorem indexByte_alpha (c:UInt8):Lib.indexByte B64.alpha c=B64.val64 c:=by
 rw[indexByte_idx,B64.alpha_len];rfl
theorem indexByte_spec (b:Value)(l:Ls)(c:UInt8):Ct Tryz.prog 226 [b,encB c] (fun M=>Bs M b l) (fun r _=>r=I (Lib.indexByte l c)):=by
 refine⟨enters Tryz.func226 Kr G,fun w M ha hp=>?_⟩;obtain⟨A,cp,rfl,hc,hn⟩:=hp.cells ha;have hcv:((c.toNat:Int)).toNat.toUInt8=c:=by simp
 cases A with
 | none =>
   obtain⟨rfl,rfl⟩:=hn rfl;exact(Tryz.bytes_IndexByte_nil (c.toNat:Int) w).mono fun e w' ⟨he,hw⟩=>⟨_,M,he,by subst hw;exact q2h ha,rfl⟩
 | some ad =>
   refine(Tryz.bytes_IndexByte_at ad l.length cp (l.map fun u=>(u.toNat:Int)) (c.toNat:Int) w Sm (fun i hi=>?_)).mono fun e w' ⟨he,hw⟩=>⟨_,M,he,by subst hw;exact q2h ha,?_⟩
   · have:=hc ad rfl i (encB l[i]) (by simp [hi]);rw[this];simp [hi]
   rw[bytesOf_natsB,hcv]
open Go.Ph.B64
theorem next61 {l:Ls}{k:Nat}{u:UInt8}(hb :∀j u,l[j]? = some u→j<k→u≠61)(hu:l[k]? = some u)(h :¬((u.toNat:Int)=61)):∀j u,l[j]? = some u→j<k+1→u≠61:=by
 intro j x hj hjk;rcases l0Q j k with h1|h1
 · exact hb j x hj h1
 obtain rfl:j=k:=by omega
 rw[hu] at hj;cases hj;exact fun e=>h (by rw[e];rfl)
theorem lenient_spec (bv:Value)(l:Ls)(hs:l.length≤24000):Ct Tryz.prog 209 [bv] (fun M=>Bs M bv l) (fun r M =>∃v,r = .tuple #[v,fault 0 0]∧Bs M v (lenient l)):=by
 refine Ct.of Tryz.func209 (enters Tryz.func209 Kr G) G G G ?_;intro w0 M0 H hp;refine SQ (RG (AS G G (q0k [_,_] H Tz27 G (q00 G) G ?_)));intro b3 w H;refine NL (TN (SQ (SQ (RG (MV G G ?_)))));first|refine q03 (q0M Tu88 (by assumption) rfl) (q00 rfl) rfl rfl ?_|refine q03 (q0K Tu88 H Km rfl) (q00 rfl) rfl rfl ?_|refine q03 (q0A Tu88 rfl) (q00 rfl) rfl rfl ?_
 refine q0Z (q0J G G) Om (q00 G) G G ?_;refine NL (TN (CF G (SK (TN (SQ (RG (AS G G (NL (TN (SQ (RG (AS G G (AS G G (NL (TN ?_)))))))))))))));refine WC.cut1 (fun(v:Value)=>[(3,ptr b3 0),(4,v)]) (fun(v:Value) w =>∃M,St w0 M0 M [RowI 5 encB v (lenient l), .blk b3 (.cells #[I 0,I 0] 27)] w) ?_ ?_
 · refine SQ (RG (MV G G ?_));first|refine q03 (q0M Tu88 (by assumption) rfl) (q00 rfl) rfl rfl ?_|refine q03 (q0K Tu88 H Km rfl) (q00 rfl) rfl rfl ?_|refine q03 (q0A Tu88 rfl) (q00 rfl) rfl rfl ?_
   refine MV G G (NL (TN (BL ?_)));replace H:=H.newRow 5 encB;refine WC.loop5 (fun(k:Nat) (v:Value) (o:Ls) (x:Nat) (b:Nat)=>[(3,ptr b3 0),(4,v),(5,encN x),(6,encN b),(14,bv),(15,I (l.length:Int)),(16,I (k:Int))]) (fun(k:Nat) (v:Value) (o:Ls) (x:Nat) (b:Nat) w=>k≤l.length∧(∀j u,l[j]? = some u→j<k→u≠61)∧lrun (l.take k)=(o,x,b)∧∃M,St w0 M0 M [RowI 5 encB v o, .blk b3 (.cells #[I 0,I 0] 27)] w) (fun(k:Nat) (v:Value) (o:Ls) (x:Nat) (b:Nat)=>l.length-k) (0) (_) (_) (0) (0) ⟨rfl,rfl,rfl,rfl,rfl,rfl,rfl,trivial⟩ (⟨by omega,fun _ _ _ h=>absurd h Om,rfl,M0,H⟩) ?_;intro k v o x b w;rintro⟨hk,hb61,hst,M,H⟩;have hb:=hp.mono H.ext.le;have hi:=lrun_inv (l.take k);have hl2:=lrun_len (l.take k);have hl3:(l.take k).length≤l.length:=l2y _ _;rw[hst] at hi hl2;simp only[] at hi hl2;have hx2:2 ^ b≤2 ^ 6:=l1f Dc hi.1.1;refine SQ (RG ?_);refine q0a (q0q G G) (q00 G) G G (fun h6_0=>?_) (fun h6_0=>?_)
   · obtain⟨u,hu⟩ :∃u,l[k]? = some u:=⟨_,List.getElem?_eq_getElem Om⟩
     refine NL (TN (SQ (CT G (SK (TN (SQ (BL (SQ (RG (q1m Tu88 Ts5 (by assumption) G G (hu) (q00 G) G ?_))))))))));intro p18 hc18;first|refine q03 (q07 H rfl (by assumption) Ta5) (q00 rfl) rfl rfl ?_|refine q03 (XL H Ta5) (q00 rfl) rfl rfl ?_
     refine AS G G (NL (TN (SQ (SQ (RG (MV G G ?_))))));refine q0a (q0e G G) (q00 G) G G (fun h8_1=>?_) (fun h8_1=>?_)
     · refine NL (TN (CT G (q0r (q06 (WQ.exitOut G (q06 (q06 (q0f (q2d (v) ⟨G,G,trivial⟩ ?_)))))))));refine⟨M,?_⟩;have hlen:lenient l=o:=by rw[lenient,upto61_eq l k hb61 (.inr (by rw[hu];congr 1;exact b_eq.1 h8_1)),hst]
       rw[hlen];exact H
     refine NL (TN (CF G (SK (TN (SQ (RG (WR.litC ty88 Tu5 alpha H G Kf G G (q00 G) G (fun _=>q00 G) G ?_)))))));intro v23 M w H hle hl23;replace hb:=hb.mono hle;replace hc18:=hc18.mono hle;refine MV G G (q05 H (indexByte_spec _ alpha _) G (by assumption) (q00 G) G ?_);intro v25 M w H hle hr25;replace hb:=hb.mono hle;replace hc18:=hc18.mono hle;replace hl23:=hl23.mono hle;obtain rfl:=hr25;rw[indexByte_alpha];refine AS G G (NL (TN (SQ (SQ (RG (MV G G ?_))))));refine q0a (q0q G G) (q00 G) G G (fun h10_1=>?_) (fun h10_1=>?_)
     · refine NL (TN (CT G (q0r (q06 (q0f (TN (RG (ST (q0g G G Om) G ?_))))))));refine MV G G (NL ?_);refine q1K (k+1) (v) (o) (x) (b) ⟨G,G,G,G,G,G,G,trivial⟩ ?_ ?_
       · exact⟨by omega,next61 hb61 hu h8_1,by rw[lrun_next hu,hst,lstep,if_pos h10_1],M,H⟩
       omega
     have hix:=val64_idx (c:=u) Om;refine NL (TN (CF G (SK (TN (SQ (RG (MV G G (ST (Ex.shlN (m:=x) (s:=6) G G (by first|(show _≤64;omega)|(show _≤8;omega)|decide) (by first|omega|(simp;omega))) G ?_))))))));refine q09 (v':=encN (idx u)) (q01 G) (congrArg I hix.1) (q00 G) G G (q09 (v':=encN (x*64+idx u)) (Ex.orN (m:=_) (s:=_) G G Om Om) (congrArg encN (or_six x (idx u) hix.2)) (q00 G) G G ?_);refine MV G G (q09 (v':=encN (b+6)) (q0g G G Om) G (q00 G) G G ?_);refine AS G G (AS G G (NL (TN (SQ (RG (MV G G ?_))))));refine q0a (q0X G G) (q00 G) G G (fun h12_1=>?_) (fun h12_1=>?_)
     · refine NL (TN (CT G (SQ (RG (MV G G (q09 (v':=encN (b+6-8)) (q1o G G Om) (congrArg I Om) (q00 G) G G ?_))))));refine AS G G (NL (TN (SQ (RG (MV G G (MV G G (MV G G (ST (Ex.shrN (m:=_) (s:=_) G G (by first|(show _≤64;omega)|(show _≤8;omega)|decide)) G ?_))))))));refine q09 (v':=encB (UInt8.ofNat ((x*64+idx u) / 2 ^ (b+6-8)))) (q1f Tu3 Tu5 G) (congrArg encB (ub_nat _ (oct_lt x (idx u) b hi.1 hi.2 hix.2 Om))) (q00 G) G G ?_;refine q0N (enc:=encB) ty88 [_] H G Kf (fun _=>G) G G (q00 G) G ?_;intro v43 M w H hle hl43;replace hb:=hb.mono hle;replace hc18:=hc18.mono hle;replace hl23:=hl23.mono hle;refine q0D ty88 (fun _=>G) H G (fun _=>by repeat first|exact .head|apply Upd.tail) G (by assumption) (by first|omega|(simp only[l00,l02,l03,l04,l01];omega)) (by first|(simp only[maxLen];omega)|(simp only[maxLen,l00,l02,l03,l04,l01];omega)) (q00 G) G ?_;intro v44 w H;refine AS G G (NL (TN (RG (MV G G (MV G G ?_)))));obtain⟨P2,hP2⟩ :∃P2,P2=2 ^ (b+6-8):=⟨_,rfl⟩
       have hp2:P2≤16:=by rw[hP2];exact l1f (n:=2) (j:=4) Dc Om
       have hp3:0<P2:=by rw[hP2];exact Nat.two_pow_pos _
       refine q09 (v':=encN P2) (Ex.shlN (m:=1) (s:=b+6-8) G G (by first|(show _≤64;omega)|(show _≤8;omega)|decide) (by first|omega|(simp;omega))) (congrArg encN (by rw[hP2,Nat.one_mul])) (q00 G) G G ?_;refine q09 (v':=encN (P2-1)) (q1o G G Om) (congrArg I Om) (q00 G) G G ?_;refine q09 (v':=encN ((x*64+idx u) % 2 ^ (b+6-8))) (Ex.andN (m:=_) (s:=_) G G Om Om) (congrArg encN (by rw[hP2];exact and_mask _ _)) (q00 G) G G ?_;refine AS G G (NL (IB (TN (RG (ST (q0g G G Om) G ?_)))));refine MV G G (NL ?_);refine q1K (k+1) (v44) (o++[UInt8.ofNat ((x*64+idx u) / 2 ^ (b+6-8))]) (_) (_) ⟨G,G,G,G,G,G,G,trivial⟩ ?_ ?_
       · exact⟨by omega,next61 hb61 hu h8_1,by rw[lrun_next hu,hst,lstep,if_neg h10_1,if_neg (by simp only[];omega)],M,H⟩
       omega
     refine NL (TN (CF G (SK (IB (TN (RG (ST (q0g G G Om) G ?_)))))));refine MV G G (NL ?_);refine q1K (k+1) (v) (o) (_) (_) ⟨G,G,G,G,G,G,G,trivial⟩ ?_ ?_
     · exact⟨by omega,next61 hb61 hu h8_1,by rw[lrun_next hu,hst,lstep,if_neg h10_1,if_pos (by simp only[];omega)],M,H⟩
     omega
   refine NL (TN (SQ (CF G (q0r (q06 (q06 (q0f (q2d (v) ⟨G,G,trivial⟩ ?_))))))));refine⟨M,?_⟩;have hlen:lenient l=o:=by rw[lenient,upto61_eq l k hb61 (.inl Om),hst]
   rw[hlen];exact H
 intro v w;rintro⟨M,H⟩;refine SQ (RG (MV G G (q05 H (none_spec) G (trivial) (q00 G) G ?_)));intro v52 M w H hle hr52;obtain rfl:=hr52;refine AS G G (q0b [_,_] H G G G Ku Ts27 G Kf Kf (q00 G) ?_);intro w H;refine NL (TN (RT ?_));obtain⟨M,hle,hf,H⟩:=H.freezeRow (v:=v) (enc:=encB) (t:=5) Kv;refine q0w G G ⟨_,G,H.loadAgg Km Ta27 Ts27 Kf⟩ H.ext ?_;exact⟨_,G,hf⟩
end Go.Proofs.YtkmjdamkifbddaaGreatDoor
end
section
namespace Go.Proofs.YtkmjdamkifbddaaGreatDoor
open Go Go.RowKit Go.Ph
open Go.Ph.B64
abbrev encG (x:Ls):Value := .agg (x.map encB).toArray
theorem groups_iter (bb:Nat)(v0:Value)(l:Ls)(hs:l.length≤1000000):IterCt Tryz.prog 217 [ptr bb 0] [.blk bb (.cells #[v0] 88)] (fun M=>Bs M v0 l) encG (grps l):=by
 refine⟨enters Tryz.func217 Kr G,fun lid Z Zx hZ hY L0 w0 M0 hz H hp=>calls_of_WC Tryz.func217 G G G ?_⟩;generalize hC:feet ([.blk bb (.cells #[v0] 88)]++L0)=C at H ⊢;simp only[l05,l07] at H;refine BL (q1S (fun(k:Nat) (v:Value) (Lc:List Ph.Item)=>[(0,yv lid),(1,ptr bb 0)]) (fun(k:Nat) (v:Value) (Lc:List Ph.Item) w=>k≤(l.length+2) / 3∧∃M,StX C w0 M0 M (.blk bb (.cells #[v] 88)::Lc) w∧Bs M v (l.drop (3*k))∧Z (grpsTo l k) Lc M) (fun(k:Nat) (v:Value) (Lc:List Ph.Item)=>l.length+2-3*k) (0) (_) (_) ⟨rfl,rfl,trivial⟩ (⟨by omega,M0,H,hp,hz⟩) ?_);intro k v Lc w;rintro⟨hk,M,H,hb,hzc⟩;have hlen:(l.drop (3*k)).length=l.length-3*k:=l01;refine SQ (SQ (RG ?_));first|refine q03 (q07 H rfl (by assumption) Ta88) (q00 rfl) rfl rfl ?_|refine q03 (XL H Ta88) (q00 rfl) rfl rfl ?_
 first|refine q03 (q0M Tu88 (by assumption) rfl) (q00 rfl) rfl rfl ?_|refine q03 (q0K Tu88 H Km rfl) (q00 rfl) rfl rfl ?_|refine q03 (q0A Tu88 rfl) (q00 rfl) rfl rfl ?_
 refine q0a (q0J G G) (q00 G) G G (fun h0_2=>?_) (fun h0_2=>?_)
 · refine NL (TN (CT G (SK (TN (BL (SQ (RG ?_)))))));first|refine q03 (q07 H rfl (by assumption) Ta88) (q00 rfl) rfl rfl ?_|refine q03 (XL H Ta88) (q00 rfl) rfl rfl ?_
   first|refine q03 (q0M Tu88 (by assumption) rfl) (q00 rfl) rfl rfl ?_|refine q03 (q0K Tu88 H Km rfl) (q00 rfl) rfl rfl ?_|refine q03 (q0A Tu88 rfl) (q00 rfl) rfl rfl ?_
   refine q09 (v':=encN (min 3 (l.drop (3*k)).length)) (Ex.min2 G G) (congrArg I Om) (q00 G) G G ?_;refine AS G G (NL (TN (SQ (RG (AS G G (NL (TN (SQ (SQ (RG (MV G G (NL (TN (BL (q1Y (fun(i:Nat)=>[(0,yv lid),(1,ptr bb 0),(3,encN (min 3 (l.drop (3*k)).length)),(4,encN (accN (l.drop (3*k)) i)),(14,I (i:Int))]) (fun(i:Nat) w=>i≤3∧StX C w0 M0 M (.blk bb (.cells #[v] 88)::Lc) w) (fun(i:Nat)=>3-i) (0) ⟨G,G,G,G,G,trivial⟩ (⟨by omega,H⟩) ?_)))))))))))))));intro i w;rintro⟨hi,H⟩;have hac:=accN_lt (l.drop (3*k)) i;have hac2:256 ^ i≤256 ^ 3:=l1f Dc hi;refine SQ (RG ?_);refine q0a (q0q G G) (q00 G) G G (fun h4_0=>?_) (fun h4_0=>?_)
   · refine NL (TN (SQ (CT G (SK (TN (SQ (BL (SQ (RG (MV G G (AS G G (NL (TN (SQ (RG (MV G G (q09 (v':=encN (accN (l.drop (3*k)) i*256)) (Ex.shlN (m:=accN (l.drop (3*k)) i) (s:=8) G G (by first|(show _≤64;omega)|(show _≤8;omega)|decide) (by first|omega|(simp;omega))) G (q00 G) G G ?_)))))))))))))))));refine AS G G (NL (TN (SQ (RG (MV G G (MV G G ?_))))));refine q0a (q0q G G) (q00 G) G G (fun h7_2=>?_) (fun h7_2=>?_)
     · obtain⟨u,hu⟩ :∃u,(l.drop (3*k))[i]? = some u:=⟨_,List.getElem?_eq_getElem Om⟩
       have hult:=u.toNat_lt;refine NL (TN (CT G (RG (MV G G ?_))));first|refine q03 (q07 H rfl (by assumption) Ta88) (q00 rfl) rfl rfl ?_|refine q03 (XL H Ta88) (q00 rfl) rfl rfl ?_
       refine MV G G (q1m Tu88 Ts5 (by assumption) G G (hu) (q00 G) G ?_);intro p25 hc25;first|refine q03 (q07 H rfl (by assumption) Ta5) (q00 rfl) rfl rfl ?_|refine q03 (XL H Ta5) (q00 rfl) rfl rfl ?_
       first|refine q03 (q1r Tu5 Tu3 rfl) (q00 rfl) rfl rfl ?_|refine q03 (q1L Tu5 Tu3 rfl Om) (q00 rfl) rfl rfl ?_
       refine q09 (v':=encN (accN (l.drop (3*k)) (i+1))) (Ex.orN (m:=accN (l.drop (3*k)) i*256) (s:=u.toNat) G G Om Om) (congrArg encN (by rw[show accN (l.drop (3*k)) i*256=accN (l.drop (3*k)) i*2 ^ 8 from G,or_eight,accN];simp [l0w,hu])) (q00 G) G G ?_;refine AS G G (NL (IB (TN (RG (ST (q0g G G Om) G ?_)))));refine MV G G (NL ?_);refine q1l (i+1) ⟨G,G,G,G,G,trivial⟩ ?_ ?_
       · exact⟨by omega,H⟩
       omega
     refine NL (TN (CF G (SK (IB (TN (RG (ST (q0g G G Om) G ?_)))))));refine MV G G (NL ?_);refine q1l (i+1) ⟨G,G,G,(congrArg (fun x=>some (encN x)) (accN_out _ _ Om)),G,trivial⟩ ?_ ?_
     · exact⟨by omega,H⟩
     omega
   refine NL (TN (SQ (CF G (q0r (q06 (q06 (q0f (TN (SQ (RG (q0k [_,_,_,_] H Tryz.zeroValue218 G (q00 G) G ?_)))))))))));intro b6 w H;refine NL (TN (SQ (SQ (RG (MV G G (NL (TN (BL ?_))))))));obtain rfl:i=3:=by omega
   refine q1Y (fun(j:Nat)=>[(0,yv lid),(1,ptr bb 0),(3,encN (min 3 (l.drop (3*k)).length)),(4,encN (accN (l.drop (3*k)) 3)),(6,ptr b6 0),(30,I (j:Int))]) (fun(j:Nat) w=>j≤4∧StX C w0 M0 M (.blk b6 (.cells ((outp (l.drop (3*k)) j).map encB).toArray 218) :: .blk bb (.cells #[v] 88)::Lc) w) (fun(j:Nat)=>4-j) (0) ⟨G,G,G,G,G,G,trivial⟩ (⟨by omega,H⟩) ?_;intro j w;rintro⟨hj,H⟩;have hac:=accN_lt (l.drop (3*k)) 3;have hol:(outp (l.drop (3*k)) j).length=4:=rfl;refine SQ (RG ?_);refine q0a (q0q G G) (q00 G) G G (fun h12_0=>?_) (fun h12_0=>?_)
   · refine NL (TN (SQ (CT G (SK (TN (SQ (BL (SQ (RG (MV G G (AS G G (NL (TN (SQ (RG (MV G G (MV G G (MV G G (ST (q1O G G Om) G ?_)))))))))))))))))));refine q09 (v':=I ((18-6*j:Nat):Int)) (q1o G G Om) (congrArg I Om) (q00 G) G G ?_;refine ST (Ex.shrN (m:=_) (s:=_) G G (by first|(show _≤64;omega)|(show _≤8;omega)|decide)) G ?_;have hdv:accN (l.drop (3*k)) 3 / 2 ^ (18-6*j)≤accN (l.drop (3*k)) 3:=Nat.div_le_self _ _;refine q09 (v':=encN (accN (l.drop (3*k)) 3 / 2 ^ (18-6*j) % 64)) (Ex.andN (m:=_) (s:=63) G G Om Om) (congrArg encN (l1U _ 6)) (q00 G) G G ?_;refine q09 (v':=encB (alpha.getD (accN (l.drop (3*k)) 3 / 2 ^ (18-6*j) % 64) 0)) (q1g (l:=alpha) Tu9 G G (List.getElem?_eq_getElem (by rw[alpha_len];omega))) (congrArg encB (by rw[getD_in _ _ _ (by rw[alpha_len];omega)])) (q00 G) G G ?_;refine ST (q2b Tu218 Ts5 G G Om) G ?_;refine q1w (((outp (l.drop (3*k)) j).set j (alpha.getD (accN (l.drop (3*k)) 3 / 2 ^ (18-6*j) % 64) 0)).map encB) H G G Ku (by simp [l2s]) Ts5 (by simp [hol];omega) G G (q00 G) ?_;intro w H;refine NL (TN (SQ (RG (MV G G (MV G G ?_)))));refine q0a (q0J G G) (q00 G) G G (fun h15_2=>?_) (fun h15_2=>?_)
     · refine NL (TN (CT G (RG (MV G G (ST (q2b Tu218 Ts5 G G Om) G ?_)))));refine q1w (((outp (l.drop (3*k)) j).set j 61).map encB) H G G Ku (by simp [l2s];rfl) Ts5 (by simp [hol];omega) G G (q00 G) ?_;intro w H;refine NL (IB (TN (RG (ST (q0g G G Om) G ?_))));refine MV G G (NL ?_);refine q1l (j+1) ⟨G,G,G,G,G,G,trivial⟩ ?_ ?_
       · refine⟨by omega,?_⟩;rw[←outp_set _ _ Om,ch,if_pos Om];exact H
       omega
     refine NL (TN (CF G (SK (IB (TN (RG (ST (q0g G G Om) G ?_)))))));refine MV G G (NL ?_);refine q1l (j+1) ⟨G,G,G,G,G,G,trivial⟩ ?_ ?_
     · refine⟨by omega,?_⟩;rw[←outp_set _ _ Om,ch,if_neg Om];exact H
     omega
   refine NL (TN (SQ (CF G (q0r (q06 (q06 (q0f (TN (SQ (SQ (RG (MV G G ?_))))))))))));first|refine q03 (q0n H rfl Km Tryz.isAgg218 Tryz.sizeOf218 Kf) (q00 rfl) rfl rfl ?_|refine q03 (q1j H rfl (by assumption) Tryz.isAgg218 Tryz.sizeOf218 Kf) (q00 rfl) rfl rfl ?_
   obtain rfl:j=4:=by omega
   have hpre:(grpsTo l k++[outp (l.drop (3*k)) 4]) <+: grps l:=grpsTo_ini l k Om;refine WR.yield (hY _ _ _ _ _ hpre hzc (H.hand (.right (.right (q2i _))))) G G (q00 G) G ?_;rintro en w ⟨M,Lc,Hs,hcase⟩;replace H:=(H.back (.right (.right (q2i _))) Hs).perm l2p;simp only[l05,l07] at H;replace hb:=hb.mono Hs.ext.le;rcases hcase with ⟨rfl,hzc⟩|⟨rfl,hzc⟩
   · refine⟨true,G,?_⟩;refine ST (q1u G) G (NL (TN (CF G (SK (TN (RG ?_))))));first|refine q03 (q07 H rfl (by assumption) Ta88) (q00 rfl) rfl rfl ?_|refine q03 (XL H Ta88) (q00 rfl) rfl rfl ?_
     refine MV G G (WR.sliceSl (i:=min 3 (l.drop (3*k)).length) (j:=(l.drop (3*k)).length) Tu88 Ts5 (by assumption) G (.inl ⟨_,G,G⟩) (.inr ⟨G,G⟩) Om Om (q00 G) G ?_);intro v54 hs54;refine q1e [_] H G G (by first|exact q1v _ _ _|exact Sl.one (by assumption)|exact q1T H Km) Ku Kf Ts88 (by first|decide|(simp;done)|(simp;omega)) (q00 G) ?_;intro w H;refine NL (IB ?_);refine q1a (k+1) (v54) (Lc) ⟨G,G,trivial⟩ ?_ ?_
     · refine⟨by omega,M,H.drop (l0q _ _),?_,?_⟩
       · have:=drop_next l k (min 3 (l.drop (3*k)).length) rfl;rw[l0r (l0e _),this] at hs54;exact hs54
       rw[grpsTo_next];exact hzc
     omega
   refine⟨false,G,?_⟩;refine ST (q28 G) G (NL (TN (CT G (RT ?_))));refine WQ.ret0X G ?_;subst hC;exact⟨_,M,Lc,G,H.drop (by exact(l0q _ _).trans (l0q _ _)), .inr ⟨_,hpre,hzc⟩⟩
 refine NL (TN (CF G (q0r (q06 (q06 (q0f (WQ.end0X G ?_)))))));subst hC;rw[show k=(l.length+2) / 3 by omega] at hzc;exact⟨_,M,Lc,G,H.drop (l0q _ _), .inl hzc⟩
theorem groups_spec (bv:Value)(l:Ls):CtO Tryz.prog 200 [bv] (fun M=>Bs M bv l) (fun r _ its =>∃bb,r = .func (.func 217) #[] #[ptr bb 0]∧its=[.blk bb (.cells #[bv] 88)]):=by
 refine CtO.of Tryz.func200 (enters Tryz.func200 Kr G) G G G ?_;intro w0 M0 H hp;refine SQ (RG (q1C [_] H G (One.cells (by first|exact q1v _ _ _|exact Sl.one (by assumption)|exact q1T H Km)) (q00 G) G ?_));intro b1 w H;refine AS G G (NL (TN (SQ (RG (ST (q2e G) G (AS G G (NL (TN (RT ?_)))))))));refine WQ.ret1O G G H (List.Sublist.refl _) ?_;exact⟨_,G,G⟩
theorem encode_spec (bv:Value)(l:Ls)(hs:l.length≤12000):Ct Tryz.prog 171 [bv] (fun M=>Bs M bv l) (fun r M =>∃v,r = .tuple #[v,fault 0 0]∧Bs M v (encode l)):=by
 refine Ct.ofM Tryz.func171 (enters Tryz.func171 Kr G) G G G ?_;intro w0 M0 H hp;refine SQ (RG (AS G G (q0k [_,_] H Tz27 G (q00 G) G ?_)));intro b3 w H;refine NL (TN (SQ (SQ (RG (MV G G ?_)))));first|refine q03 (q0M Tu88 (by assumption) rfl) (q00 rfl) rfl rfl ?_|refine q03 (q0K Tu88 H Km rfl) (q00 rfl) rfl rfl ?_|refine q03 (q0A Tu88 rfl) (q00 rfl) rfl rfl ?_
 refine q0Z (q0J G G) Om (q00 G) G G ?_;refine NL (TN (CF G (SK (TN (SQ (RG (q0k [_] H Tz88 G (q00 G) G ?_)))))));intro b4 w H;refine NL (TN (SQ (RG (q0k [_] H Tz3 G (q00 G) G ?_))));intro b5 w H;refine q0b [_] H G G G Ku Ts3 G Kf Kf (q00 G) ?_;intro w H;refine NL (TN (SQ (SQ (RG (MV G G ?_)))));replace H:=H.newRow 5 encB;refine WR.callO H (groups_spec _ _) G (by assumption) (q00 G) G ?_;intro v12 M w its H hle hr12;replace hp:=hp.mono hle;obtain⟨bb,rfl,rfl⟩:=hr12;simp only[l05,l07] at H;refine NL (TN (BL ?_));refine WC.rangeFunc H rfl (groups_iter bb bv l Om) (.left (.left (.left (.left (.right .nil))))) (hp) rfl (fun pre Lc _ =>∃v,Lc=[RowI 5 encB v (encRun pre).1, .blk b5 (.cells #[encN (encRun pre).2] 3), .blk b4 (.cells #[v] 88)]) (fun _ _ _ _=>False) (fun _ _ _ _ h _=>h) (⟨_,rfl⟩) ?_ ?_ ?_
 · intro lid rc hrc pre x Lc w M hpre hz H;obtain⟨v,rfl⟩:=hz;have hi4:=ini_len hpre;have hiv:=encRun_inv pre hi4.2.1;have hx4:=hi4.1;refine RG (q0k [_,_,_,_] H Tryz.zeroValue218 G (q00 G) G ?_);intro b6 w H;refine q0b (x.map encB) H G G G Ku Tryz.sizeOf218 (by simp [hx4]) G (by simp;exact fun _ _=>G) (q00 G) ?_;intro w H;refine NL (WQ.begin hrc H Ku ?_);intro w H;refine BL (SQ (SQ (RG ?_)));first|refine q03 (q07 H rfl (by assumption) Ta3) (q00 rfl) rfl rfl ?_|refine q03 (XL H Ta3) (q00 rfl) rfl rfl ?_
   refine q0a (q0e G G) (q00 G) G G (fun h7_1=>?_) (fun h7_1=>?_)
   · refine NL (TN (CT G (SQ (RG ?_))));first|refine q03 (q07 H rfl (by assumption) Ta88) (q00 rfl) rfl rfl ?_|refine q03 (XL H Ta88) (q00 rfl) rfl rfl ?_
     refine q0N (enc:=encB) ty88 [13,10] H G Kf (fun _=>G) G G (q00 G) G ?_;intro v17 M w H hle hl17;refine q0D ty88 (fun _=>G) H G (fun _=>by repeat first|exact .head|apply Upd.tail) G (by assumption) (by first|omega|(simp only[l00,l02,l03,l04,l01];omega)) (by first|(simp only[maxLen];omega)|(simp only[maxLen,l00,l02,l03,l04,l01];omega)) (q00 G) G ?_;intro v18 w H;refine q1e [_] H G G (by first|exact q1v _ _ _|exact Sl.one (by assumption)|exact q1T H Km) Ku Kf Ts88 (by first|decide|(simp;done)|(simp;omega)) (q00 G) ?_;intro w H;refine NL (TN (RG (q0b [_] H G G G Ku Ts3 G Kf Kf (q00 G) ?_)));intro w H;refine NL (TN (SQ (q0E (m:=4) G G H ?_)));intro w H;refine q0G (i:=0) (j:=1) Kr G G ?_ ?_
     · first|refine q03 (q07 H rfl (by assumption) Ta88) (q00 rfl) rfl rfl ?_|refine q03 (XL H Ta88) (q00 rfl) rfl rfl ?_
       refine NA (ON 1 Kr G (q09 (v' := .slice (some ⟨b6,0,none⟩) x.length x.length) (Ex.sliceArr Tu218 Ts5 G) (by rw[hx4]) (q00 G) G G ?_));refine NA (ON 2 Kr G (WR.appendBlk ty88 (fun _=>G) H G (fun _=>by repeat first|exact .head|apply Upd.tail) G Km (by first|omega|(simp only[l00,l02,l03,l04,l01];omega)) (by first|(simp only[maxLen];omega)|(simp only[maxLen,l00,l02,l03,l04,l01];omega)) (q00 G) G ?_));intro v21 w H;refine NA (ON 3 Kr G (q1e [_] H G G (by first|exact q1v _ _ _|exact Sl.one (by assumption)|exact q1T H Km) Ku Kf Ts88 (by first|decide|(simp;done)|(simp;omega)) (q00 G) ?_));intro w H;refine NA (q0h Kr (TN (RG ?_)));first|refine q03 (q07 H rfl (by assumption) Ta3) (q00 rfl) rfl rfl ?_|refine q03 (XL H Ta3) (q00 rfl) rfl rfl ?_
       refine ST (q0g G G Om) G ?_;refine q0b [_] H G G G Ku Ts3 G Kf Kf (q00 G) ?_;intro w H;refine NL (IB ?_);refine WQ.roundOn hrc (H.drop (l0q _ _)) ⟨v21,?_⟩;rw[encRun_next,encStep,if_pos Om];rfl
     refine q09 (v' := .slice (some ⟨b6,0,none⟩) x.length x.length) (Ex.sliceArr Tu218 Ts5 G) (by rw[hx4]) (q00 G) G G ?_;refine NA (ON 0 Kr G ?_);first|refine q03 (q07 H rfl (by assumption) Ta88) (q00 rfl) rfl rfl ?_|refine q03 (XL H Ta88) (q00 rfl) rfl rfl ?_
     refine NA (ON 2 Kr G (WR.appendBlk ty88 (fun _=>G) H G (fun _=>by repeat first|exact .head|apply Upd.tail) G Km (by first|omega|(simp only[l00,l02,l03,l04,l01];omega)) (by first|(simp only[maxLen];omega)|(simp only[maxLen,l00,l02,l03,l04,l01];omega)) (q00 G) G ?_));intro v21 w H;refine NA (ON 3 Kr G (q1e [_] H G G (by first|exact q1v _ _ _|exact Sl.one (by assumption)|exact q1T H Km) Ku Kf Ts88 (by first|decide|(simp;done)|(simp;omega)) (q00 G) ?_));intro w H;refine NA (q0h Kr (TN (RG ?_)));first|refine q03 (q07 H rfl (by assumption) Ta3) (q00 rfl) rfl rfl ?_|refine q03 (XL H Ta3) (q00 rfl) rfl rfl ?_
     refine ST (q0g G G Om) G ?_;refine q0b [_] H G G G Ku Ts3 G Kf Kf (q00 G) ?_;intro w H;refine NL (IB ?_);refine WQ.roundOn hrc (H.drop (l0q _ _)) ⟨v21,?_⟩;rw[encRun_next,encStep,if_pos Om];rfl
   refine NL (TN (CF G (SK (TN (SQ (q0E (m:=4) G G H ?_))))));intro w H;refine q0G (i:=0) (j:=1) Kr G G ?_ ?_
   · first|refine q03 (q07 H rfl (by assumption) Ta88) (q00 rfl) rfl rfl ?_|refine q03 (XL H Ta88) (q00 rfl) rfl rfl ?_
     refine NA (ON 1 Kr G (q09 (v' := .slice (some ⟨b6,0,none⟩) x.length x.length) (Ex.sliceArr Tu218 Ts5 G) (by rw[hx4]) (q00 G) G G ?_));refine NA (ON 2 Kr G (WR.appendBlk ty88 (fun _=>G) H G (fun _=>by repeat first|exact .head|apply Upd.tail) G Km (by first|omega|(simp only[l00,l02,l03,l04,l01];omega)) (by first|(simp only[maxLen];omega)|(simp only[maxLen,l00,l02,l03,l04,l01];omega)) (q00 G) G ?_));intro v21 w H;refine NA (ON 3 Kr G (q1e [_] H G G (by first|exact q1v _ _ _|exact Sl.one (by assumption)|exact q1T H Km) Ku Kf Ts88 (by first|decide|(simp;done)|(simp;omega)) (q00 G) ?_));intro w H;refine NA (q0h Kr (TN (RG ?_)));first|refine q03 (q07 H rfl (by assumption) Ta3) (q00 rfl) rfl rfl ?_|refine q03 (XL H Ta3) (q00 rfl) rfl rfl ?_
     refine ST (q0g G G Om) G ?_;refine q0b [_] H G G G Ku Ts3 G Kf Kf (q00 G) ?_;intro w H;refine NL (IB ?_);refine WQ.roundOn hrc (H.drop (l0q _ _)) ⟨v21,?_⟩;rw[encRun_next,encStep,if_neg Om];rfl
   refine q09 (v' := .slice (some ⟨b6,0,none⟩) x.length x.length) (Ex.sliceArr Tu218 Ts5 G) (by rw[hx4]) (q00 G) G G ?_;refine NA (ON 0 Kr G ?_);first|refine q03 (q07 H rfl (by assumption) Ta88) (q00 rfl) rfl rfl ?_|refine q03 (XL H Ta88) (q00 rfl) rfl rfl ?_
   refine NA (ON 2 Kr G (WR.appendBlk ty88 (fun _=>G) H G (fun _=>by repeat first|exact .head|apply Upd.tail) G Km (by first|omega|(simp only[l00,l02,l03,l04,l01];omega)) (by first|(simp only[maxLen];omega)|(simp only[maxLen,l00,l02,l03,l04,l01];omega)) (q00 G) G ?_));intro v21 w H;refine NA (ON 3 Kr G (q1e [_] H G G (by first|exact q1v _ _ _|exact Sl.one (by assumption)|exact q1T H Km) Ku Kf Ts88 (by first|decide|(simp;done)|(simp;omega)) (q00 G) ?_));intro w H;refine NA (q0h Kr (TN (RG ?_)));first|refine q03 (q07 H rfl (by assumption) Ta3) (q00 rfl) rfl rfl ?_|refine q03 (XL H Ta3) (q00 rfl) rfl rfl ?_
   refine ST (q0g G G Om) G ?_;refine q0b [_] H G G G Ku Ts3 G Kf Kf (q00 G) ?_;intro w H;refine NL (IB ?_);refine WQ.roundOn hrc (H.drop (l0q _ _)) ⟨v21,?_⟩;rw[encRun_next,encStep,if_neg Om];rfl
 · intro Dm w M Lc H hle hz;obtain⟨v,rfl⟩:=hz;simp only[l05,l07] at H;have hiv:=encRun_inv (grps l) (grps_all l);have hgl:=grps_len l;refine IB (TN (SQ (SQ (RG ?_))));first|refine q03 (q07 H rfl (by assumption) Ta3) (q00 rfl) rfl rfl ?_|refine q03 (XL H Ta3) (q00 rfl) rfl rfl ?_
   refine q0a (q0J G G) (q00 G) G G (fun h12_1=>?_) (fun h12_1=>?_)
   · refine NL (TN (CT G (RG ?_)));first|refine q03 (q07 H rfl (by assumption) Ta88) (q00 rfl) rfl rfl ?_|refine q03 (XL H Ta88) (q00 rfl) rfl rfl ?_
     refine q0N (enc:=encB) ty88 [13,10] H G Kf (fun _=>G) G G (q00 G) G ?_;intro v27 M w H hle hl27;refine q0D ty88 (fun _=>G) H G (fun _=>by repeat first|exact .head|apply Upd.tail) G (by assumption) (by first|omega|(simp only[l00,l02,l03,l04,l01];omega)) (by first|(simp only[maxLen];omega)|(simp only[maxLen,l00,l02,l03,l04,l01];omega)) (q00 G) G ?_;intro v28 w H;refine q1e [_] H G G (by first|exact q1v _ _ _|exact Sl.one (by assumption)|exact q1T H Km) Ku Kf Ts88 (by first|decide|(simp;done)|(simp;omega)) (q00 G) ?_;intro w H;refine NL (TN (SQ (q0E (m:=4) G G H ?_)));intro w H;refine q0G (i:=0) (j:=1) Kr G G ?_ ?_
     · first|refine q03 (q07 H rfl (by assumption) Ta88) (q00 rfl) rfl rfl ?_|refine q03 (XL H Ta88) (q00 rfl) rfl rfl ?_
       refine NA (ON 1 Kr G (q05 H (none_spec) G (trivial) (q00 G) G ?_));intro v30 M w H hle hr30;replace hl27:=hl27.mono hle;obtain rfl:=hr30;refine NA (ON 2 Kr G (AS G G (NA (ON 3 Kr G (q0b [_,_] H G G G Ku Ts27 G Kf Kf (q00 G) ?_)))));intro w H;refine NA (q0h Kr (TN (RT ?_)));obtain⟨M,hle,hf,H⟩:=H.freezeRow (v:=v28) (enc:=encB) (t:=5) Kv;refine WQ.retM1 H Kv ?_;intro w H;refine⟨_,resv_run2 G G ⟨_,G,H.loadAgg Km Ta27 Ts27 Kf⟩,_,_,G,H.ext,?_⟩;refine⟨_,G,?_⟩;rw[encode,if_pos Om];exact hf
     refine q05 H (none_spec) G (trivial) (q00 G) G ?_;intro v30 M w H hle hr30;replace hl27:=hl27.mono hle;obtain rfl:=hr30;refine NA (ON 0 Kr G ?_);first|refine q03 (q07 H rfl (by assumption) Ta88) (q00 rfl) rfl rfl ?_|refine q03 (XL H Ta88) (q00 rfl) rfl rfl ?_
     refine NA (ON 2 Kr G (AS G G (NA (ON 3 Kr G (q0b [_,_] H G G G Ku Ts27 G Kf Kf (q00 G) ?_)))));intro w H;refine NA (q0h Kr (TN (RT ?_)));obtain⟨M,hle,hf,H⟩:=H.freezeRow (v:=v28) (enc:=encB) (t:=5) Kv;refine WQ.retM1 H Kv ?_;intro w H;refine⟨_,resv_run2 G G ⟨_,G,H.loadAgg Km Ta27 Ts27 Kf⟩,_,_,G,H.ext,?_⟩;refine⟨_,G,?_⟩;rw[encode,if_pos Om];exact hf
   refine NL (TN (CF G (SK (TN (SQ (q0E (m:=4) G G H ?_))))));intro w H;refine q0G (i:=0) (j:=1) Kr G G ?_ ?_
   · first|refine q03 (q07 H rfl (by assumption) Ta88) (q00 rfl) rfl rfl ?_|refine q03 (XL H Ta88) (q00 rfl) rfl rfl ?_
     refine NA (ON 1 Kr G (q05 H (none_spec) G (trivial) (q00 G) G ?_));intro v30 M w H hle hr30;obtain rfl:=hr30;refine NA (ON 2 Kr G (AS G G (NA (ON 3 Kr G (q0b [_,_] H G G G Ku Ts27 G Kf Kf (q00 G) ?_)))));intro w H;refine NA (q0h Kr (TN (RT ?_)));obtain⟨M,hle,hf,H⟩:=H.freezeRow (v:=v) (enc:=encB) (t:=5) Kv;refine WQ.retM1 H Kv ?_;intro w H;refine⟨_,resv_run2 G G ⟨_,G,H.loadAgg Km Ta27 Ts27 Kf⟩,_,_,G,H.ext,?_⟩;refine⟨_,G,?_⟩;rw[encode,if_neg Om];exact hf
   refine q05 H (none_spec) G (trivial) (q00 G) G ?_;intro v30 M w H hle hr30;obtain rfl:=hr30;refine NA (ON 0 Kr G ?_);first|refine q03 (q07 H rfl (by assumption) Ta88) (q00 rfl) rfl rfl ?_|refine q03 (XL H Ta88) (q00 rfl) rfl rfl ?_
   refine NA (ON 2 Kr G (AS G G (NA (ON 3 Kr G (q0b [_,_] H G G G Ku Ts27 G Kf Kf (q00 G) ?_)))));intro w H;refine NA (q0h Kr (TN (RT ?_)));obtain⟨M,hle,hf,H⟩:=H.freezeRow (v:=v) (enc:=encB) (t:=5) Kv;refine WQ.retM1 H Kv ?_;intro w H;refine⟨_,resv_run2 G G ⟨_,G,H.loadAgg Km Ta27 Ts27 Kf⟩,_,_,G,H.ext,?_⟩;refine⟨_,G,?_⟩;rw[encode,if_neg Om];exact hf
 intro Dm w M Lc c pre H hle hpre hz;exact hz.elim
end Go.Proofs.YtkmjdamkifbddaaGreatDoor
end
section
namespace Go.Ph.Pl
theorem drop_cons {α:Type}{l:List α}{i:Nat}(h:i<l.length):l.drop i=l[i]::l.drop (i+1):=l09 h
theorem scanL {α β:Type}(L:Nat→Int→Option β)(l:List α)(p:α→Bool)(stop r:β)(hend :∀m,L (m+1) (l.length:Int)=some stop)
 (hstep :∀m i (h:i<l.length),L (m+1) (i:Int)=if p l[i]=true then some r else L m ((i+1:Nat):Int)) :
 ∀(k i m:Nat),l.length-i≤k→k<m→i≤l.length→L m (i:Int)=some (if (l.drop i).any p=true then r else stop)
 | 0,i,m,h1,h2,h3=>by
   obtain⟨m,rfl⟩ :∃k,m=k+1:=⟨m-1,by omega⟩
   obtain rfl:i=l.length:=by omega
   rw[hend,l0O];rfl
 | k + 1,i,m,h1,h2,h3=>by
   obtain⟨m,rfl⟩ :∃k,m=k+1:=⟨m-1,by omega⟩
   by_cases hi:i<l.length
   · rw[hstep m i hi,drop_cons hi,l0Y];by_cases hp:p l[i]=true
     · rw[if_pos hp,hp];rfl
     rw[if_neg hp,scanL L l p stop r hend hstep k (i+1) m Om Om Om];have:p l[i]=false:=by simpa using hp
     rw[this];rfl
   obtain rfl:i=l.length:=by omega
   rw[hend,l0O];rfl
theorem scan0 {α β:Type}{L:Nat→Int→Option β}{l:List α}{p:α→Bool}{stop r:β}{m:Nat}(hm:l.length<m)(hend :∀m,L (m+1) (l.length:Int)=some stop)
 (hstep :∀m i (h:i<l.length),L (m+1) (i:Int)=if p l[i]=true then some r else L m ((i+1:Nat):Int)):L m 0=some (if l.any p=true then r else stop):=by
 have:=scanL L l p stop r hend hstep l.length 0 m Om hm Om;simpa using this
theorem FU_gt {n:Nat}(h:n≤9223372036854775807):n<FU:=by rw[FU_eq];omega
end Go.Ph.Pl
end
section
namespace Go.Ph.Pf
open Go.Ph.Pl
def Y0Q (p0:Ls):Option Bool :=
 if p0.length≤4611686018427387904 then some (Chs.vld p0) else none
def R_Valid (p0:Ls):Option Bool :=
 if p0.length≤4611686018427387904 then some (Chs.vld p0) else none
def Y3q (p0:Ls):Option Ls :=
 if p0.length≤9223372036854775807 then some (Chs.lower p0) else none
def R_Lower (p0:Ls):Option Ls :=
 if p0.length≤9223372036854775807 then some (Chs.lower p0) else none
def R_SetOf (p0:Ls):Option Int :=
 if p0.length≤9223372036854775807 then some (match Chs.setOf p0 with|some k=>(k:Int)|none => -1) else none
def Y2t (p0:Ls)(p1:Ls):Option (Ls × (Int × Int)) :=
 if p0.length≤9223372036854775807∧p1.length≤12000 then(match Chs.setOf p0 with|some k=>some (Chs.decoded k p1,(0,0))|none=>some ([],(18,-2))) else none
def Y44 (p0:Int)(p1:Ls):Option Ls :=
 if 0≤p0∧p0<4∧p1.length≤1048576 then some (Chs.decoded p0.toNat p1) else none
def Y45 (p0:Int)(p1:Ls):Option (Ls × Int) :=
 if 0≤p0∧p0<4∧p1.length≤1048576∧Chs.vld p1=true then(match Chs.encGo (Chs.encK p0.toNat) (Gr.chars p1) 0 with | .ok b=>some (b,-1) | .error e=>some ([],(e:Int))) else none
def Y3j (p0:Ls):Option (Ls × (Int × Int)) :=
 if p0.length≤12000 then some (B64.encode p0,(0,0)) else none
def Y36 (p0:Ls):Option (Ls × (Int × Int)) :=
 if p0.length≤24000 then some (B64.lenient p0,(0,0)) else none
def Y3J (p0:Ls):Option Ls :=
 if p0.length≤1000000 then some (B64.chars64 p0) else none
def Y4r (p0:Ls):Option Ls :=
 if p0.length≤1000000 then some (B64.loose64 p0) else none
def Y0z (p0:Ls)(p1:UInt8):Option Int :=
 some (ixB p0 p1)
def Y0t (p0:List Ls)(p1:Ls):Option Ls :=
 if p0.length≤140737488355328∧(jn p1 p0).length≤140737488355328 then some (jn p1 p0) else none
def Y1U (p0:Ls)(p1:Ls)(p2:Int):Option (List Ls) :=
 if p0.length<4294967281∧1≤p1.length∧1≤p2∧p2≤9223372036854775807 then some (Lib.splitN p0 p1 p2.toNat) else none
def Y10 (p0:Ls)(p1:Ls)(p2:Ls):Option Ls :=
 if p0.length<4294967281∧1≤p1.length∧p0.length+p0.length*p2.length≤140737488355328 then some (Lib.replaceAll p0 p1 p2) else none
def Y1s (p0:Ls)(p1:Ls):Option Bool :=
 if p0.length<4294967281 then some (Lib.contains p0 p1) else none
def Y1P (p0:Ls)(p1:Ls):Option Int :=
 if p0.length<4294967281 then some (Lib.index p0 p1) else none
def Y07 (p0:Int)(p1:Int):Option (Int × Int) :=
 some (p0,p1)
def Y0X (p0:Ls)(p1:Ls):Option Bool :=
 ((if (p1.length:Int)≤(p0.length:Int) then(cut p0 0 (p1.length:Int)).bind fun s5=>some (decide (s5=p1)) else some false)).bind fun b3=>some b3
def Y0L (p0:Ls)(p1:Ls):Option Bool :=
 (Y0X p0 p1).bind fun b1=>some b1
def Y0J (p0:Ls)(p1:Ls):Option Bool :=
 ((if (p1.length:Int)≤(p0.length:Int) then(chk ((p0.length:Int)-(p1.length:Int))).bind fun n5=>(cut p0 n5 (p0.length:Int)).bind fun s6=>some (decide (s6=p1)) else some false)).bind fun b3=>some b3
def Y1d (p0:Ls)(p1:Ls):Option Bool :=
 (Y0J p0 p1).bind fun b1=>some b1
def Y1C (p0:Ls):Nat→Int→Option (Unit ⊕ Bool)
 | 0,_=>none
 | m4+1,n3=>(if n3<(p0.length:Int) then((idx p0 n3).bind fun c9=>(if c9.toNat<32 then some true else(idx p0 n3).bind fun c11=>some (decide (126<c11.toNat)))).bind fun b8=>(if b8=true then some (.inr false) else(chk (n3+1)).bind fun n14=>Y1C p0 m4 n14) else some (.inl ()))
def Y2U (p0:Ls):Option Bool :=
 ((Y1C p0 FU 0:Option (Unit ⊕ Bool))).bind fun o27=>(match o27 with | .inl _=>((Y0L p0 [32]).bind fun b19=>(if b19=true then some false else(Y1d p0 [32]).bind fun b21=>(if b21=true then some false else(Y1s p0 [61,63]).bind fun b23=>some (!b23)))).bind fun b18=>some b18 | .inr r26=>some r26)
def Y0I  : Option (Int × Int) :=
 some (0,0)
def Y3o (p0:Ls):Option Ls :=
 (Y3j p0).bind fun(l1,(n2,n3))=>(Y10 l1 [13,10] []).bind fun s5=>some s5
def Y0p (p0:Ls)(p1:UInt8):Option (Bool × Ls) :=
 (app 1 p0 ([p1]:Ls)).bind fun l2=>some (true,l2)
def Y1Q (p0:UInt8):Option Bool :=
 ((if 97≤p0.toNat then(if p0.toNat≤122 then some true else(if 65≤p0.toNat then(if p0.toNat≤90 then some true else(if 48≤p0.toNat then some (decide (p0.toNat≤57)) else some false)) else(if 48≤p0.toNat then some (decide (p0.toNat≤57)) else some false))) else(if 65≤p0.toNat then(if p0.toNat≤90 then some true else(if 48≤p0.toNat then some (decide (p0.toNat≤57)) else some false)) else(if 48≤p0.toNat then some (decide (p0.toNat≤57)) else some false)))).bind fun b3=>some b3
def Y1M (p0:Ls):Option Ls :=
 some p0
def Y3K (p0:UInt8):Option (UInt8 × Bool) :=
 ((if 48≤p0.toNat then some (decide (p0.toNat≤57)) else some false)).bind fun b3=>(if b3=true then some ((p0-(48:UInt8)),true) else((if 65≤p0.toNat then some (decide (p0.toNat≤70)) else some false)).bind fun b9=>(if b9=true then some (((p0-(65:UInt8))+(10:UInt8)),true) else((if 97≤p0.toNat then some (decide (p0.toNat≤102)) else some false)).bind fun b15=>(if b15=true then some (((p0-(97:UInt8))+(10:UInt8)),true) else some (0,false))))
def Y2X (p0:Ls):Option (UInt8 × Bool) :=
 (if (p0.length:Int)<(2:Int) then some (0,false) else(idx p0 0).bind fun c2=>(Y3K c2).bind fun(c3,b4)=>(idx p0 1).bind fun c6=>(Y3K c6).bind fun(c7,b8)=>((if b4=true then some (((UInt8.ofNat (c3.toNat*2 ^ 4)) ||| c7),b8) else some (((UInt8.ofNat (c3.toNat*2 ^ 4)) ||| c7),false))).bind fun(c12,b13)=>some (c12,b13))
def Y0R (p1:Ls):Nat→Ls→Int→Option (Ls ⊕ (Ls × Bool))
 | 0,_,_=>none
 | m29+1,l26,n28=>(if n28<(p1.length:Int) then(idx p1 n28).bind fun c32=>(if c32=95 then(app 1 l26 ([32]:Ls)).bind fun l34=>(chk (n28+1)).bind fun n35=>Y0R p1 m29 l34 n35 else(idx p1 n28).bind fun c36=>(if c36=61 then(chk (n28+1)).bind fun n38=>(cut p1 n38 (p1.length:Int)).bind fun s39=>(Y2X s39).bind fun(c40,b41)=>(if b41=true then(app 1 l26 ([c40]:Ls)).bind fun l44=>(chk (n28+2)).bind fun n45=>(chk (n45+1)).bind fun n46=>Y0R p1 m29 l44 n46 else some (.inr ([],false))) else((idx p1 n28).bind fun c50=>(if 33≤c50.toNat then(idx p1 n28).bind fun c52=>some (decide (c52.toNat≤126)) else some false)).bind fun b49=>(if b49=true then(idx p1 n28).bind fun c55=>(app 1 l26 ([c55]:Ls)).bind fun l56=>(chk (n28+1)).bind fun n57=>Y0R p1 m29 l56 n57 else some (.inr ([],false))))) else some (.inl l26))
def Y2M (p0:Ls)(p1:Ls):Option (Ls × Bool) :=
 ((if p0=[66] then some (decide (p0=[66])) else some (decide (p0=[98])))).bind fun b3=>(if b3=true then(toB p1).bind fun l7=>(Y36 l7).bind fun(l8,(n9,n10))=>(Y3o l8).bind fun s12=>some (l8,decide (s12=p1)) else((if p0=[81] then some (decide (p0=[81])) else some (decide (p0=[113])))).bind fun b16=>(if b16=true then((Y0R p1 FU [] 0:Option (Ls ⊕ (Ls × Bool)))).bind fun o61=>(match o61 with | .inl l23=>some (l23,true) | .inr r60=>some r60) else some ([],false)))
def Y1k (p0:(Int × Int)):Option Bool :=
 some (!decide (p0.1=(0:Int)))
def Y2n (p0:Ls):Option (Ls × Int × Bool) :=
 (Y0L p0 [61,63]).bind fun b1=>(if b1=true then(cut p0 2 (min (p0.length:Int) 75)).bind fun s4=>(Y1U s4 [63] 4).bind fun l5=>((if (l5.length:Int)<(4:Int) then some true else(idx l5 3).bind fun a11=>(Y0L a11 [61]).bind fun b12=>some (!b12))).bind fun b9=>(if b9=true then some ([],0,false) else(idx l5 1).bind fun a16=>(idx l5 2).bind fun a17=>(Y2M a16 a17).bind fun(l18,b19)=>(idx l5 0).bind fun a21=>(Y2t a21 l18).bind fun(s22,(n23,n24))=>((idx l5 0).bind fun a31=>(chk ((2:Int)+(a31.length:Int))).bind fun n32=>(idx l5 1).bind fun a33=>(chk (n32+(a33.length:Int))).bind fun n34=>(idx l5 2).bind fun a35=>(chk (n34+(a35.length:Int))).bind fun n36=>(chk (n36+4)).bind fun n37=>(if b19=true then(Y1k (n23,n24)).bind fun b38=>some (s22,n37,!b38) else some (s22,n37,false))).bind fun(s28,n29,b30)=>some (s28,n29,b30)) else some ([],0,false))
def Y1e (p0:UInt8):Option Bool :=
 ((if p0=32 then some true else some (decide (p0=9)))).bind fun b3=>some b3
def Y08 (p0:Ls)(p1:Ls):Option (Int × Bool × Ls) :=
 (app 1 p0 p1).bind fun l2=>some ((p1.length:Int),true,l2)
def Y04 (p0:Ls):Nat→Ls→Int→Int→Option (Ls × Int)
 | 0,_,_,_=>none
 | m20+1,l16,n18,n19=>(if n19<(p0.length:Int) then(cut p0 n19 (p0.length:Int)).bind fun s23=>(Y2n s23).bind fun(s24,n25,b26)=>(if b26=true then(Y08 l16 s24).bind fun(n67,b68,l69)=>(chk (n19+n25)).bind fun n71=>Y04 p0 m20 l69 n71 n71 else((if n18<(0:Int) then(idx p0 n19).bind fun c37=>(Y0p l16 c37).bind fun(b38,l39)=>some l39 else some l16)).bind fun l34=>((if (0:Int)≤n18 then(idx p0 n19).bind fun c46=>(Y1e c46).bind fun b47=>some (!b47) else some false)).bind fun b44=>((if b44=true then(chk (n19+1)).bind fun n59=>(cut p0 n18 n59).bind fun s60=>(Y08 l34 s60).bind fun(n61,b62,l63)=>some (l63,(-1)) else some (l34,n18))).bind fun(l55,n57)=>(chk (n19+1)).bind fun n66=>Y04 p0 m20 l55 n57 n66) else some (l16,n18))
def Y1l (p0:Ls):Option (Ls × (Int × Int)) :=
 (if (4000:Int)<(p0.length:Int) then(Y07 1 (-1)).bind fun(n2,n3)=>some ([],(n2,n3)) else(Y04 p0 FU [] (-1) 0).bind fun(l10,n12)=>((if (0:Int)≤n12 then(cut p0 n12 (p0.length:Int)).bind fun s81=>(Y08 l10 s81).bind fun(n82,b83,l84)=>some l84 else some l10)).bind fun l78=>(Y1M l78).bind fun s87=>(Y0I).bind fun(n89,n90)=>some (s87,(n89,n90)))
def R_At (p0:Int)(p1:Int):Option (Int × Int) :=
 some (p0,p1)
def R_In (p0:Int)(p1:Int)(p2:Int):Option Bool :=
 ((if p1≤p0 then some (decide (p0≤p2)) else some false)).bind fun b3=>some b3
def Y39 (p0:Ls)(p1:Ls):Nat→Int→Option (Unit ⊕ Int)
 | 0,_=>none
 | m4+1,n3=>(chk (n3+(p1.length:Int))).bind fun n5=>(if n5≤(p0.length:Int) then(chk (n3+(p1.length:Int))).bind fun n7=>(cut p0 n3 n7).bind fun s8=>(if s8=p1 then some (.inr n3) else(chk (n3+1)).bind fun n10=>Y39 p0 p1 m4 n10) else some (.inl ()))
def R_Find (p0:Ls)(p1:Ls)(p2:Int):Option Int :=
 ((Y39 p0 p1 FU p2:Option (Unit ⊕ Int))).bind fun o13=>(match o13 with | .inl _=>some (-1) | .inr r12=>some r12)
def R_Two (p0:UInt8):Option Ls :=
 (cut [48,49,50,51,52,53,54,55,56,57,65,66,67,68,69,70] ((UInt8.ofNat (p0.toNat / 16)).toNat:Int) (((UInt8.ofNat (p0.toNat / 16))+(1:UInt8)).toNat:Int)).bind fun s1=>(cut [48,49,50,51,52,53,54,55,56,57,65,66,67,68,69,70] ((UInt8.ofNat (p0.toNat % 16)).toNat:Int) (((UInt8.ofNat (p0.toNat % 16))+(1:UInt8)).toNat:Int)).bind fun s2=>(cat s1 s2).bind fun s3=>some s3
def Y3a (l3:Ls):Nat→Ls→Int→Option Ls
 | 0,_,_=>none
 | m18+1,s16,n17=>(if n17<(l3.length:Int) then(idx l3 n17).bind fun c20=>(if (c20.toNat:Int)=(32:Int) then(cat s16 [95]).bind fun s22=>(chk (n17+1)).bind fun n23=>Y3a l3 m18 s22 n23 else((R_In (c20.toNat:Int) 48 57).bind fun b27=>(if b27=true then some true else(R_In (c20.toNat:Int) 65 90).bind fun b29=>(if b29=true then some true else(R_In (c20.toNat:Int) 97 122).bind fun b31=>some b31))).bind fun b26=>(if b26=true then(idx l3 n17).bind fun c35=>(cat s16 ([c35]:Ls)).bind fun s36=>(chk (n17+1)).bind fun n37=>Y3a l3 m18 s36 n37 else(cat s16 [61]).bind fun s38=>(idx l3 n17).bind fun c39=>(R_Two c39).bind fun s40=>(cat s38 s40).bind fun s42=>(chk (n17+1)).bind fun n43=>Y3a l3 m18 s42 n43)) else some s16)
def R_Word (p0:Ls)(p1:Ls):Option Ls :=
 (R_SetOf p0).bind fun n1=>(Y45 n1 p1).bind fun(l3,n4)=>(if p0=[117,116,102,56] then(Y3J l3).bind fun s7=>(cat [61,63,117,116,102,56,63,66,63] s7).bind fun s9=>(cat s9 [63,61]).bind fun s10=>some s10 else(cat [61,63] p0).bind fun s11=>(cat s11 [63,81,63]).bind fun s12=>(Y3a l3 FU s12 0).bind fun s15=>(cat s15 [63,61]).bind fun s45=>some s45)
def Y3M (s4:Ls)(l6:List Ls):Nat→Int→Ls→Option (Int × Ls)
 | 0,_,_=>none
 | m23+1,n21,s22=>((if n21<(l6.length:Int) then(idx l6 n21).bind fun a28=>(cat s22 a28).bind fun s29=>(R_Word s4 s29).bind fun s30=>some (decide ((s30.length:Int)≤(75:Int))) else some false)).bind fun b26=>(if b26=true then(idx l6 n21).bind fun a34=>(cat s22 a34).bind fun s35=>(chk (n21+1)).bind fun n36=>Y3M s4 l6 m23 n36 s35 else some (n21,s22))
def Y2Y (s4:Ls)(l6:List Ls):Nat→Ls→Int→Option Ls
 | 0,_,_=>none
 | m13+1,s11,n12=>(if n12<(l6.length:Int) then(idx l6 n12).bind fun a15=>(chk (n12+1)).bind fun n16=>(Y3M s4 l6 FU n16 a15).bind fun(n19,s20)=>((if s11=[] then some s11 else(cat s11 [32]).bind fun s42=>some s42)).bind fun s40=>(R_Word s4 s20).bind fun s44=>(cat s40 s44).bind fun s46=>Y2Y s4 l6 m13 s46 n19 else some s11)
def Y4s (p0:UInt8):Nat→Int→Option (Unit ⊕ Int)
 | 0,_=>none
 | m4+1,n3=>(if n3<(16:Int) then((idx [48,49,50,51,52,53,54,55,56,57,65,66,67,68,69,70] n3).bind fun c9=>(if c9=p0 then some true else(R_Lower [48,49,50,51,52,53,54,55,56,57,65,66,67,68,69,70]).bind fun s11=>(idx s11 n3).bind fun c13=>some (decide (c13=p0)))).bind fun b8=>(if b8=true then some (.inr n3) else(chk (n3+1)).bind fun n16=>Y4s p0 m4 n16) else some (.inl ()))
def R_Hex (p0:UInt8):Option Int :=
 ((Y4s p0 FU 0:Option (Unit ⊕ Int))).bind fun o19=>(match o19 with | .inl _=>some (-1) | .inr r18=>some r18)
def Y1K (s37:Ls):Nat→Ls→Int→Option (Ls ⊕ (Ls × Int))
 | 0,_,_=>none
 | m61+1,l58,n60=>(if n60<(s37.length:Int) then(idx s37 n60).bind fun c64=>(if c64=95 then(app 1 l58 ([32]:Ls)).bind fun l66=>(chk (n60+1)).bind fun n67=>Y1K s37 m61 l66 n67 else((if c64=61 then(chk (n60+2)).bind fun n72=>(if n72<(s37.length:Int) then(chk (n60+1)).bind fun n74=>(idx s37 n74).bind fun c75=>(R_Hex c75).bind fun n76=>(if (0:Int)≤n76 then(chk (n60+2)).bind fun n79=>(idx s37 n79).bind fun c80=>(R_Hex c80).bind fun n81=>some (decide ((0:Int)≤n81)) else some false) else some false) else some false)).bind fun b70=>(if b70=true then(chk (n60+1)).bind fun n85=>(idx s37 n85).bind fun c86=>(R_Hex c86).bind fun n87=>(chk ((16:Int)*n87)).bind fun n89=>(chk (n60+2)).bind fun n90=>(idx s37 n90).bind fun c91=>(R_Hex c91).bind fun n92=>(chk (n89+n92)).bind fun n94=>(app 1 l58 ([(ub8 n94)]:Ls)).bind fun l95=>(chk (n60+2)).bind fun n96=>(chk (n96+1)).bind fun n97=>Y1K s37 m61 l95 n97 else((if c64=61 then some true else(R_In (c64.toNat:Int) 33 126).bind fun b102=>some (!b102))).bind fun b100=>(if b100=true then some (.inr ([],0)) else(app 1 l58 ([c64]:Ls)).bind fun l106=>(chk (n60+1)).bind fun n107=>Y1K s37 m61 l106 n107))) else some (.inl l58))
def Y4c (p0:Ls)(p1:Int):Option (Ls × Int) :=
 (R_Find p0 [61,63] p1).bind fun n1=>(if n1=p1 then(chk (p1+2)).bind fun n4=>(R_Find p0 [63] n4).bind fun n5=>(if n5<(0:Int) then some ([],0) else(chk (n5+1)).bind fun n8=>(R_Find p0 [63] n8).bind fun n9=>(if n9<(0:Int) then some ([],0) else(chk (n9+1)).bind fun n12=>(R_Find p0 [63] n12).bind fun n13=>((if n13<(0:Int) then some true else(chk (n13+1)).bind fun n19=>(if (p0.length:Int)≤n19 then some true else(chk (n13+1)).bind fun n21=>(idx p0 n21).bind fun c22=>(if c22=61 then(chk (n13+2)).bind fun n24=>(chk (n24-p1)).bind fun n25=>some (decide ((75:Int)<n25)) else some true)))).bind fun b17=>(if b17=true then some ([],0) else(chk (p1+2)).bind fun n28=>(cut p0 n28 n5).bind fun s29=>(R_SetOf s29).bind fun n30=>(chk (n5+1)).bind fun n32=>(cut p0 n32 n9).bind fun s33=>(R_Lower s33).bind fun s34=>(chk (n9+1)).bind fun n36=>(cut p0 n36 n13).bind fun s37=>(if n30<(0:Int) then some ([],0) else(((if s34=[98] then(toB s37).bind fun l45=>(Y4r l45).bind fun l46=>(Y3J l46).bind fun s48=>(if s48=s37 then some (.inl l46) else some (.inr ([],0))) else(if s34=[113] then((Y1K s37 FU [] 0:Option (Ls ⊕ (Ls × Int)))).bind fun o111=>(match o111 with | .inl l55=>some (.inl l55) | .inr r110=>some (.inr r110)) else some (.inr ([],0)))):Option (Ls ⊕ (Ls × Int)))).bind fun o118=>(match o118 with | .inl l41=>(Y44 n30 l41).bind fun s113=>(chk (n13+2)).bind fun n115=>(chk (n115-p1)).bind fun n116=>some (s113,n116) | .inr r117=>some r117))))) else some ([],0))
def R_Blank (p0:UInt8):Option Bool :=
 ((if p0=32 then some true else some (decide (p0=9)))).bind fun b3=>some b3
def Y1x (p0:Ls):Nat→Int→Option Int
 | 0,_=>none
 | m22+1,n21=>((if n21<(p0.length:Int) then(idx p0 n21).bind fun c27=>(R_Blank c27).bind fun b28=>some b28 else some false)).bind fun b25=>(if b25=true then(chk (n21+1)).bind fun n32=>Y1x p0 m22 n32 else some n21)
def Y11 (p0:Ls):Nat→Ls→Int→Option Ls
 | 0,_,_=>none
 | m6+1,s4,n5=>(if n5<(p0.length:Int) then(Y4c p0 n5).bind fun(s8,n9)=>(if n9=(0:Int) then(chk (n5+1)).bind fun n12=>(cut p0 n5 n12).bind fun s13=>(cat s4 s13).bind fun s14=>(chk (n5+1)).bind fun n15=>Y11 p0 m6 s14 n15 else(cat s4 s8).bind fun s16=>(chk (n5+n9)).bind fun n17=>(Y1x p0 FU n17).bind fun n20=>((if n17<n20 then some (decide (n20<(p0.length:Int))) else some false)).bind fun b36=>(if b36=true then(Y4c p0 n20).bind fun(s40,n41)=>(if (0:Int)<n41 then Y11 p0 m6 s16 n20 else Y11 p0 m6 s16 n17) else Y11 p0 m6 s16 n17)) else some s4)
def Y3p (p0:Ls):Option Ls :=
 (Y11 p0 FU [] 0).bind fun s3=>some s3
end Go.Ph.Pf
end
section
namespace Go.Ph.Pf
open Go.Ph.Pl
def Y23 (p0:Ls)(p1:(UInt8→Option Bool)):Nat→Int→Option (Unit ⊕ Bool)
 | 0,_=>none
 | m4+1,n3=>(if n3<(p0.length:Int) then(idx p0 n3).bind fun c6=>(p1 c6).bind fun b7=>(if b7=true then(chk (n3+1)).bind fun n10=>Y23 p0 p1 m4 n10 else some (.inr false)) else some (.inl ()))
def Y3b (p0:Ls)(p1:(UInt8→Option Bool)):Option Bool :=
 ((Y23 p0 p1 FU 0:Option (Unit ⊕ Bool))).bind fun o13=>(match o13 with | .inl _=>some true | .inr r12=>some r12)
end Go.Ph.Pf
end
section
namespace Go.Ph.Pf
open Go.Ph.Pl
def Y0M (p0:Ls):Option (Int × Int) :=
 if p0≠ [] then some (((Utf.dr p0).1:Int),((Utf.dr p0).2:Int)) else none
def Y1y (p0:Ls)(p1:Ls):Option Int :=
 if p1.length=1∧p0.length≤1000000 then some ((p0.countP fun c=>decide (p1=[c]):Nat):Int) else none
def tabk (k:Nat):List (Option Ls):=(List.range 256).map fun n=>if n=34∧1≤k then some [92,34] else if n=92∧2≤k then some [92,92] else none
def trk (k:Nat):List Ls:=[[34],[92]].take k
def Y0A (p0:List Ls):Nat→Bool→Int→Option (Bool ⊕ ((List (Option Ls) × List Ls) × List Ls))
 | 0,_,_=>none
 | m15+1,b13,n14=>(if n14<(p0.length:Int) then(idx p0 n14).bind fun a17=>(if (a17.length:Int)=(1:Int) then(chk (n14+1)).bind fun n19=>(idx p0 n19).bind fun a20=>(if (a20.length:Int)=(1:Int) then(chk (n14+2)).bind fun n23=>Y0A p0 m15 b13 n23 else(chk (n14+2)).bind fun n22=>Y0A p0 m15 false n22) else none) else some (.inl b13))
def Y2h (p0:List Ls):Option ((List (Option Ls) × List Ls) × List Ls) :=
 ((if (p0.length:Int)=(2:Int) then(idx p0 0).bind fun a5=>some (decide ((1:Int)<(a5.length:Int))) else some false)).bind fun b3=>(if b3=true then none else((Y0A p0 FU true 0:Option (Bool ⊕ ((List (Option Ls) × List Ls) × List Ls)))).bind fun o30=>(match o30 with | .inl b12=>(if b12=true then none else(if p0=[[92],[92,92],[34],[92,34]] then some ((tabk 2,trk 2),p0) else none)) | .inr r29=>some r29))
def Y00 (p0:(List (Option Ls) × List Ls))(p1:Ls):Nat→Int→Bool→Int→Option (Int × Bool)
 | 0,_,_,_=>none
 | m14+1,n11,b12,n13=>(if n13<(p0.2.length:Int) then(idx p0.2 n13).bind fun a16=>(Y1y p1 a16).bind fun n17=>(if n17=(0:Int) then(chk (n13+1)).bind fun n26=>Y00 p0 p1 m14 n11 b12 n26 else(idx a16 0).bind fun c20=>(idxO p0.1 (c20.toNat:Int)).bind fun q21=>(chk (((q21.getD []).length:Int)-1)).bind fun n22=>(chk (n17*n22)).bind fun n23=>(chk (n11+n23)).bind fun n24=>(chk (n13+1)).bind fun n25=>Y00 p0 p1 m14 n24 true n25) else some (n11,b12))
def Y01 (p0:(List (Option Ls) × List Ls))(p1:Ls):Nat→Int→Bool→Int→Option (Int × Bool)
 | 0,_,_,_=>none
 | m35+1,n32,b33,n34=>(if n34<(p1.length:Int) then(idx p1 n34).bind fun c37=>(idxO p0.1 (c37.toNat:Int)).bind fun q38=>(if q38.isSome=true then(idxO p0.1 (c37.toNat:Int)).bind fun q40=>(chk (((q40.getD []).length:Int)-1)).bind fun n41=>(chk (n32+n41)).bind fun n42=>(chk (n34+1)).bind fun n43=>Y01 p0 p1 m35 n42 true n43 else(chk (n34+1)).bind fun n44=>Y01 p0 p1 m35 n32 b33 n44) else some (n32,b33))
def Y02 (p0:(List (Option Ls) × List Ls))(p1:Ls):Nat→Ls→Int→Int→Option Ls
 | 0,_,_,_=>none
 | m56+1,l53,n54,n55=>(if n55<(p1.length:Int) then(idx p1 n55).bind fun c58=>(idxO p0.1 (c58.toNat:Int)).bind fun q59=>(if q59.isSome=true then(frm l53 n54).bind fun n61=>(idxO p0.1 (c58.toNat:Int)).bind fun q62=>(cpyO l53 n61 (q62.getD [])).bind fun(l63,n64)=>(chk (n54+n64)).bind fun n66=>(chk (n55+1)).bind fun n67=>Y02 p0 p1 m56 l63 n66 n67 else(idx l53 n54).bind fun c68=>(put l53 n54 c58).bind fun l69=>(chk (n54+1)).bind fun n70=>(chk (n55+1)).bind fun n71=>Y02 p0 p1 m56 l69 n70 n71) else some l53)
def Y0y (p0:(List (Option Ls) × List Ls))(p1:Ls):Option Ls :=
 (chk ((p0.2.length:Int)*8)).bind fun n1=>((if n1≤(p1.length:Int) then(Y00 p0 p1 FU (p1.length:Int) false 0).bind fun(n9,b10)=>some (n9,b10) else(Y01 p0 p1 FU (p1.length:Int) false 0).bind fun(n30,b31)=>some (n30,b31))).bind fun(n4,b5)=>(if b5=true then(mkS 1 n4 n4 (0:UInt8)).bind fun l48=>(Y02 p0 p1 FU l48 0 0).bind fun l52=>some l52 else some p1)
def Y1L (p0:List Ls):Option Unit :=
 if p0=[[92],[92,92],[34],[92,34]] then some () else none
def Y0Z (p0:Ls):Option Ls :=
 Y0y (tabk 2,trk 2) p0
def Y1v (p0:List (Ls × Ls × Ls)):Option (List (Ls × Ls × Ls)):=app 48 [] p0
def Y20 (p0:Ls):Option Int :=
 (if (500:Int)<(p0.length:Int) then some 1 else(Y0Q p0).bind fun b2=>(if b2=true then some 0 else some 5))
def Y2k (p0:UInt8):Option Bool :=
 ((if 32≤p0.toNat then some (decide (p0.toNat≤126)) else some false)).bind fun b3=>some b3
def Y1R (p0:Ls):Option Bool :=
 ((if p0=[] then some false else(if (p0.length:Int)≤(60:Int) then(Y3b p0 Y2k).bind fun b6=>some b6 else some false))).bind fun b3=>some b3
def Y1m {σ:Type}(Y:σ→Ls→Option (σ × Bool)):Nat→Ls→σ→Option ((Ls × σ) ⊕ σ)
 | 0,_,_=>none
 | m8+1,s6,s7=>(if (0:Int)<(s6.length:Int) then(Y0M s6).bind fun(n10,n11)=>(cut s6 0 n11).bind fun s13=>(Y s7 s13).bind fun(s14,b15)=>(if b15=true then(cut s6 n11 (s6.length:Int)).bind fun s18=>Y1m Y m8 s18 s14 else some (.inr s14)) else some (.inl (s6,s7)))
def Y0u {σ:Type}(Y:σ→Ls→Option (σ × Bool))(p1:Ls)(p3:Int):Nat→Ls→σ→Option ((Ls × σ) ⊕ σ)
 | 0,_,_=>none
 | m28+1,s26,s27=>(Y1P s26 p1).bind fun n29=>(if n29<(0:Int) then some (.inl (s26,s27)) else(chk (n29+p3)).bind fun n32=>(cut s26 0 n32).bind fun s33=>(Y s27 s33).bind fun(s34,b35)=>(if b35=true then(chk (n29+(p1.length:Int))).bind fun n38=>(cut s26 n38 (s26.length:Int)).bind fun s39=>Y0u Y p1 p3 m28 s39 s34 else some (.inr s34)))
def Y1q (p1:Ls)(p2:Ls)(p3:Int)(σ:Type)(Y:σ→Ls→Option (σ × Bool))(s0:σ):Option σ :=
 (if (p1.length:Int)=(0:Int) then((Y1m Y FU p2 s0:Option ((Ls × σ) ⊕ σ))).bind fun o21=>(match o21 with | .inl (s4,s5)=>some s5 | .inr r20=>some r20) else((Y0u Y p1 p3 FU p2 s0:Option ((Ls × σ) ⊕ σ))).bind fun o45=>(match o45 with | .inl (s24,s25)=>(Y s25 s24).bind fun(s41,b42)=>some s41 | .inr r44=>some r44))
def Y1N (p1:(UInt8→Option Bool))(s:(Bool × Nat))(x6:Ls):Option (Bool × Nat) :=
 match s with
 |(b1,_)=>((if x6=[] then some true else(Y3b x6 p1).bind fun b12=>some (!b12))).bind fun b10=>(if b10=true then some (false,1) else some (b1,0))
def Y2o (p0:Ls)(p1:(UInt8→Option Bool)):Option Bool :=
 (Y1q [46] p0 0 (Bool × Nat) (stepY exStop (Y1N p1)) (false,0)).bind fun(b1,tg3)=>(if tg3=0 then some true else(if tg3=1 then some b1 else none))
def Y29 (p0:UInt8):Option Bool :=
 ((Y1Q p0).bind fun b4=>(if b4=true then some true else some (decide (p0=45)))).bind fun b3=>some b3
def Y2g (p0:Ls):Option Bool :=
 ((if (p0.length:Int)≤(60:Int) then(Y2o p0 Y29).bind fun b5=>some b5 else some false)).bind fun b3=>some b3
def Y1u (p0:(Ls × Ls × Ls)):Option (Int × Int) :=
 (Y20 p0.1).bind fun n1=>(if n1=(0:Int) then(Y1R p0.2.1).bind fun b7=>(if b7=true then(Y2g p0.2.2).bind fun b13=>(if b13=true then(Y0I).bind fun(n19,n20)=>some (n19,n20) else(Y07 10 (-5)).bind fun(n16,n17)=>some (n16,n17)) else(Y07 10 (-4)).bind fun(n10,n11)=>some (n10,n11)) else(Y07 n1 (-3)).bind fun(n4,n5)=>some (n4,n5))
def Y12 (p0:(Ls × Bool × List (Ls × Ls × Ls))):Nat→Int→Option (Unit ⊕ Int)
 | 0,_=>none
 | m14+1,n13=>(if n13<(p0.2.2.length:Int) then(idx p0.2.2 n13).bind fun a16=>(Y1u (a16.1,a16.2.1,a16.2.2)).bind fun(n17,n18)=>(Y1k (n17,n18)).bind fun b20=>(if b20=true then some (.inr n17) else(chk (n13+1)).bind fun n23=>Y12 p0 m14 n23) else some (.inl ()))
def Y3c (p0:(Ls × Bool × List (Ls × Ls × Ls))):Option Int :=
 (Y20 p0.1).bind fun n1=>(if n1=(0:Int) then((if p0.2.1=(!decide (p0.1=[])) then(if p0.2.1=true then some false else some (!decide ((p0.2.2.length:Int)=(1:Int)))) else some true)).bind fun b6=>(if b6=true then some 5 else((Y12 p0 FU 0:Option (Unit ⊕ Int))).bind fun o26=>(match o26 with | .inl _=>some 0 | .inr r25=>some r25)) else some n1)
def Y0S (p0:List (Ls × Bool × List (Ls × Ls × Ls))):Nat→Int→Int→Option Int
 | 0,_,_=>none
 | m6+1,n4,n5=>(if n5<(p0.length:Int) then(idx p0 n5).bind fun a8=>(chk (n5+1)).bind fun n9=>Y0S p0 m6 (IntKind.i64.wrap (n4+(a8.2.2.length:Int))) n9 else some n4)
def Y0T (p0:List (Ls × Bool × List (Ls × Ls × Ls))):Nat→Int→Int→Int→Option ((Int × Int) ⊕ (Int × Int))
 | 0,_,_,_=>none
 | m27+1,n24,n25,n26=>(if n26<(p0.length:Int) then(idx p0 n26).bind fun a29=>(Y3c (a29.1,a29.2.1,a29.2.2)).bind fun n30=>(if n30=(0:Int) then(chk (n26+1)).bind fun n36=>Y0T p0 m27 n24 n25 n36 else(Y07 n30 n26).bind fun(n33,n34)=>some (.inr (n33,n34))) else some (.inl (n24,n25)))
def Y1z (p0:List (Ls × Bool × List (Ls × Ls × Ls))):Option (Int × Int) :=
 (Y0S p0 FU 0 0).bind fun n3=>((if (60:Int)<(p0.length:Int) then some true else some (decide ((60:Int)<n3)))).bind fun b13=>(if b13=true then(Y07 2 (-1)).bind fun(n17,n18)=>some (n17,n18) else((Y0T p0 FU 0 0 0:Option ((Int × Int) ⊕ (Int × Int)))).bind fun o42=>(match o42 with | .inl (n22,n23)=>(Y0I).bind fun(n38,n39)=>some (n38,n39) | .inr r41=>some r41))
def Y2l (p0:UInt8):Option Bool :=
 ((Y1Q p0).bind fun b4=>(if b4=true then some true else(Y0z [33,35,36,37,38,39,42,43,45,47,61,63,94,95,96,123,124,125,126] p0).bind fun n6=>some (decide ((0:Int)≤n6)))).bind fun b3=>some b3
def Y1D (p0:Ls):Option Bool :=
 (Y2o p0 Y2l).bind fun b1=>some b1
def Y2v (p0:Ls):Option Ls :=
 (Y1L ([[92],[92,92],[34],[92,34]]:List Ls)).bind fun _=>(Y0Z p0).bind fun s2=>(cat [34] s2).bind fun s3=>(cat s3 [34]).bind fun s4=>some s4
def Y0v (p0:(Ls × Ls × Ls)):Option Ls :=
 (Y1D p0.2.1).bind fun b1=>(if b1=true then(cat p0.2.1 [64]).bind fun s4=>(cat s4 p0.2.2).bind fun s5=>some s5 else(Y2v p0.2.1).bind fun s6=>(cat s6 [64]).bind fun s8=>(cat s8 p0.2.2).bind fun s9=>some s9)
def Y3V (p0:Ls):Option (Ls × (Int × Int)) :=
 (if (1000:Int)<(p0.length:Int) then(Y07 1 (-1)).bind fun(n2,n3)=>some ([],(n2,n3)) else(Y0Q p0).bind fun b5=>(if b5=true then(Y2U p0).bind fun b11=>(if b11=true then(Y0I).bind fun(n14,n15)=>some (p0,(n14,n15)) else none) else(Y07 5 (-2)).bind fun(n8,n9)=>some ([],(n8,n9))))
def Y2Z (p0:Ls)(s:(Ls × Nat))(x11:Ls):Option (Ls × Nat) :=
 match s with
 |(s6,_)=>((if x11=[] then some true else(Y3b x11 Y2l).bind fun b17=>some (!b17))).bind fun b15=>(if b15=true then(Y2v p0).bind fun s21=>some (s21,1) else some (s6,0))
def Y37 (p0:Ls):Option Ls :=
 (Y3V p0).bind fun(s1,(n2,n3))=>(if s1=p0 then(Y1q [32] p0 0 (Ls × Nat) (stepY exStop (Y2Z p0)) ([],0)).bind fun(s6,tg8)=>(if tg8=0 then some p0 else(if tg8=1 then some s6 else none)) else some s1)
def Y3v (p0:(Ls × Ls × Ls)):Option Ls :=
 (if p0.1=[] then(Y0v (p0.1,p0.2.1,p0.2.2)).bind fun s2=>some s2 else(Y37 p0.1).bind fun s4=>(cat s4 [32,60]).bind fun s6=>(Y0v (p0.1,p0.2.1,p0.2.2)).bind fun s7=>(cat s6 s7).bind fun s9=>(cat s9 [62]).bind fun s10=>some s10)
def Y1b (p0:Ls)(p1:Ls):Option Ls :=
 (Y0J p0 p1).bind fun b1=>(if b1=true then(chk ((p0.length:Int)-(p1.length:Int))).bind fun n4=>(cut p0 0 n4).bind fun s5=>some s5 else some p0)
def Y1S (p0:Ls)(p1:Ls):Option Ls :=
 (Y1b p0 p1).bind fun s1=>some s1
def Y2a (a19:(Ls × Bool × List (Ls × Ls × Ls))):Nat→List Ls→Int→Option (List Ls)
 | 0,_,_=>none
 | m29+1,l26,n28=>(if n28<(a19.2.2.length:Int) then(idx a19.2.2 n28).bind fun a32=>(Y3v (a32.1,a32.2.1,a32.2.2)).bind fun s33=>(app 16 l26 ([s33]:List Ls)).bind fun l35=>(chk (n28+1)).bind fun n36=>Y2a a19 m29 l35 n36 else some l26)
def Y2b (p0:List (Ls × Bool × List (Ls × Ls × Ls))):Nat→List Ls→Int→Option (List Ls)
 | 0,_,_=>none
 | m16+1,l13,n15=>(if n15<(p0.length:Int) then(idx p0 n15).bind fun a19=>(Y2a a19 FU [] 0).bind fun l23=>(Y0t l23 [44,32]).bind fun s39=>((if a19.2.1=true then(Y37 a19.1).bind fun s45=>(cat s45 [58,32]).bind fun s47=>(cat s47 s39).bind fun s48=>(Y1S s48 [32]).bind fun s49=>(cat s49 [59]).bind fun s51=>some s51 else some s39)).bind fun s43=>(app 16 l13 ([s43]:List Ls)).bind fun l53=>(chk (n15+1)).bind fun n54=>Y2b p0 m16 l53 n54 else some l13)
def Y3W (p0:List (Ls × Bool × List (Ls × Ls × Ls))):Option (Ls × (Int × Int)) :=
 (Y1z p0).bind fun(n1,n2)=>(Y1k (n1,n2)).bind fun b4=>(if b4=true then some ([],(n1,n2)) else(Y2b p0 FU [] 0).bind fun l10=>(Y0t l10 [44,32]).bind fun s57=>(if (4000:Int)<(s57.length:Int) then(Y07 1 (-2)).bind fun(n60,n61)=>some ([],(n60,n61)) else(Y0I).bind fun(n63,n64)=>some (s57,(n63,n64))))
def Y0e (p0:(Ls × Int)):Option ((Ls × Int) ⊕ Int) :=
 some (.inr p0.2)
def Y05  : Nat→Ls→Int→Int→Option ((Ls × Int) ⊕ Int)
 | 0,_,_,_=>none
 | m6+1,s3,n4,n5=>(((if (s3.length:Int)≤n4 then(Y0e (s3,n4)).bind fun o14=>(match o14 with | .inl o12=>some (.inl (o12.1,o12.2)) | .inr n15=>some (.inr (.inr n15))) else some (.inl (s3,n4))):Option ((Ls × Int) ⊕ ((Ls × Int) ⊕ Int)))).bind fun o36=>(match o36 with | .inl (s9,n10)=>(idx s9 n10).bind fun c17=>(((if c17=40 then(chk (n5+1)).bind fun n24=>some (.inl (s9,n10,n24)) else(if c17=41 then(chk (n5-1)).bind fun n26=>(if n26=(0:Int) then(chk (n10+1)).bind fun n28=>some (.inr (.inl (s9,n28))) else some (.inl (s9,n10,n26))) else(if c17=92 then(chk (n10+1)).bind fun n30=>some (.inl (s9,n30,n5)) else some (.inl (s9,n10,n5))))):Option ((Ls × Int × Int) ⊕ ((Ls × Int) ⊕ Int)))).bind fun o34=>(match o34 with | .inl (s20,n21,n22)=>(chk (n21+1)).bind fun n32=>Y05  m6 s20 n32 n22 | .inr r33=>some r33) | .inr r35=>some r35)
def Y1c (p0:(Ls × Int)):Option ((Ls × Int) ⊕ Int) :=
 (Y05  FU p0.1 p0.2 0).bind fun r37=>some r37
def Y0d  : Nat→Ls→Int→Option ((Ls × Int) ⊕ ((Ls × Int) ⊕ Int))
 | 0,_,_=>none
 | m7+1,s5,n6=>(if n6<(s5.length:Int) then(idx s5 n6).bind fun c9=>(Y1e c9).bind fun b10=>(if b10=true then(chk (n6+1)).bind fun n13=>Y0d  m7 s5 n13 else(if c9=40 then(Y1c (s5,n6)).bind fun o17=>(match o17 with | .inl o15=>Y0d  m7 o15.1 o15.2 | .inr n18=>some (.inr (.inr n18))) else some (.inr (.inl (s5,n6))))) else some (.inl (s5,n6)))
def Y26 (p0:(Ls × Int)):Option ((Ls × Int) ⊕ Int) :=
 ((Y0d  FU p0.1 p0.2:Option ((Ls × Int) ⊕ ((Ls × Int) ⊕ Int)))).bind fun o21=>(match o21 with | .inl (s3,n4)=>some (.inl (s3,n4)) | .inr r20=>some r20)
def Y0h  : Nat→Ls→Int→Ls→Option ((Ls × (Ls × Int)) ⊕ Int)
 | 0,_,_,_=>none
 | m9+1,s4,n5,l7=>(((if (s4.length:Int)≤n5 then(Y0e (s4,n5)).bind fun o18=>(match o18 with | .inl o16=>some (.inl (o16.1,o16.2)) | .inr n19=>some (.inr (.inr n19))) else some (.inl (s4,n5))):Option ((Ls × Int) ⊕ ((Ls × (Ls × Int)) ⊕ Int)))).bind fun o54=>(match o54 with | .inl (s13,n14)=>(idx s13 n14).bind fun c21=>(if c21=34 then(chk (n14+1)).bind fun n23=>some (.inl (l7,(s13,n23))) else(((if c21=92 then(chk (n14+1)).bind fun n33=>(((if (s13.length:Int)≤n33 then(Y0e (s13,n33)).bind fun o41=>(match o41 with | .inl o39=>some (.inl (o39.1,o39.2)) | .inr n42=>some (.inr (.inr n42))) else some (.inl (s13,n33))):Option ((Ls × Int) ⊕ ((Ls × (Ls × Int)) ⊕ Int)))).bind fun o47=>(match o47 with | .inl (s36,n37)=>(idx s36 n37).bind fun c44=>(app 1 l7 ([c44]:Ls)).bind fun l45=>some (.inl (s36,n37,l45)) | .inr r46=>some (.inr r46)) else(app 1 l7 ([c21]:Ls)).bind fun l48=>some (.inl (s13,n14,l48))):Option ((Ls × Int × Ls) ⊕ ((Ls × (Ls × Int)) ⊕ Int)))).bind fun o52=>(match o52 with | .inl (s27,n28,l30)=>(chk (n28+1)).bind fun n50=>Y0h  m9 s27 n50 l30 | .inr r51=>some r51)) | .inr r53=>some r53)
def Y1w (p0:(Ls × Int)):Option ((Ls × (Ls × Int)) ⊕ Int) :=
 (chk (p0.2+1)).bind fun n1=>(Y0h  FU p0.1 n1 []).bind fun r55=>some r55
def Y0m  : Nat→Ls→Int→Option (Ls × Int)
 | 0,_,_=>none
 | m23+1,s21,n22=>((if n22<(s21.length:Int) then(idx s21 n22).bind fun c28=>(Y2l c28).bind fun b29=>(if b29=true then some true else(idx s21 n22).bind fun c31=>some (decide (c31=46))) else some false)).bind fun b26=>(if b26=true then(chk (n22+1)).bind fun n34=>Y0m  m23 s21 n34 else some (s21,n22))
def Y0k (p0:(Ls × Int)):Option ((Elt × (Ls × Int)) ⊕ Int) :=
 (Y26 (p0.1,p0.2)).bind fun o3=>(match o3 with | .inl o1=>(if (o1.1.length:Int)≤o1.2 then some (.inl ((none:Elt),(o1.1,o1.2))) else(idx o1.1 o1.2).bind fun c6=>(if c6=34 then(Y1w (o1.1,o1.2)).bind fun o11=>(match o11 with | .inl (s8,o9)=>some (.inl ((eltW (s8,true)),(o9.1,o9.2))) | .inr n12=>some (.inr n12)) else(Y0z [58,59,44,64,60,62] c6).bind fun n13=>(if (0:Int)≤n13 then(chk (o1.2+1)).bind fun n16=>some (.inl ((eltS c6),(o1.1,n16))) else(Y0m  FU o1.1 o1.2).bind fun(s19,n20)=>(((if n20=o1.2 then(Y0e (s19,n20)).bind fun o43=>(match o43 with | .inl o41=>some (.inl (o41.1,o41.2)) | .inr n44=>some (.inr (.inr n44))) else some (.inl (s19,n20))):Option ((Ls × Int) ⊕ ((Elt × (Ls × Int)) ⊕ Int)))).bind fun o48=>(match o48 with | .inl (s38,n39)=>(cut s38 o1.2 n39).bind fun s46=>some (.inl ((eltW (s46,false)),(s38,n39))) | .inr r47=>some r47)))) | .inr n4=>some (.inr n4))
def Y0f (p0:(Ls × Int)):Option ((Elt × (Ls × Int)) ⊕ Int) :=
 (Y0k (p0.1,p0.2)).bind fun o4=>(match o4 with | .inl (n1,o2)=>some (.inl (n1,(o2.1,p0.2))) | .inr n5=>some (.inr n5))
def Y0i  : Nat→Ls→Int→List (Ls × Bool)→Option ((List (Ls × Bool) × (Ls × Int)) ⊕ Int)
 | 0,_,_,_=>none
 | m8+1,s3,n4,l6=>(Y0f (s3,n4)).bind fun o13=>(match o13 with | .inl (n10,o11)=>(okW n10).bind fun(w15,b16)=>(if b16=true then(Y0k (o11.1,o11.2)).bind fun o22=>(match o22 with | .inl (n19,o20)=>(app 24 l6 ([(w15.1,w15.2)]:List (Ls × Bool))).bind fun l24=>Y0i  m8 o20.1 o20.2 l24 | .inr n23=>some (.inr n23)) else some (.inl (l6,(o11.1,o11.2)))) | .inr n14=>some (.inr n14))
def Y0N (p0:(Ls × Int)):Option ((List (Ls × Bool) × (Ls × Int)) ⊕ Int) :=
 (Y0i  FU p0.1 p0.2 []).bind fun r26=>some r26
def Y0B (p0:(Ls × Int))(p1:UInt8):Option ((Bool × (Ls × Int)) ⊕ Int) :=
 (Y0f (p0.1,p0.2)).bind fun o4=>(match o4 with | .inl (n1,o2)=>(if n1=(eltS p1) then(Y0k (o2.1,o2.2)).bind fun o10=>(match o10 with | .inl (n7,o8)=>some (.inl (true,(o8.1,o8.2))) | .inr n11=>some (.inr n11)) else some (.inl (false,(o2.1,o2.2)))) | .inr n5=>some (.inr n5))
def Y0W (p0:(Ls × Int))(p1:UInt8):Option ((Ls × Int) ⊕ Int) :=
 (Y0B (p0.1,p0.2) p1).bind fun o4=>(match o4 with | .inl (b1,o2)=>(if b1=true then some (.inl (o2.1,o2.2)) else(Y0e (o2.1,o2.2)).bind fun o9=>(match o9 with | .inl o7=>some (.inl (o7.1,o7.2)) | .inr n10=>some (.inr n10))) | .inr n5=>some (.inr n5))
def Y0o (p0:(Ls × Int))(p1:List (Ls × Bool)):Option (((Ls × Ls × Ls) × (Ls × Int)) ⊕ Int) :=
 ((if (p1.length:Int)=(1:Int) then(idx p1 0).bind fun a5=>(Y1R a5.1).bind fun b6=>(if b6=true then(idx p1 0).bind fun a8=>(if a8.2=true then some false else(idx p1 0).bind fun a10=>(Y1D a10.1).bind fun b11=>some (!b11)) else some true) else some true)).bind fun b3=>(((if b3=true then(Y0e (p0.1,p0.2)).bind fun o21=>(match o21 with | .inl o19=>some (.inl (o19.1,o19.2)) | .inr n22=>some (.inr (.inr n22))) else some (.inl (p0.1,p0.2))):Option ((Ls × Int) ⊕ (((Ls × Ls × Ls) × (Ls × Int)) ⊕ Int)))).bind fun o57=>(match o57 with | .inl (s16,n17)=>(Y0W (s16,n17) 64).bind fun o26=>(match o26 with | .inl o24=>(Y0k (o24.1,o24.2)).bind fun o31=>(match o31 with | .inl (n28,o29)=>(okW n28).bind fun(w33,b34)=>((if b34=true then(if w33.2=true then some true else(Y2g w33.1).bind fun b40=>some (!b40)) else some true)).bind fun b38=>(((if b38=true then(Y0e (o29.1,o29.2)).bind fun o50=>(match o50 with | .inl o48=>some (.inl (o48.1,o48.2)) | .inr n51=>some (.inr (.inr n51))) else some (.inl (o29.1,o29.2))):Option ((Ls × Int) ⊕ (((Ls × Ls × Ls) × (Ls × Int)) ⊕ Int)))).bind fun o55=>(match o55 with | .inl (s45,n46)=>(idx p1 0).bind fun a53=>some (.inl (([],a53.1,w33.1),(s45,n46))) | .inr r54=>some r54) | .inr n32=>some (.inr n32)) | .inr n27=>some (.inr n27)) | .inr r56=>some r56)
def Y1n (p0:List Ls)(p1:List Ls):Option (List Ls × List Ls) :=
 (if (0:Int)<(p0.length:Int) then(Y0t p0 [32]).bind fun s4=>(Y1l s4).bind fun(s6,(n7,n8))=>(app 16 p1 ([s6]:List Ls)).bind fun l10=>some ([],l10) else some (p0,p1))
def Y0n (p0:List (Ls × Bool)):Nat→List Ls→List Ls→Int→Option (List Ls × List Ls)
 | 0,_,_,_=>none
 | m16+1,l10,l13,n15=>(if n15<(p0.length:Int) then(idx p0 n15).bind fun a20=>(if a20.2=true then(Y1n l13 l10).bind fun(o22,o23)=>(app 16 o23 ([a20.1]:List Ls)).bind fun l25=>(chk (n15+1)).bind fun n26=>Y0n p0 m16 l25 o22 n26 else(app 16 l13 ([a20.1]:List Ls)).bind fun l27=>(chk (n15+1)).bind fun n28=>Y0n p0 m16 l10 l27 n28) else some (l10,l13))
def Y1A (p0:List (Ls × Bool)):Option Ls :=
 (Y0n p0 FU [] [] 0).bind fun(l4,l7)=>(Y1n l7 l4).bind fun(o30,o31)=>(Y0t o31 [32]).bind fun s34=>some s34
def Y0D (p0:(Ls × Int))(p1:List (Ls × Bool)):Option (((Ls × Ls × Ls) × (Ls × Int)) ⊕ Int) :=
 (Y0B (p0.1,p0.2) 60).bind fun o4=>(match o4 with | .inl (b1,o2)=>(if b1=true then(Y0N (o2.1,o2.2)).bind fun o17=>(match o17 with | .inl (l14,o15)=>(Y0o (o15.1,o15.2) l14).bind fun o24=>(match o24 with | .inl ((s19,s20,s21),o22)=>(Y1A p1).bind fun s26=>(Y0W (o22.1,o22.2) 62).bind fun o30=>(match o30 with | .inl o28=>some (.inl ((s26,s20,s21),(o28.1,o28.2))) | .inr n31=>some (.inr n31)) | .inr n25=>some (.inr n25)) | .inr n18=>some (.inr n18)) else(Y0o (o2.1,o2.2) p1).bind fun o12=>(match o12 with | .inl ((s7,s8,s9),o10)=>some (.inl ((s7,s8,s9),(o10.1,o10.2))) | .inr n13=>some (.inr n13))) | .inr n5=>some (.inr n5))
def Y0E  : Nat→Ls→Int→Ls→Bool→List (Ls × Ls × Ls)→Ls→Bool→List (Ls × Ls × Ls)→Option (((Ls × Bool × List (Ls × Ls × Ls)) × (Ls × Int)) ⊕ Int)
 | 0,_,_,_,_,_,_,_,_=>none
 | m51+1,s39,n40,s41,b42,l43,s46,b47,l49=>(Y0N (s39,n40)).bind fun o56=>(match o56 with | .inl (l53,o54)=>(Y0D (o54.1,o54.2) l53).bind fun o63=>(match o63 with | .inl ((s58,s59,s60),o61)=>(app 48 l49 ([(s58,s59,s60)]:List (Ls × Ls × Ls))).bind fun l65=>(Y0B (o61.1,o61.2) 59).bind fun o70=>(match o70 with | .inl (b67,o68)=>(if b67=true then some (.inl ((s46,b47,l65),(o68.1,o68.2))) else(Y0W (o68.1,o68.2) 44).bind fun o76=>(match o76 with | .inl o74=>Y0E  m51 o74.1 o74.2 s41 b42 l43 s46 b47 l65 | .inr n77=>some (.inr n77))) | .inr n71=>some (.inr n71)) | .inr n64=>some (.inr n64)) | .inr n57=>some (.inr n57))
def Y0l (p0:(Ls × Int)):Option (((Ls × Bool × List (Ls × Ls × Ls)) × (Ls × Int)) ⊕ Int) :=
 (Y0N (p0.1,p0.2)).bind fun o4=>(match o4 with | .inl (l1,o2)=>(Y0B (o2.1,o2.2) 58).bind fun o9=>(match o9 with | .inl (b6,o7)=>(if b6=true then(Y1A l1).bind fun s19=>(((if s19=[] then(Y0e (o7.1,o7.2)).bind fun o28=>(match o28 with | .inl o26=>some (.inl (o26.1,o26.2)) | .inr n29=>some (.inr (.inr n29))) else some (.inl (o7.1,o7.2))):Option ((Ls × Int) ⊕ (((Ls × Bool × List (Ls × Ls × Ls)) × (Ls × Int)) ⊕ Int)))).bind fun o80=>(match o80 with | .inl (s23,n24)=>(Y0B (s23,n24) 59).bind fun o34=>(match o34 with | .inl (b31,o32)=>(if b31=true then some (.inl ((s19,true,[]),(o32.1,o32.2))) else(Y0E  FU o32.1 o32.2 [] false [] s19 true []).bind fun r78=>some r78) | .inr n35=>some (.inr n35)) | .inr r79=>some r79) else(Y0D (o7.1,o7.2) l1).bind fun o17=>(match o17 with | .inl ((s12,s13,s14),o15)=>some (.inl (([],false,([(s12,s13,s14)]:List (Ls × Ls × Ls))),(o15.1,o15.2))) | .inr n18=>some (.inr n18))) | .inr n10=>some (.inr n10)) | .inr n5=>some (.inr n5))
def Y17 (p0:Ls):Nat→List (Ls × Bool × List (Ls × Ls × Ls))→Ls→Int→Option ((List (Ls × Bool × List (Ls × Ls × Ls)) × Ls × Int) ⊕ (List (Ls × Bool × List (Ls × Ls × Ls)) × (Int × Int)))
 | 0,_,_,_=>none
 | m49+1,l43,s47,n48=>(Y0B (s47,n48) 44).bind fun o53=>(match o53 with | .inl (b50,o51)=>(if b50=true then(Y0l (o51.1,o51.2)).bind fun o61=>(match o61 with | .inl ((s56,b57,l58),o59)=>(app 48 l43 ([(s56,b57,l58)]:List (Ls × Bool × List (Ls × Ls × Ls)))).bind fun l64=>Y17 p0 m49 l64 o59.1 o59.2 | .inr n62=>some (.inr ([],((11:Int),(min n62 (p0.length:Int)))))) else some (.inl (l43,o51.1,o51.2))) | .inr n54=>some (.inr ([],((11:Int),(min n54 (p0.length:Int))))))
def Y0U (p0:Ls):Option (List (Ls × Bool × List (Ls × Ls × Ls)) × (Int × Int)) :=
 (if (4000:Int)<(p0.length:Int) then(Y07 1 (-1)).bind fun(n2,n3)=>some ([],(n2,n3)) else(Y0f (p0,0)).bind fun o9=>(match o9 with | .inl (n6,o7)=>(((if n6=none then some (.inl []) else(Y0l (o7.1,o7.2)).bind fun o24=>(match o24 with | .inl ((s19,b20,l21),o22)=>(app 48 ([]:List (Ls × Bool × List (Ls × Ls × Ls))) ([(s19,b20,l21)]:List (Ls × Bool × List (Ls × Ls × Ls)))).bind fun l29=>((Y17 p0 FU l29 o22.1 o22.2:Option ((List (Ls × Bool × List (Ls × Ls × Ls)) × Ls × Int) ⊕ (List (Ls × Bool × List (Ls × Ls × Ls)) × (Int × Int))))).bind fun o80=>(match o80 with | .inl (l36,s40,n41)=>(Y0f (s40,n41)).bind fun o72=>(match o72 with | .inl (n69,o70)=>(if n69=none then some (.inl l36) else(Y0e (o70.1,o70.2)).bind fun o77=>(match o77 with | .inl o75=>some (.inl l36) | .inr n78=>some (.inr ([],((11:Int),(min n78 (p0.length:Int))))))) | .inr n73=>some (.inr ([],((11:Int),(min n73 (p0.length:Int)))))) | .inr r79=>some (.inr r79)) | .inr n25=>some (.inr ([],((11:Int),(min n25 (p0.length:Int))))))):Option (List (Ls × Bool × List (Ls × Ls × Ls)) ⊕ (List (Ls × Bool × List (Ls × Ls × Ls)) × (Int × Int))))).bind fun o98=>(match o98 with | .inl l14=>(Y1z l14).bind fun(n85,n86)=>(Y1k (n85,n86)).bind fun b88=>(if b88=true then(Y07 n85 (-2)).bind fun(n91,n92)=>some ([],(n91,n92)) else(Y0I).bind fun(n94,n95)=>some (l14,(n94,n95))) | .inr r97=>some r97) | .inr n10=>some ([],((11:Int),(min n10 (p0.length:Int))))))
def Y2w (p0:(Ls × Ls × Ls)):Option (Ls × (Int × Int)) :=
 (Y1u (p0.1,p0.2.1,p0.2.2)).bind fun(n1,n2)=>(Y1k (n1,n2)).bind fun b4=>(if b4=true then some ([],(n1,n2)) else(Y3q p0.2.2).bind fun s7=>(Y0v (p0.1,p0.2.1,s7)).bind fun s9=>(Y0I).bind fun(n11,n12)=>some (s9,(n11,n12)))
def Y1E (p0:List (Ls × Bool × List (Ls × Ls × Ls))):Nat→List (Ls × Ls × Ls)→Int→Option (List (Ls × Ls × Ls))
 | 0,_,_=>none
 | m16+1,l13,n15=>(if n15<(p0.length:Int) then(idx p0 n15).bind fun a19=>(Y1v a19.2.2).bind fun l20=>(app 48 l13 l20).bind fun l22=>(chk (n15+1)).bind fun n23=>Y1E p0 m16 l22 n23 else some l13)
def Y30 (p0:List (Ls × Bool × List (Ls × Ls × Ls))):Option (List (Ls × Ls × Ls) × (Int × Int)) :=
 (Y1z p0).bind fun(n1,n2)=>(Y1k (n1,n2)).bind fun b4=>(if b4=true then some ([],(n1,n2)) else(Y1E p0 FU [] 0).bind fun l10=>(Y0I).bind fun(n25,n26)=>some (l10,(n25,n26)))
def Y0V  : Option Bool :=
 (Y3W ([([],false,([([65,46,32,66],[97],[120])]:List (Ls × Ls × Ls)))]:List (Ls × Bool × List (Ls × Ls × Ls)))).bind fun(s2,(n3,n4))=>(Y0U [103,58,32,97,64,120,44,32,98,64,120,59]).bind fun(l6,(n7,n8))=>(Y2w ([],[65],[88,46,69,120,97,109,112,108,101])).bind fun(s10,(n11,n12))=>(Y30 l6).bind fun(l14,(n15,n16))=>((if n3=(0:Int) then(if n7=(0:Int) then(if n11=(0:Int) then(if n15=(0:Int) then(if s2=[34,65,46,32,66,34,32,60,97,64,120,62] then(if (l6.length:Int)=(1:Int) then(idx l6 0).bind fun a27=>(if a27.2.1=true then(idx l6 0).bind fun a29=>(if a29.1=[103] then(if s10=[65,64,120,46,101,120,97,109,112,108,101] then(if (l14.length:Int)=(2:Int) then(idx l14 1).bind fun a33=>some (decide (a33.2.1=[98])) else some false) else some false) else some false) else some false) else some false) else some false) else some false) else some false) else some false) else some false)).bind fun b20=>some b20
def Y4d (p0:UInt8):Option Bool :=
 ((R_In (p0.toNat:Int) 97 122).bind fun b4=>(if b4=true then some true else(R_In (p0.toNat:Int) 65 90).bind fun b6=>(if b6=true then some true else(R_In (p0.toNat:Int) 48 57).bind fun b8=>some b8))).bind fun b3=>some b3
def Y3O (p0:UInt8)(p1:Ls):Nat→Int→Option (Unit ⊕ Bool)
 | 0,_=>none
 | m4+1,n3=>(if n3<(p1.length:Int) then(idx p1 n3).bind fun c6=>(if c6=p0 then some (.inr true) else(chk (n3+1)).bind fun n8=>Y3O p0 p1 m4 n8) else some (.inl ()))
def R_OneOf (p0:UInt8)(p1:Ls):Option Bool :=
 ((Y3O p0 p1 FU 0:Option (Unit ⊕ Bool))).bind fun o11=>(match o11 with | .inl _=>some false | .inr r10=>some r10)
def Y31 (p0:UInt8):Option Bool :=
 ((Y4d p0).bind fun b4=>(if b4=true then some true else(R_OneOf p0 [33,35,36,37,38,39,42,43,45,47,61,63,94,95,96,123,124,125,126]).bind fun b6=>some b6)).bind fun b3=>some b3
def Y0b (p0:Ls):Nat→Int→Int→Option (Int ⊕ (List (UInt8 × Ls) × Bool))
 | 0,_,_=>none
 | m24+1,n22,n23=>(if (p0.length:Int)≤n22 then some (.inr ([],false)) else(idx p0 n22).bind fun c26=>((if c26=40 then(chk (n23+1)).bind fun n31=>some n31 else some n23)).bind fun n29=>(idx p0 n22).bind fun c33=>((if c33=41 then(chk (n29-1)).bind fun n38=>some n38 else some n29)).bind fun n36=>(idx p0 n22).bind fun c40=>((if c40=92 then(chk (n22+1)).bind fun n45=>some n45 else some n22)).bind fun n43=>(chk (n43+1)).bind fun n47=>(if n36=(0:Int) then some (.inl n47) else Y0b p0 m24 n47 n36))
def Y0F (p0:Ls):Nat→Int→Ls→Option (Int × Ls)
 | 0,_,_=>none
 | m60+1,n58,s59=>((if n58<(p0.length:Int) then(idx p0 n58).bind fun c65=>some (!decide (c65=34)) else some false)).bind fun b63=>(if b63=true then((idx p0 n58).bind fun c71=>(if c71=92 then(chk (n58+1)).bind fun n73=>some (decide (n73<(p0.length:Int))) else some false)).bind fun b70=>((if b70=true then(chk (n58+1)).bind fun n79=>some n79 else some n58)).bind fun n77=>(chk (n77+1)).bind fun n81=>(cut p0 n77 n81).bind fun s82=>(cat s59 s82).bind fun s83=>(chk (n77+1)).bind fun n84=>Y0F p0 m60 n84 s83 else some (n58,s59))
def Y0G (p0:Ls):Nat→Int→Ls→Option (Int × Ls)
 | 0,_,_=>none
 | m102+1,n100,s101=>((if n100<(p0.length:Int) then(idx p0 n100).bind fun c107=>(Y31 c107).bind fun b108=>(if b108=true then some true else(idx p0 n100).bind fun c110=>some (decide (c110=46))) else some false)).bind fun b105=>(if b105=true then(chk (n100+1)).bind fun n113=>(cut p0 n100 n113).bind fun s114=>(cat s101 s114).bind fun s115=>(chk (n100+1)).bind fun n116=>Y0G p0 m102 n116 s115 else some (n100,s101))
def Y0c (p0:Ls):Nat→List (UInt8 × Ls)→Int→Option (List (UInt8 × Ls) ⊕ (List (UInt8 × Ls) × Bool))
 | 0,_,_=>none
 | m10+1,l7,n9=>(if n9<(p0.length:Int) then(idx p0 n9).bind fun c13=>(R_Blank c13).bind fun b14=>(if b14=true then(chk (n9+1)).bind fun n17=>Y0c p0 m10 l7 n17 else(if c13=40 then((Y0b p0 FU n9 0:Option (Int ⊕ (List (UInt8 × Ls) × Bool)))).bind fun o51=>(match o51 with | .inl n21=>Y0c p0 m10 l7 n21 | .inr r50=>some (.inr r50)) else(if c13=34 then(chk (n9+1)).bind fun n53=>(Y0F p0 FU n53 []).bind fun(n56,s57)=>(if (p0.length:Int)≤n56 then some (.inr ([],false)) else(chk (n56+1)).bind fun n87=>(app 24 l7 ([(113,s57)]:List (UInt8 × Ls))).bind fun l88=>Y0c p0 m10 l88 n87) else((Y31 c13).bind fun b92=>(if b92=true then some true else some (decide (c13=46)))).bind fun b91=>(if b91=true then(Y0G p0 FU n9 []).bind fun(n98,s99)=>(app 24 l7 ([(119,s99)]:List (UInt8 × Ls))).bind fun l118=>Y0c p0 m10 l118 n98 else(R_OneOf c13 [58,59,44,64,60,62]).bind fun b119=>(if b119=true then(app 24 l7 ([(c13,[])]:List (UInt8 × Ls))).bind fun l122=>(chk (n9+1)).bind fun n123=>Y0c p0 m10 l122 n123 else some (.inr ([],false))))))) else some (.inl l7))
def Y2m (p0:Ls):Option (List (UInt8 × Ls) × Bool) :=
 ((Y0c p0 FU [] 0:Option (List (UInt8 × Ls) ⊕ (List (UInt8 × Ls) × Bool)))).bind fun o127=>(match o127 with | .inl l4=>some (l4,true) | .inr r126=>some r126)
def Y2P (p0:List (UInt8 × Ls))(p1:Bool):Nat→List (List (UInt8 × Ls))→List (UInt8 × Ls)→Bool→Int→Option (List (List (UInt8 × Ls)) × List (UInt8 × Ls))
 | 0,_,_,_,_=>none
 | m21+1,l12,l17,b19,n20=>(if n20<(p0.length:Int) then((idx p0 n20).bind fun a29=>(if a29.1=58 then some (!p1) else some false)).bind fun b28=>((if b28=true then some true else some b19)).bind fun b34=>(idx p0 n20).bind fun a37=>((if a37.1=59 then some false else some b34)).bind fun b40=>((idx p0 n20).bind fun a46=>(if a46.1=44 then some (!b40) else some false)).bind fun b45=>(if b45=true then(app 24 l12 ([l17]:List (List (UInt8 × Ls)))).bind fun l52=>(chk (n20+1)).bind fun n53=>Y2P p0 p1 m21 l52 [] b40 n53 else(idx p0 n20).bind fun a55=>(app 24 l17 ([(a55.1,a55.2)]:List (UInt8 × Ls))).bind fun l56=>(chk (n20+1)).bind fun n57=>Y2P p0 p1 m21 l12 l56 b40 n57) else some (l12,l17))
def R_cut (p0:List (UInt8 × Ls))(p1:Bool):Option (List (List (UInt8 × Ls))) :=
 (Y2P p0 p1 FU [] [] false 0).bind fun(l4,l9)=>(app 24 l4 ([l9]:List (List (UInt8 × Ls)))).bind fun l61=>some l61
def Y2p (p0:List (UInt8 × Ls)):Nat→Int→Option (Unit ⊕ Bool)
 | 0,_=>none
 | m4+1,n3=>(if n3<(p0.length:Int) then((idx p0 n3).bind fun a9=>(if a9.1=119 then some false else(idx p0 n3).bind fun a11=>some (!decide (a11.1=113)))).bind fun b8=>(if b8=true then some (.inr false) else(chk (n3+1)).bind fun n14=>Y2p p0 m4 n14) else some (.inl ()))
def R_words (p0:List (UInt8 × Ls)):Option Bool :=
 ((Y2p p0 FU 0:Option (Unit ⊕ Bool))).bind fun o17=>(match o17 with | .inl _=>some true | .inr r16=>some r16)
def Y1F (p0:Ls):Nat→Int→Option (Unit ⊕ Bool)
 | 0,_=>none
 | m4+1,n3=>(if n3<(p0.length:Int) then(idx p0 n3).bind fun c6=>(R_In (c6.toNat:Int) 32 126).bind fun b7=>(if b7=true then(chk (n3+1)).bind fun n10=>Y1F p0 m4 n10 else some (.inr false)) else some (.inl ()))
def Y32 (p0:Ls):Option Bool :=
 ((Y1F p0 FU 0:Option (Unit ⊕ Bool))).bind fun o15=>(match o15 with | .inl _=>(R_In (p0.length:Int) 1 60).bind fun b12=>some b12 | .inr r14=>some r14)
def Y1X (p0:Ls)(p1:Bool):Nat→Bool→Int→Option (Bool ⊕ Bool)
 | 0,_,_=>none
 | m6+1,b4,n5=>(if n5<(p0.length:Int) then(idx p0 n5).bind fun c8=>(if c8=46 then(if b4=true then some (.inr false) else(chk (n5+1)).bind fun n11=>Y1X p0 p1 m6 true n11) else((idx p0 n5).bind fun c15=>(Y31 c15).bind fun b16=>(if b16=true then(if p1=true then(idx p0 n5).bind fun c18=>(Y4d c18).bind fun b19=>(if b19=true then some false else(idx p0 n5).bind fun c21=>some (!decide (c21=45))) else some false) else some true)).bind fun b14=>(if b14=true then some (.inr false) else(chk (n5+1)).bind fun n24=>Y1X p0 p1 m6 false n24)) else some (.inl b4))
def Y2y (p0:Ls)(p1:Bool):Option Bool :=
 ((Y1X p0 p1 FU true 0:Option (Bool ⊕ Bool))).bind fun o27=>(match o27 with | .inl b3=>some (!b3) | .inr r26=>some r26)
def Y13 (p0:List (UInt8 × Ls)):Option ((Ls × Ls × Ls) × Bool) :=
 ((if (p0.length:Int)=(3:Int) then(idx p0 1).bind fun a5=>(if a5.1=64 then(idx p0 2).bind fun a7=>(if a7.1=119 then(idx p0 0).bind fun a9=>(if a9.1=119 then some false else(idx p0 0).bind fun a11=>some (!decide (a11.1=113))) else some true) else some true) else some true)).bind fun b3=>(if b3=true then some (([],[],[]),false) else(idx p0 0).bind fun a14=>(idx p0 2).bind fun a15=>((Y32 a14.2).bind fun b23=>(if b23=true then(idx p0 0).bind fun a25=>(if a25.1=113 then(if (a15.2.length:Int)≤(60:Int) then(Y2y a15.2 true).bind fun b28=>some ([],a14.2,a15.2,b28) else some ([],a14.2,a15.2,false)) else(Y2y a14.2 false).bind fun b30=>(if b30=true then(if (a15.2.length:Int)≤(60:Int) then(Y2y a15.2 true).bind fun b33=>some ([],a14.2,a15.2,b33) else some ([],a14.2,a15.2,false)) else some ([],a14.2,a15.2,false))) else some ([],a14.2,a15.2,false))).bind fun(s19,s20,s21,b22)=>some ((s19,s20,s21),b22))
def Y2J (p0:List (UInt8 × Ls)):Nat→Int→Option (Unit ⊕ Bool)
 | 0,_=>none
 | m6+1,n5=>(if (0:Int)≤n5 then(idx p0 n5).bind fun a8=>(if a8.1=113 then some (.inr true) else(chk (n5-1)).bind fun n10=>Y2J p0 m6 n10) else some (.inl ()))
def R_first (p0:List (UInt8 × Ls))(p1:Int):Option Bool :=
 (idx p0 p1).bind fun a1=>(if a1.1=113 then some (decide ((0:Int)<p1)) else((Y2J p0 FU p1:Option (Unit ⊕ Bool))).bind fun o13=>(match o13 with | .inl _=>some false | .inr r12=>some r12))
def Y2C (p0:List (UInt8 × Ls)):Nat→Int→Ls→Option (Int × Ls)
 | 0,_,_=>none
 | m21+1,n19,s20=>((chk (n19+1)).bind fun n25=>(if n25<(p0.length:Int) then(chk (n19+1)).bind fun n27=>(idx p0 n27).bind fun a28=>some (decide (a28.1=119)) else some false)).bind fun b24=>(if b24=true then(chk (n19+1)).bind fun n31=>(cat s20 [32]).bind fun s32=>(idx p0 n31).bind fun a33=>(cat s32 a33.2).bind fun s34=>Y2C p0 m21 n31 s34 else some (n19,s20))
def Y14 (p0:List (UInt8 × Ls)):Nat→Ls→Int→Option Ls
 | 0,_,_=>none
 | m6+1,s4,n5=>(if n5<(p0.length:Int) then(idx p0 n5).bind fun a8=>(idx p0 n5).bind fun a9=>((if a9.1=119 then(Y2C p0 FU n5 a8.2).bind fun(n17,s18)=>(Y3p s18).bind fun s36=>some (n17,s36) else some (n5,a8.2))).bind fun(n12,s13)=>((if s4=[] then(if (0:Int)<n12 then(if (0:Int)<(p0.length:Int) then(R_first p0 n12).bind fun b45=>some b45 else some false) else some false) else some true)).bind fun b41=>((if b41=true then(cat s4 [32]).bind fun s52=>some s52 else some s4)).bind fun s50=>(cat s50 s13).bind fun s54=>(chk (n12+1)).bind fun n55=>Y14 p0 m6 s54 n55 else some s4)
def Y3X (p0:List (UInt8 × Ls)):Option Ls :=
 (Y14 p0 FU [] 0).bind fun s3=>some s3
def Y0g (p0:List (UInt8 × Ls)):Nat→Ls→Ls→Ls→Int→Option ((Ls × Ls × Ls) ⊕ ((Ls × Ls × Ls) × Bool))
 | 0,_,_,_,_=>none
 | m10+1,s6,s7,s8,n9=>(if n9<(p0.length:Int) then(idx p0 n9).bind fun a12=>(if a12.1=60 then((chk ((p0.length:Int)-1)).bind fun n18=>(idx p0 n18).bind fun a19=>(if a19.1=62 then(cut p0 0 n9).bind fun l21=>(R_words l21).bind fun b22=>some (!b22) else some true)).bind fun b17=>(if b17=true then some (.inr (([],[],[]),false)) else(chk (n9+1)).bind fun n26=>(chk ((p0.length:Int)-1)).bind fun n27=>(cut p0 n26 n27).bind fun l28=>(Y13 l28).bind fun((s29,s30,s31),b32)=>(cut p0 0 n9).bind fun l34=>(Y3X l34).bind fun s35=>some (.inr ((s35,s30,s31),b32))) else(chk (n9+1)).bind fun n14=>Y0g p0 m10 s6 s7 s8 n14) else some (.inl (s6,s7,s8)))
def Y3P (p0:List (UInt8 × Ls)):Option ((Ls × Ls × Ls) × Bool) :=
 ((Y0g p0 FU [] [] [] 0:Option ((Ls × Ls × Ls) ⊕ ((Ls × Ls × Ls) × Bool)))).bind fun o44=>(match o44 with | .inl (s3,s4,s5)=>(Y13 p0).bind fun((s38,s39,s40),b41)=>some ((s38,s39,s40),b41) | .inr r43=>some r43)
def Y1G (a28:List (UInt8 × Ls)):Nat→Int→Int→Option Int
 | 0,_,_=>none
 | m35+1,n33,n34=>(if (0:Int)≤n34 then(idx a28 n34).bind fun a37=>(if a37.1=58 then(chk (n34-1)).bind fun n39=>Y1G a28 m35 n34 n39 else(chk (n34-1)).bind fun n40=>Y1G a28 m35 n33 n40) else some n33)
def Y1H (l77:List (List (UInt8 × Ls))):Nat→Ls→Bool→List (Ls × Ls × Ls)→Int→Option ((Ls × Bool × List (Ls × Ls × Ls)) ⊕ (List (Ls × Bool × List (Ls × Ls × Ls)) × Bool))
 | 0,_,_,_,_=>none
 | m92+1,s86,b87,l89,n91=>(if n91<(l77.length:Int) then(idx l77 n91).bind fun a95=>(Y3P a95).bind fun((s96,s97,s98),b99)=>(if b99=true then(app 48 l89 ([(s96,s97,s98)]:List (Ls × Ls × Ls))).bind fun l102=>(chk (n91+1)).bind fun n103=>Y1H l77 m92 s86 b87 l102 n103 else some (.inr ([],false))) else some (.inl (s86,b87,l89)))
def Y0w (l9:List (List (UInt8 × Ls))):Nat→List (Ls × Bool × List (Ls × Ls × Ls))→Int→Option (List (Ls × Bool × List (Ls × Ls × Ls)) ⊕ (List (Ls × Bool × List (Ls × Ls × Ls)) × Bool))
 | 0,_,_=>none
 | m24+1,l19,n23=>(if n23<(l9.length:Int) then(idx l9 n23).bind fun a28=>(chk ((a28.length:Int)-1)).bind fun n29=>(Y1G a28 FU (-1) n29).bind fun n32=>(if n32<(0:Int) then(Y3P a28).bind fun((s43,s44,s45),b46)=>(if b46=true then(app 48 l19 ([([],false,([(s43,s44,s45)]:List (Ls × Ls × Ls)))]:List (Ls × Bool × List (Ls × Ls × Ls)))).bind fun l50=>(chk (n23+1)).bind fun n51=>Y0w l9 m24 l50 n51 else some (.inr ([],false))) else(cut a28 0 n32).bind fun l52=>(Y3X l52).bind fun s53=>((cut a28 0 n32).bind fun l58=>(R_words l58).bind fun b59=>(if b59=true then(if s53=[] then some true else(chk ((a28.length:Int)-1)).bind fun n62=>(idx a28 n62).bind fun a63=>some (!decide (a63.1=59))) else some true)).bind fun b57=>(if b57=true then some (.inr ([],false)) else(chk (n32+1)).bind fun n66=>(chk ((a28.length:Int)-1)).bind fun n67=>(cut a28 n66 n67).bind fun l68=>(((if (0:Int)<(l68.length:Int) then(R_cut l68 true).bind fun l77=>((Y1H l77 FU s53 true [] 0:Option ((Ls × Bool × List (Ls × Ls × Ls)) ⊕ (List (Ls × Bool × List (Ls × Ls × Ls)) × Bool)))).bind fun o106=>(match o106 with | .inl (s81,b82,l84)=>some (.inl (s81,b82,l84)) | .inr r105=>some (.inr r105)) else some (.inl (s53,true,[]))):Option ((Ls × Bool × List (Ls × Ls × Ls)) ⊕ (List (Ls × Bool × List (Ls × Ls × Ls)) × Bool)))).bind fun o114=>(match o114 with | .inl (s71,b72,l74)=>(app 48 l19 ([(s71,b72,l74)]:List (Ls × Bool × List (Ls × Ls × Ls)))).bind fun l111=>(chk (n23+1)).bind fun n112=>Y0w l9 m24 l111 n112 | .inr r113=>some (.inr r113)))) else some (.inl l19))
def Y47 (p0:Ls):Option (List (Ls × Bool × List (Ls × Ls × Ls)) × Bool) :=
 (Y2m p0).bind fun(l1,b2)=>((if b2=true then some (decide ((l1.length:Int)=(0:Int))) else some true)).bind fun b6=>(if b6=true then some ([],b2) else(R_cut l1 false).bind fun l9=>((Y0w l9 FU [] 0:Option (List (Ls × Bool × List (Ls × Ls × Ls)) ⊕ (List (Ls × Bool × List (Ls × Ls × Ls)) × Bool)))).bind fun o118=>(match o118 with | .inl l14=>some (l14,true) | .inr r117=>some r117))
def Y1T (p0:Ls):Option Int :=
 (if (500:Int)<(p0.length:Int) then some 1 else(R_Valid p0).bind fun b2=>(if b2=true then some 0 else some 5))
def Y1Y (p0:(Ls × Ls × Ls)):Option (Int × Int) :=
 (Y1T p0.1).bind fun n1=>(if n1=(0:Int) then(Y32 p0.2.1).bind fun b9=>(if b9=true then((if (60:Int)<(p0.2.2.length:Int) then some true else(Y2y p0.2.2 true).bind fun b19=>some (!b19))).bind fun b17=>(if b17=true then(R_At 10 (-5)).bind fun(n23,n24)=>some (n23,n24) else some (0,0)) else(R_At 10 (-4)).bind fun(n12,n13)=>some (n12,n13)) else(Y1T p0.1).bind fun n4=>(R_At n4 (-3)).bind fun(n6,n7)=>some (n6,n7))
def Y15 (p0:List (Ls × Bool × List (Ls × Ls × Ls))):Nat→Int→Int→Option Int
 | 0,_,_=>none
 | m6+1,n4,n5=>(if n5<(p0.length:Int) then(idx p0 n5).bind fun a8=>(chk (n5+1)).bind fun n9=>Y15 p0 m6 (IntKind.i64.wrap (n4+(a8.2.2.length:Int))) n9 else some n4)
def Y0P (n26:Int)(a29:(Ls × Bool × List (Ls × Ls × Ls))):Nat→Int→Int→Int→Option ((Int × Int) ⊕ (Int × Int))
 | 0,_,_,_=>none
 | m59+1,n56,n57,n58=>(if n58<(a29.2.2.length:Int) then(idx a29.2.2 n58).bind fun a61=>(Y1Y (a61.1,a61.2.1,a61.2.2)).bind fun(n62,n63)=>(if n62=(0:Int) then(chk (n58+1)).bind fun n69=>Y0P n26 a29 m59 n56 n57 n69 else(R_At n62 n26).bind fun(n66,n67)=>some (.inr (n66,n67))) else some (.inl (n56,n57)))
def Y16 (p0:List (Ls × Bool × List (Ls × Ls × Ls))):Nat→Int→Int→Int→Option ((Int × Int) ⊕ (Int × Int))
 | 0,_,_,_=>none
 | m27+1,n24,n25,n26=>(if n26<(p0.length:Int) then(idx p0 n26).bind fun a29=>(Y1T a29.1).bind fun n30=>(if n30=(0:Int) then((if a29.2.1=true then(if a29.1=[] then some true else(if a29.2.1=true then some false else(if a29.1=[] then some (!decide ((a29.2.2.length:Int)=(1:Int))) else some true))) else(if a29.2.1=true then some false else(if a29.1=[] then some (!decide ((a29.2.2.length:Int)=(1:Int))) else some true)))).bind fun b40=>(if b40=true then(R_At 5 n26).bind fun(n49,n50)=>some (.inr (n49,n50)) else((Y0P n26 a29 FU n24 n25 0:Option ((Int × Int) ⊕ (Int × Int)))).bind fun o73=>(match o73 with | .inl (n54,n55)=>(chk (n26+1)).bind fun n71=>Y16 p0 m27 n54 n55 n71 | .inr r72=>some (.inr r72))) else(Y1T a29.1).bind fun n33=>(R_At n33 n26).bind fun(n35,n36)=>some (.inr (n35,n36))) else some (.inl (n24,n25)))
def Y24 (p0:List (Ls × Bool × List (Ls × Ls × Ls))):Option (Int × Int) :=
 (Y15 p0 FU 0 0).bind fun n3=>((if (60:Int)<(p0.length:Int) then some true else some (decide ((60:Int)<n3)))).bind fun b13=>(if b13=true then(R_At 2 (-1)).bind fun(n17,n18)=>some (n17,n18) else((Y16 p0 FU 0 0 0:Option ((Int × Int) ⊕ (Int × Int)))).bind fun o76=>(match o76 with | .inl (n22,n23)=>some (0,0) | .inr r75=>some r75))
def Y0H (p0:List (Ls × Ls × Ls))(p1:List (Ls × Ls × Ls)):Nat→Int→Option (Unit ⊕ Bool)
 | 0,_=>none
 | m5+1,n4=>(if n4<(p0.length:Int) then(idx p0 n4).bind fun a7=>(idx p1 n4).bind fun a8=>(if a7.1=a8.1∧a7.2.1=a8.2.1∧a7.2.2=a8.2.2 then(chk (n4+1)).bind fun n10=>Y0H p0 p1 m5 n10 else some (.inr false)) else some (.inl ()))
def Y21 (p0:List (Ls × Ls × Ls))(p1:List (Ls × Ls × Ls)):Option Bool :=
 (if (p0.length:Int)=(p1.length:Int) then((Y0H p0 p1 FU 0:Option (Unit ⊕ Bool))).bind fun o13=>(match o13 with | .inl _=>some true | .inr r12=>some r12) else some false)
def Y1h (p0:List (Ls × Bool × List (Ls × Ls × Ls)))(p1:List (Ls × Bool × List (Ls × Ls × Ls))):Nat→Int→Option (Unit ⊕ Bool)
 | 0,_=>none
 | m5+1,n4=>(if n4<(p0.length:Int) then((idx p0 n4).bind fun a10=>(idx p1 n4).bind fun a11=>(if a10.1=a11.1 then(idx p0 n4).bind fun a13=>(idx p1 n4).bind fun a14=>(if a13.2.1=a14.2.1 then(idx p0 n4).bind fun a16=>(idx p1 n4).bind fun a17=>(Y21 a16.2.2 a17.2.2).bind fun b18=>some (!b18) else some true) else some true)).bind fun b9=>(if b9=true then some (.inr false) else(chk (n4+1)).bind fun n22=>Y1h p0 p1 m5 n22) else some (.inl ()))
def Y33 (p0:List (Ls × Bool × List (Ls × Ls × Ls)))(p1:List (Ls × Bool × List (Ls × Ls × Ls))):Option Bool :=
 (if (p0.length:Int)=(p1.length:Int) then((Y1h p0 p1 FU 0:Option (Unit ⊕ Bool))).bind fun o25=>(match o25 with | .inl _=>some true | .inr r24=>some r24) else some false)
def Y1i (p0:Ls):Option Bool :=
 (Y0V).bind fun b1=>(if b1=true then(Y0U p0).bind fun(l4,(n5,n6))=>(if (4000:Int)<(p0.length:Int) then((R_At 1 (-1)).bind fun(n12,n13)=>(if n5=n12∧n6=n13 then some (decide ((l4.length:Int)=(0:Int))) else some false)).bind fun b11=>some b11 else(Y47 p0).bind fun(l17,b18)=>(if b18=true then(Y24 l17).bind fun(n28,n29)=>(if n28=(0:Int) then((if n5=(0:Int) then(Y33 l4 l17).bind fun b44=>some b44 else some false)).bind fun b42=>some b42 else((R_At n28 (-2)).bind fun(n35,n36)=>(if n5=n35∧n6=n36 then some (decide ((l4.length:Int)=(0:Int))) else some false)).bind fun b34=>some b34) else((if n5=(11:Int) then(R_In n6 0 (p0.length:Int)).bind fun b25=>(if b25=true then some (decide ((l4.length:Int)=(0:Int))) else some false) else some false)).bind fun b23=>some b23)) else some false)
end Go.Ph.Pf
end
section
namespace Go.Proofs.YtkmjdamkifbddaaGreatDoor
open Go Go.RowKit Go.Ph Go.Ph.Pl Go.Ph.Pf
abbrev xenc24 (x:(Ls × Ls × Ls)):List Value:=[S x.1,S x.2.1,S x.2.2]
abbrev xenc136 (x:(Ls × Bool)):List Value:=[S x.1,Value.bool x.2]
abbrev xenc83 (x:(UInt8 × Ls)):List Value:=[encB x.1,S x.2]
theorem xty55 : ElemTy Tryz.prog 55 9 (.string ⟨#[]⟩) 1 16:=q1J Tu55 Kr rfl Dc
theorem xty88 : ElemTy Tryz.prog 88 5 (.int .u8 0) 1 1:=q1J Tu88 Kr rfl Dc
theorem xone1_5 :(Tryz.prog.info? 5).map (·.size)=some 1:=by kernel_rfl
theorem xty30 : ElemTy Tryz.prog 30 24 (.agg #[.string ⟨#[]⟩, .string ⟨#[]⟩, .string ⟨#[]⟩]) 3 48:=q1J Tu30 Kr rfl Dc
theorem xone24 :∀(a:(Ls × Ls × Ls)),∀u∈xenc24 a,u.oneCell'=true:=by
 intro a u hu;simp only[xenc24,l0T,l0G,or_false] at hu;rcases hu with rfl|rfl|rfl <;> rfl
theorem xplaces24 :∀{fs:Array Field},Tryz.prog.underlying 24=some (.struct fs)→∀w,(fs.mapM fun f=>do pure (f.offset,←sizeOf f.type):Sem (Array (Nat × Nat))).run Tryz.prog w = .ok #[(0,1),(1,1),(2,1)] w:=by
 intro fs h w;rw[Tu24] at h;cases h;simp
theorem xplaces34 :∀{fs:Array Field},Tryz.prog.underlying 34=some (.struct fs)→∀w,(fs.mapM fun f=>do pure (f.offset,←sizeOf f.type):Sem (Array (Nat × Nat))).run Tryz.prog w = .ok #[(0,1),(1,1),(2,1)] w:=by
 intro fs h w;rw[Tu34] at h;cases h;simp
abbrev xenr34 (f:(Ls × Bool × Hd)):List Value:=[S f.1,Value.bool f.2.1,hv f.2.2]
abbrev xrl34 : Rl (Ls × Bool × Hd) (Ls × Bool × List (Ls × Ls × Ls)) where
 k:=3
 enc:=xenr34
 rel M f x:=f.1=x.1∧f.2.1=x.2.1∧SlS M 3 xenc24 (hv f.2.2) x.2.2
 len:=fun _=>rfl
 one:=by
  intro f u hu;simp only[l0T,l0G,or_false] at hu;rcases hu with rfl|rfl|rfl <;> rfl
 up:=by intro M M' hl f x h;exact ⟨h.1,h.2.1,h.2.2.mono hl⟩
theorem xty22 : ElemTy Tryz.prog 22 34 (.agg #[.string ⟨#[]⟩, .bool false, .slice none 0 0]) 3 48:=q1J Tu22 Kr rfl Dc
theorem xplaces27 :∀{fs:Array Field},Tryz.prog.underlying 27=some (.struct fs)→∀w,(fs.mapM fun f=>do pure (f.offset,←sizeOf f.type):Sem (Array (Nat × Nat))).run Tryz.prog w = .ok #[(0,1),(1,1)] w:=by
 intro fs h w;rw[Tu27] at h;cases h;simp
def FnT90 (M:Mem)(v:Value)(g:(UInt8→Option Bool)):Prop:=One v∧∀(a0:UInt8) (r:Bool),g a0=some r→FnV Tryz.prog M v [encB a0] (fun v M=>v=Value.bool r)
theorem FnT90.mono {M M':Mem}{v:Value}{g:(UInt8→Option Bool)}(h:FnT90 M v g)(hl:M.le M'):FnT90 M' v g:=⟨h.1,fun a0 r hr=>(h.2 a0 r hr).mono hl⟩
theorem xplaces72 :∀{fs:Array Field},Tryz.prog.underlying 72=some (.struct fs)→∀w,(fs.mapM fun f=>do pure (f.offset,←sizeOf f.type):Sem (Array (Nat × Nat))).run Tryz.prog w = .ok #[(0,1),(1,1)] w:=by
 intro fs h w;rw[Tu72] at h;cases h;simp
theorem xplaces69 :∀{fs:Array Field},Tryz.prog.underlying 69=some (.struct fs)→∀w,(fs.mapM fun f=>do pure (f.offset,←sizeOf f.type):Sem (Array (Nat × Nat))).run Tryz.prog w = .ok #[(0,1)] w:=by
 intro fs h w;rw[Tu69] at h;cases h;simp
theorem xplaces136 :∀{fs:Array Field},Tryz.prog.underlying 136=some (.struct fs)→∀w,(fs.mapM fun f=>do pure (f.offset,←sizeOf f.type):Sem (Array (Nat × Nat))).run Tryz.prog w = .ok #[(0,1),(1,1)] w:=by
 intro fs h w;rw[Tu136] at h;cases h;simp
theorem xty107 : ElemTy Tryz.prog 107 136 (.agg #[.string ⟨#[]⟩, .bool false]) 2 24:=q1J Tu107 Kr rfl Dc
theorem xone136 :∀(a:(Ls × Bool)),∀u∈xenc136 a,u.oneCell'=true:=by
 intro a u hu;simp only[xenc136,l0T,l0G,or_false] at hu;rcases hu with rfl|rfl <;> rfl
theorem xeq27 (a0 b0:Int)(a1 b1:Int)(w:World):(Op.equalIn 10000 27 (.agg #[.int .i64 a0, .int .i64 a1]) (.agg #[.int .i64 b0, .int .i64 b1])).run Tryz.prog w = .ok (decide (a0=b0∧a1=b1)) w:=by
 rw[run_equalIn_struct w 9999 27 _ _ (by rw[Program.fieldsOf,Tu27]) Kr];rw[Program.fieldsOf,Tu27];by_cases h0:a0=b0
 rotate_left
 · simp [Op.eqFields,part,h0,Ta3,run_equalIn_int _ _ _ _ _ _ _ Tu3]
 by_cases h1:a1=b1
 rotate_left
 · simp [Op.eqFields,part,h0,h1,Ta3,run_equalIn_int _ _ _ _ _ _ _ Tu3]
 simp [Op.eqFields,part,h0,h1,Ta3,run_equalIn_int _ _ _ _ _ _ _ Tu3]
theorem xplaces83 :∀{fs:Array Field},Tryz.prog.underlying 83=some (.struct fs)→∀w,(fs.mapM fun f=>do pure (f.offset,←sizeOf f.type):Sem (Array (Nat × Nat))).run Tryz.prog w = .ok #[(0,1),(1,1)] w:=by
 intro fs h w;rw[Tu83] at h;cases h;simp
theorem xty77 : ElemTy Tryz.prog 77 83 (.agg #[.int .u8 0, .string ⟨#[]⟩]) 2 24:=q1J Tu77 Kr rfl Dc
theorem xone83 :∀(a:(UInt8 × Ls)),∀u∈xenc83 a,u.oneCell'=true:=by
 intro a u hu;simp only[xenc83,l0T,l0G,or_false] at hu;rcases hu with rfl|rfl <;> rfl
abbrev xenr77 (f:Hd):List Value:=[hv f]
abbrev xrl77 : Rl Hd (List (UInt8 × Ls)) where
 k:=1
 enc:=xenr77
 rel M f x:=SlS M 2 xenc83 (hv f) x
 len:=fun _=>rfl
 one:=by
  intro f u hu;simp only[l0T,l0G,or_false] at hu;rcases hu with rfl <;> rfl
 up:=by intro M M' hl f x h;exact h.mono hl
theorem xty80 : ElemTy Tryz.prog 80 77 (.slice none 0 0) 1 24:=q1J Tu80 Kr rfl Dc
theorem xeq24 (a0 b0:Ls)(a1 b1:Ls)(a2 b2:Ls)(w:World):(Op.equalIn 10000 24 (.agg #[S a0,S a1,S a2]) (.agg #[S b0,S b1,S b2])).run Tryz.prog w = .ok (decide (a0=b0∧a1=b1∧a2=b2)) w:=by
 rw[run_equalIn_struct w 9999 24 _ _ (by rw[Program.fieldsOf,Tu24]) Kr];rw[Program.fieldsOf,Tu24];by_cases h0:a0=b0
 rotate_left
 · simp [Op.eqFields,part,h0,Ta9,run_equalIn_string _ _ _ _ _ Tu9]
 by_cases h1:a1=b1
 rotate_left
 · simp [Op.eqFields,part,h0,h1,Ta9,run_equalIn_string _ _ _ _ _ Tu9]
 by_cases h2:a2=b2
 rotate_left
 · simp [Op.eqFields,part,h0,h1,h2,Ta9,run_equalIn_string _ _ _ _ _ Tu9]
 simp [Op.eqFields,part,h0,h1,h2,Ta9,run_equalIn_string _ _ _ _ _ Tu9]
theorem indexByte_ixB (l:Ls)(c:UInt8):Lib.indexByte l c=ixB l c:=by
 unfold ixB;induction l with
 | nil=>simp [Lib.indexByte]
 | cons b l ih =>
   simp only[Lib.indexByte,List.idxOf_cons,l02];by_cases h:b=c
   · subst h;simp
   have h':(b == c)=false:=by simpa using h
   rw[h',ih];simp only[l0h,if_false,cond_false];by_cases hl:l.idxOf c<l.length
   · have h1:l.idxOf c+1<l.length+1:=by omega
     have h2 :¬(((l.idxOf c:Int) == -1)=true):=by simp only[beq_iff_eq];omega
     simp only[hl,h1,if_true,h2,if_false,l0h];omega
   have h1 :¬(l.idxOf c+1<l.length+1):=by omega
   simp only[hl,h1,if_false];rfl
theorem join_jn (sep:Ls):∀l:List Ls,Lib.join l sep=jn sep l
 | []=>rfl
 | [x]=>Lib.join_one x sep
 | x::y::r=>by
   have h:=join_jn sep (y::r);rw[Lib.join_cons] at h ⊢;rw[jn,←h];simp [Lib.joinTail]
theorem Y3w {p0:Ls}{r:Bool}(h:Y0Q p0=some r):Ct Tryz.prog 65 [S p0] (fun M=>Tabs M) (fun v M=>v=Value.bool r):=by
 unfold Y0Q at h;split at h
 case isFalse=>cases h
 rename_i hb;cases h;exact validString_spec p0 hb
theorem Y5j {p0:Ls}{r:Bool}(h:R_Valid p0=some r):Ct Tryz.prog 71 [S p0] (fun M=>True) (fun v M=>v=Value.bool r):=by
 unfold R_Valid at h;split at h
 case isFalse=>cases h
 rename_i hb;cases h;exact valid_spec p0 hb
theorem Y4V {p0:Ls}{r:Ls}(h:Y3q p0=some r):Ct Tryz.prog 55 [S p0] (fun M=>True) (fun v M=>v=S r):=by
 unfold Y3q at h;split at h
 case isFalse=>cases h
 rename_i hb;cases h;exact lower_spec p0 hb
theorem Y4A {p0:Ls}{r:Ls}(h:R_Lower p0=some r):Ct Tryz.prog 24 [S p0] (fun M=>True) (fun v M=>v=S r):=by
 unfold R_Lower at h;split at h
 case isFalse=>cases h
 rename_i hb;cases h;exact rlower_spec p0 hb
theorem Y5k {p0:Ls}{r:Int}(h:R_SetOf p0=some r):Ct Tryz.prog 152 [S p0] (fun M=>True) (fun v M=>v=I r):=by
 unfold R_SetOf at h;split at h
 case isFalse=>cases h
 rename_i hb;cases h;exact setOf_spec p0 hb
theorem Y4B {p0:Ls}{p1:Ls}{vp1:Value}{r:(Ls × (Int × Int))}(h:Y2t p0 p1=some r):Ct Tryz.prog 186 [S p0,vp1] (fun M=>Sl M encB vp1 p1) (fun v M=>v=Value.tuple #[S r.1,Value.agg #[I r.2.1,I r.2.2]]):=by
 unfold Y2t at h;split at h
 case isFalse=>cases h
 rename_i hb;split at h
 · rename_i k hk;cases h;exact decode_spec_k p0 vp1 p1 hb.1 hb.2 k hk
 rename_i hk;cases h;exact decode_unk p0 vp1 p1 hb.1 hb.2 hk
theorem Y59 {p0:Int}{p1:Ls}{vp1:Value}{r:Ls}(h:Y44 p0 p1=some r):Ct Tryz.prog 160 [I p0,vp1] (fun M=>Sl M encB vp1 p1) (fun v M=>v=S r):=by
 unfold Y44 at h;split at h
 case isFalse=>cases h
 rename_i hb;cases h;obtain⟨k,rfl⟩:=l1a hb.1;exact decoded_spec_k vp1 p1 hb.2.2 k Om
theorem Y4H {p0:Ls}{vp0:Value}{r:(Ls × (Int × Int))}(h:Y3j p0=some r):Ct Tryz.prog 171 [vp0] (fun M=>Sl M encB vp0 p0) (fun v M =>∃x0,v=Value.tuple #[x0,Value.agg #[I r.2.1,I r.2.2]]∧Sl M encB x0 r.1):=by
 unfold Y3j at h;split at h
 case isFalse=>cases h
 rename_i hb;cases h;exact encode_spec vp0 p0 hb
theorem Y4C {p0:Ls}{vp0:Value}{r:(Ls × (Int × Int))}(h:Y36 p0=some r):Ct Tryz.prog 209 [vp0] (fun M=>Sl M encB vp0 p0) (fun v M =>∃x0,v=Value.tuple #[x0,Value.agg #[I r.2.1,I r.2.2]]∧Sl M encB x0 r.1):=by
 unfold Y36 at h;split at h
 case isFalse=>cases h
 rename_i hb;cases h;exact lenient_spec vp0 p0 hb
theorem Y5a {p0:Ls}{vp0:Value}{r:Ls}(h:Y3J p0=some r):Ct Tryz.prog 153 [vp0] (fun M=>Sl M encB vp0 p0) (fun v M=>v=S r):=by
 unfold Y3J at h;split at h
 case isFalse=>cases h
 rename_i hb;cases h;exact chars64_spec vp0 p0 hb
theorem Y5b {p0:Ls}{vp0:Value}{r:Ls}(h:Y4r p0=some r):Ct Tryz.prog 158 [vp0] (fun M=>Sl M encB vp0 p0) (fun v M=>Sl M encB v r):=by
 unfold Y4r at h;split at h
 case isFalse=>cases h
 rename_i hb;cases h;exact loose64_spec vp0 p0 hb
theorem Y3z {p0:Ls}{r:Int × Int}(h:Y0M p0=some r):Ct Tryz.prog 130 [S p0] (fun M=>Tabs M) (fun v M=>v=Value.tuple #[Value.int .i32 r.1,I r.2]):=by
 unfold Y0M at h;split at h
 case isFalse=>cases h
 rename_i hb;cases h;exact decode_spec p0 hb
theorem countByte_P (c:UInt8):∀l:Ls,Lib.countByte l c=((l.countP fun x=>decide ([c]=[x]):Nat):Int):=by
 intro l;induction l with
 | nil=>rfl
 | cons a l ih =>
   rw[l1F];by_cases h:c=a
   · subst h;simp [Lib.countByte] at ih ⊢;omega
   have h' :¬a=c:=fun e=>h e.symm
   simp [Lib.countByte,h,h'] at ih ⊢;omega
theorem Y4I {p0 p1:Ls}{r:Int}(h:Y1y p0 p1=some r):Ct Tryz.prog 218 [S p0,S p1] (fun _=>True) (fun v M=>v=I r):=by
 unfold Y1y at h;split at h
 case isFalse=>cases h
 rename_i hb;cases h;obtain⟨c,rfl⟩ :∃c,p1=[c]:=List.length_eq_one_iff.1 hb.1;refine⟨enters Tf218 Kr G,fun w M ha hp=>?_⟩;exact(Tryz.strings_Count_one ⟨p0.toArray⟩ c w).mono fun e w' ⟨he,hw⟩=>⟨_,M,he,by subst hw;exact q2h ha,by rw[countByte_P]⟩
theorem Y3i {p0:Ls}{p1:UInt8}{r:Int}(h:Y0z p0 p1=some r):Ct Tryz.prog 114 [S p0,encB p1] (fun M=>True) (fun v M=>v=I r):=by
 cases h;refine⟨enters Tf114 Kr G,fun w M ha hp=>?_⟩;exact(Tryz.strings_IndexByte ⟨p0.toArray⟩ (p1.toNat:Int) w).mono fun e w' ⟨he,hw⟩=>⟨_,M,he,by subst hw;exact q2h ha,by rw[←indexByte_ixB];simp⟩
theorem Y2Q {p0:List Ls}{p1:Ls}{vp0:Value}{r:Ls}(h:Y0t p0 p1=some r):Ct Tryz.prog 41 [vp0,S p1] (fun M=>Sl M encS vp0 p0) (fun v M=>v=S r):=by
 unfold Y0t at h;split at h
 case isFalse=>cases h
 rename_i hb;cases h;refine⟨enters Tryz.func41 Kr G,fun w M ha hp=>?_⟩;obtain⟨A,cp,rfl,hc,hn⟩:=Sl.cells hp ha;rcases l1H p0.length with h0|h0
 · obtain rfl:=l0c h0;exact(Tryz.strings_Join_none A cp ⟨p1.toArray⟩ w).mono fun e w' ⟨he,hw⟩=>⟨_,M,he,by subst hw;exact q2h ha,rfl⟩
 cases A with
 | none=>obtain⟨rfl,_⟩:=hn rfl;simp at h0
 | some ad =>
   obtain⟨A',c',he',h1,⟨h2,h3⟩,h4⟩:=hp;cases he';obtain⟨b,o,cs,t0,fz,e1,e2,e3⟩:=h4 (fun h=>by rw[h] at h0;simp at h0);cases e1;have hmap:(p0.map (fun l=>(⟨l.toArray⟩:ByteArray))).map (·.data.toList)=p0:=by
    rw[l1t]
    conv=>rhs;rw [←List.map_id p0]
    exact l1r (fun l _=>G)
   have hcall:=Tryz.strings_Join b o cp (p0.map (fun l=>(⟨l.toArray⟩:ByteArray))) ⟨p1.toArray⟩ w (fun j x hx=>by
    rw[List.getElem?_map] at hx;obtain⟨y,hy,rfl⟩:=Option.map_eq_some_iff.1 hx;have:=hc ⟨b,o,none⟩ rfl j (encS y) (by rw[List.getElem?_map,hy];rfl);simpa [Addr.add_lit] using this) (ha.lt e2) (by simpa using hb.1) (by simpa using h1) (by rw[hmap,join_jn];simpa using hb.2)
   rw[hmap,join_jn] at hcall;simp only[l0a] at hcall;exact hcall.mono fun e w' ⟨he,hw⟩=>⟨_,M,he,⟨BelowX.of hw _,Mem.le.refl M,fun b' o' hb'=>by rw[hw.block b' (ha.lt hb')];exact ha b' o' hb',fun b' hb'=>rfl⟩,by simp⟩
theorem Y4D {p0:Ls}{p1:Ls}{p2:Int}{r:List Ls}(h:Y1U p0 p1 p2=some r):Ct Tryz.prog 184 [S p0,S p1,I p2] (fun M=>GlF (fun w =>∃m,w.cell? ⟨2,0,none⟩=some (.int .i64 m)) M) (fun v M=>Sl M encS v r):=by
 unfold Y1U at h;split at h
 case isFalse=>cases h
 rename_i hb;cases h;refine⟨enters Tryz.func184 Kr G,fun w M ha hp=>?_⟩;obtain⟨m,hm⟩:=hp w ha;obtain⟨n,rfl⟩:=l1a (Int.le_trans Dc hb.2.2.1);have hs:(⟨p0.toArray⟩:ByteArray).size=p0.length:=by simp [ByteArray.size]
 have hd:(Lib.splitB ⟨p1.toArray⟩ 0 (min n ((⟨p0.toArray⟩:ByteArray).size+1)-1) ⟨p0.toArray⟩).map (·.data.toList)=Lib.splitN p0 p1 ((n:Int).toNat):=by rw[Lib.splitB_data,hs];rfl
 have hl:=Lib.splitB_length_le ⟨p1.toArray⟩ 0 (min n ((⟨p0.toArray⟩:ByteArray).size+1)-1) ⟨p0.toArray⟩;have hlen:=congrArg List.length hd;rw[l0a] at hlen;refine(Tryz.strings_SplitN ⟨p0.toArray⟩ ⟨p1.toArray⟩ n m w Om hm (by simpa [ByteArray.size] using hb.2.1) Om Om).mono fun e w' ⟨he,hw⟩=>⟨_,M.set w.heap.size _,he,by subst hw;exact Ext.ofAlloc ha _,?_⟩
 rw[hlen];exact Sl.splitN (t:=9) (fz:=(0,0)) hd Om Om (by simp [Mem.set])
theorem Y48 {p0:Ls}{p1:Ls}{p2:Ls}{r:Ls}(h:Y10 p0 p1 p2=some r):Ct Tryz.prog 172 [S p0,S p1,S p2] (fun M=>GlF (fun w =>∃m,w.cell? ⟨2,0,none⟩=some (.int .i64 m)) M) (fun v M=>v=S r):=by
 unfold Y10 at h;split at h
 case isFalse=>cases h
 rename_i hb;cases h;refine⟨enters Tryz.func172 Kr G,fun w M ha hp=>?_⟩;obtain⟨m,hm⟩:=hp w ha;have hs:(⟨p0.toArray⟩:ByteArray).size=p0.length:=by simp [ByteArray.size]
 have hc:Lib.countB ⟨p0.toArray⟩ ⟨p1.toArray⟩≤p0.length:=by simpa [ByteArray.size] using Lib.countB_le ⟨p1.toArray⟩ (by simpa [ByteArray.size] using hb.2.1) _ ⟨p0.toArray⟩ (l0e _)
 have hc2:=l1e p2.length hc;exact(Tryz.strings_ReplaceAll ⟨p0.toArray⟩ ⟨p1.toArray⟩ ⟨p2.toArray⟩ m w Om hm (by simpa [ByteArray.size] using hb.2.1) (by simp only[ByteArray.size,l1q];omega)).mono fun e w' ⟨he,hw⟩=>⟨_,M,he,Ext.ofBelow ha hw,rfl⟩
theorem Y4m {p0:Ls}{p1:Ls}{r:Bool}(h:Y1s p0 p1=some r):Ct Tryz.prog 137 [S p0,S p1] (fun M=>GlF (fun w =>∃m,w.cell? ⟨2,0,none⟩=some (.int .i64 m)) M) (fun v M=>v=Value.bool r):=by
 unfold Y1s at h;split at h
 case isFalse=>cases h
 rename_i hb;cases h;refine⟨enters Tryz.func137 Kr G,fun w M ha hp=>?_⟩;obtain⟨m,hm⟩:=hp w ha;exact(Tryz.strings_Contains ⟨p0.toArray⟩ ⟨p1.toArray⟩ m w (by simpa [ByteArray.size] using hb) hm).mono fun e w' ⟨he,hw⟩=>⟨_,M,he,by subst hw;exact q2h ha,rfl⟩
theorem Y4J {p0:Ls}{p1:Ls}{r:Int}(h:Y1P p0 p1=some r):Ct Tryz.prog 144 [S p0,S p1] (fun M=>GlF (fun w =>∃m,w.cell? ⟨2,0,none⟩=some (.int .i64 m)) M) (fun v M=>v=I r):=by
 unfold Y1P at h;split at h
 case isFalse=>cases h
 rename_i hb;cases h;refine⟨enters Tf144 Kr G,fun w M ha hp=>?_⟩;obtain⟨m,hm⟩:=hp w ha;exact(Tryz.strings_Index ⟨p0.toArray⟩ ⟨p1.toArray⟩ m w (by simpa [ByteArray.size] using hb) hm).mono fun e w' ⟨he,hw⟩=>⟨_,M,he,by subst hw;exact q2h ha,rfl⟩
theorem copyCheck_ct {b:Nat}{p v:Value}{M0:Mem}(hb:BPM M0 b p):CtX Tryz.prog 106 [ptr b 0] [.blk b (.cells #[p,v] 96)] (fun _=>True) (fun r _ its=>r = .tuple #[]∧its=[.blk b (.cells #[ptr b 0,v] 96)]):=by
 refine CtX.of Tf106 (enters Tf106 Kr G) G G G ?_;intro w M H _;obtain⟨j,hj,hjs⟩:=Option.map_eq_some_iff.1 (show(Tryz.prog.info? 96).map (·.size)=some 2 by kernel_rfl);have hl:liesAt Tryz.prog Tryz.prog.depth 96 (2 / Tryz.prog.cellsOf 96) 0 96 1=true:=by kernel_rfl
 have hbk:=H.blk (List.Mem.head _);refine WC.seq (WC.region ?_);refine MV G G (FN G G Tu96 G Ts94 G G (ST (XL H Ta94) G ?_));rcases hb with rfl|rfl
 · refine q03 (Ex.ptrNil Tu94 G) (q00 G) G G ?_;refine q0R (WQ.then (WC.condT G (WC.region ?_)));refine MV G G (MV G G (ST (Ex.toUnsafe Tu94 Tu144 hj (by rw[hjs];decide) (T:=96) (cells:=2) (a:=⟨b,0,none⟩) (by simp [World.shape?,hbk]) (by show(0:Nat)<2;decide) G) G ?_));refine ST (Ex.noEscape Tf133 Kr Kr Kr Kr G) G (ST (Ex.fromUnsafe Tu144 Tu94 hj (T:=96) (cells:=2) (a:=⟨b,0,none⟩) (by simp [World.shape?,hbk]) hl G) G ?_);refine FN G G Tu96 G Ts94 G G (q1e [_,_] H G G ⟨G,G⟩ Ku Kf Ts94 (by first|decide|(simp;done)|(simp;omega)) (q00 G) ?_);intro w H;refine NL ?_;exact WQ.endX0 G H Kp ⟨G,G⟩
 refine q03 (Ex.ptrNil Tu94 G) (q00 G) G G ?_;refine q0R (WQ.then (WC.condF G (WC.seq (WC.region ?_))));refine MV G G (FN G G Tu96 G Ts94 G G (ST (XL H Ta94) G ?_));refine MV G G (ST (Ex.ptrNeqSame Tu94 hj G G) G ?_);refine q0R (WQ.then (WC.condF G (WC.skip ?_)));exact WQ.endX0 G H Kp ⟨G,G⟩
theorem xplacesT :∀{fs:Array Field},Tryz.prog.underlying 232=some (.struct fs)→∀w,(fs.mapM fun f=>do pure (f.offset,←sizeOf f.type):Sem (Array (Nat × Nat))).run Tryz.prog w = .ok #[(0,256),(256,1)] w:=by
 intro fs h w;rw[Tu232] at h;cases h;simp
theorem tab0 {M:Mem}:∀(i:Nat) (o:Option Ls),(tabk 0)[i]? = some o→∃v,(List.replicate 256 (Value.slice none 0 0))[i]? = some v∧SlO M v o:=by
 intro i o h;have h0:tabk 0=List.replicate 256 none:=by decide +kernel
 rw[h0] at h;have hi:i<256:=by have:=(List.getElem?_eq_some_iff.1 h).1;simpa using this
 rw[List.getElem?_replicate,if_pos hi] at h;cases h;exact⟨_,by rw[List.getElem?_replicate,if_pos hi], .inl ⟨G,G⟩⟩
theorem tab_step {M:Mem}{cs:List Value}{O k:Nat}{u:Value}{nn:Ls}(hcl:cs.length=256)(htb :∀(i:Nat) (o:Option Ls),(tabk k)[i]? = some o→∃v,cs[i]? = some v∧SlO M v o)(hO:O<256)(ht:tabk (k+1)=(tabk k).set O (some nn))(hs:SlO M u (some nn)):
 ∀(i:Nat) (o:Option Ls),(tabk (k+1))[i]? = some o→∃v,(cs.set O u)[i]? = some v∧SlO M v o:=by
 intro i o h;rw[ht,List.getElem?_set] at h;split at h
 · rename_i he;subst he;split at h
   · cases h;exact⟨u,by rw[List.getElem?_set_self Om],hs⟩
   cases h
 rename_i he;obtain⟨v,hv,hs'⟩:=htb i o h;exact⟨v,by rw[List.getElem?_set_ne he];exact hv,hs'⟩
theorem Y3G {p0:List Ls}{bp0:Nat}{vp0:Value}{r:((List (Option Ls) × List Ls) × List Ls)}(h:Y2h p0=some r):CtX Tryz.prog 178 [ptr bp0 0] [.blk bp0 (.cells #[Value.int .u32 0,Value.int .i32 1,Value.int .u32 0,Value.nilIface,vp0] 166)] (fun M=>Sl M encS vp0 p0) (fun v M its =>∃b0_,v=(Value.iface 233 (ptr b0_ 0))∧TabO M b0_ 232 r.1.1 r.1.2∧its=[.blk bp0 (.cells #[Value.int .u32 0,Value.int .i32 1,Value.int .u32 0,Value.nilIface,vp0] 166)]):=by
 refine CtX.of Tryz.func178 (enters Tryz.func178 Kr G) G G G ?_;intro w0 M0 H hp;have hp0:=hp;unfold Y2h at h;refine SQ (RG (AS G G (NL (TN (SQ (RG (MV G G (FN G G Tu166 G Ts55 G G (ST (XL H Ta55) G ?_)))))))));refine AS G G (NL (TN (SQ (SQ ?_))));obtain⟨o1,e2,h⟩:=bnd h;refine q0j (fun e w =>∃(b3:Bool) (M:Mem),e=[(3,vp0),(28,Value.bool b3)]∧StX (feet [.blk bp0 (.cells #[Value.int .u32 0,Value.int .i32 1,Value.int .u32 0,Value.nilIface,vp0] 166)]) w0 M0 M [.blk bp0 (.cells #[Value.int .u32 0,Value.int .i32 1,Value.int .u32 0,Value.nilIface,vp0] 166)] w∧Sl M encS vp0 p0∧some b3=some o1) [] ?_ ?_ (trivial)
 ·
  refine RG (MV G G (ST (q0M Tu55 hp0 G) G ?_));by_cases hk4:(p0.length:Int)=(2:Int)
  ·
   rw[if_pos hk4] at e2;obtain⟨a5,hxa5,e2⟩:=bnd e2;obtain⟨bk24,o24,ha24,hc24⟩:=hp0.atC hxa5;refine DT hk4 (q0e G G) G (MV G G (SG (q01 G) G G G (SG (q0t ha24 Tu55 Ts9 G G) G G G (SG (q07 H G hc24 Ta9) G G G (SG (q0i Tu9 G) G G G (SG (q0J G G) G G G (PT G G G (NL ?_))))))));exact MN ⟨_,_,G,H,hp0,e2⟩
  rw[if_neg hk4] at e2;refine DF hk4 (q0e G G) G (MV G G (q0d 5 G G (PF G G G (NL ?_))));exact MN ⟨_,_,G,H,hp0,e2⟩
 rintro e w ⟨b3,M,rfl,H,hp0,q6⟩;obtain rfl:=oI q6;refine TN ?_;refine q0m G (fun hk7=>?_) (fun hk7=>?_)
 ·
  subst hk7;rw[if_pos rfl] at h;cases h
 subst hk7;rw[if_neg l06] at h;refine SK (TN (SQ (RG (AS G G (NL (TN (SQ (SQ (RG (AS G G (NL (TN ?_))))))))))));obtain⟨o10,e11,h⟩:=bnd h;refine q0j (fun e w =>∃(b12:Bool) (M:Mem),e=[(3,vp0),(4,Value.bool b12)]∧StX (feet [.blk bp0 (.cells #[Value.int .u32 0,Value.int .i32 1,Value.int .u32 0,Value.nilIface,vp0] 166)]) w0 M0 M [.blk bp0 (.cells #[Value.int .u32 0,Value.int .i32 1,Value.int .u32 0,Value.nilIface,vp0] 166)] w∧Sl M encS vp0 p0∧some (.inl b12)=some o10) [] ?_ ?_ (trivial)
 ·
  refine BL (q0F (fun m e w =>∃(b13:Bool) (n14:Int) (M:Mem),e=[(3,vp0),(4,Value.bool b13),(5,I n14)]∧StX (feet [.blk bp0 (.cells #[Value.int .u32 0,Value.int .i32 1,Value.int .u32 0,Value.nilIface,vp0] 166)]) w0 M0 M [.blk bp0 (.cells #[Value.int .u32 0,Value.int .i32 1,Value.int .u32 0,Value.nilIface,vp0] 166)] w∧Sl M encS vp0 p0∧Y0A p0 m b13 n14=some o10) FU [(3,_),(4,_),(5,_)] ⟨rfl,rfl,rfl,trivial⟩ ⟨_,_,_,rfl,H,hp0,e11⟩ ?_);rintro m15 e w ⟨b13,n14,M,rfl,H,hp0,e11⟩;rcases m15 with _|m15
  · rw[Y0A] at e11;cases e11
  rw[Y0A] at e11;refine SQ (SQ (RG (MV G G (MV G G (ST (q0M Tu55 hp0 G) G (ST (q0q G G) G (NL (TN ?_))))))));refine CB (p:=n14<(p0.length:Int)) G (fun hk16=>?_) fun hk16=>?_
  ·
   rw[if_pos hk16] at e11;refine SK (TN (SQ (BL (SQ (SQ ?_)))));obtain⟨a17,hxa17,e11⟩:=bnd e11;obtain⟨bk45,o45,ha45,hc45⟩:=hp0.atC hxa17;refine RG (MV G G (MV G G (ST (q0t ha45 Tu55 Ts9 G G) G (ST (q07 H G hc45 Ta9) G (ST (q0i Tu9 G) G (ST (q1n G G) G (NL (TN ?_))))))));refine q0m G (fun hk18=>?_) (fun hk18=>?_)
   ·
    replace hk18 :¬((a17.length:Int)=(1:Int)):=of_not_decide hk18;rw[if_neg hk18] at e11;cases e11
   replace hk18:(a17.length:Int)=(1:Int):=of_not_decide' hk18;rw[if_pos hk18] at e11;refine SK (TN (SQ ?_));obtain⟨n19,hxn19,e11⟩:=bnd e11;obtain⟨a20,hxa20,e11⟩:=bnd e11;obtain⟨bk55,o55,ha55,hc55⟩:=hp0.atC hxa20;refine RG (MV G G (MV G G (ST (q0l G G hxn19) G (ST (q0t ha55 Tu55 Ts9 G G) G (ST (q07 H G hc55 Ta9) G (ST (q0i Tu9 G) G (ST (q1n G G) G (NL (TN ?_)))))))));refine q0m G (fun hk21=>?_) (fun hk21=>?_)
   ·
    replace hk21 :¬((a20.length:Int)=(1:Int)):=of_not_decide hk21;rw[if_neg hk21] at e11;refine RG (AS G G (NL (IB (TN ?_))));obtain⟨n22,hxn22,e11⟩:=bnd e11;refine RG (MV G G (ST (q0l G G hxn22) G (AS G G (NL ?_))));exact AG m15 ⟨_,_,_,G,H,hp0,e11⟩ (l0b _)
   replace hk21:(a20.length:Int)=(1:Int):=of_not_decide' hk21;rw[if_pos hk21] at e11;refine SK (IB (TN ?_));obtain⟨n23,hxn23,e11⟩:=bnd e11;refine RG (MV G G (ST (q0l G G hxn23) G (AS G G (NL ?_))));exact AG m15 ⟨_,_,_,G,H,hp0,e11⟩ (l0b _)
  rw[if_neg hk16] at e11;refine q0r (q06 (q06 (q0f ?_)));exact MN ⟨_,_,G,H,hp0,e11⟩
 rintro e w ⟨b12,M,rfl,H,hp0,q24⟩;obtain rfl:=oI q24;try dsimp only at h
 refine TN (SQ (SQ (RG (MV G G (NL (TN ?_))))));refine q0m G (fun hk25=>?_) (fun hk25=>?_)
 ·
  subst hk25;rw[if_pos rfl] at h;cases h
 subst hk25;rw[if_neg l06] at h;split at h
 case isFalse=>cases h
 rename_i hlit;subst hlit;cases h;refine SK (TN (SQ (RG (MV G G (ST (q0M Tu55 hp0 G) G (ST (Ex.quoC (a:=4) (b:=2) (z:=2) G G G) G (WR.mkC (enc:=encS) (z0:=([]:Ls)) (a:=0) (c:=2) (l:=[]) xty55 G H G G G (q00 G) G ?_)))))));intro v94 w H0;obtain⟨A94,c94,hv94⟩:=H0.lenRow Km;refine ST (q0B (List.replicate 256 (Value.slice none 0 0)++[v94]) Tu232 Tryz.zeroValue232 (xplacesT Tu232) G (by subst hv94;kernel_rfl)) G ?_;refine q0k (List.replicate 256 (Value.slice none 0 0)++[Value.slice none 0 0]) H0 Tryz.zeroValue232 Kr (q00 G) G ?_;intro b11 w H;refine q0b (List.replicate 256 (Value.slice none 0 0)++[v94]) H G G G Ku Tryz.sizeOf232 G Kf (by subst hv94;rfl) (q00 G) ?_;intro w H;refine NL (TN (SQ (SQ (RG (MV G G (ST (q0M Tu55 hp0 G) G (ST (q1I (a:=4) (b:=2) (z:=2) G G G) G (AS G G (NL (TN ?_))))))))));refine q0j (fun e w =>∃(cs:List Value) (vr:Value) (M:Mem),e=[(11,ptr b11 0)]∧StX (feet [.blk bp0 (.cells #[Value.int .u32 0,Value.int .i32 1,Value.int .u32 0,Value.nilIface,vp0] 166)]) w0 M0 M [.blk b11 (.cells (cs++[vr]).toArray 232),RowI 9 encS vr (trk 2), .blk bp0 (.cells #[Value.int .u32 0,Value.int .i32 1,Value.int .u32 0,Value.nilIface,vp0] 166)] w∧cs.length=256∧(∀(i:Nat) (o:Option Ls),(tabk 2)[i]? = some o→∃v,cs[i]? = some v∧SlO M v o)) [] ?_ ?_ (trivial)
 ·
  refine BL (q0F (fun m e w =>∃(k:Nat) (cs:List Value) (vr:Value) (M:Mem),e=[(3,vp0),(11,ptr b11 0),(12,I (2-2*(k:Int)))]∧k≤2∧2-k<m∧StX (feet [.blk bp0 (.cells #[Value.int .u32 0,Value.int .i32 1,Value.int .u32 0,Value.nilIface,vp0] 166)]) w0 M0 M [.blk b11 (.cells (cs++[vr]).toArray 232),RowI 9 encS vr (trk k), .blk bp0 (.cells #[Value.int .u32 0,Value.int .i32 1,Value.int .u32 0,Value.nilIface,vp0] 166)] w∧Sl M encS vp0 [[92],[92,92],[34],[92,34]]∧cs.length=256∧(∀(i:Nat) (o:Option Ls),(tabk k)[i]? = some o→∃v,cs[i]? = some v∧SlO M v o)) FU [(3,_),(11,_),(12,_)] ⟨rfl,rfl,rfl,trivial⟩ ⟨0,List.replicate 256 (Value.slice none 0 0),v94,_,rfl,by omega,by unfold FU;omega,H,hp0,by rw[l0V],tab0⟩ ?_);rintro m e w ⟨k,cs,vr,M,rfl,hk,hm,H,hp0,hcl,htb⟩;obtain⟨m,rfl⟩ :∃q,m=q+1:=⟨m-1,by omega⟩
  obtain rfl|rfl|rfl:k=0∨k=1∨k=2:=by omega
  · refine WC.seq ?_;refine SQ (RG (MV G G (q1G (q0X G G) Dc (q00 G) G G (NL (TN (CT G (SK (TN (SQ (BL (SQ ?_)))))))))));obtain⟨b105,o105,ha105,hc105⟩:=hp0.atC (i:=2) (a:=[34]) rfl;refine RG (MV G G (MV G G (ST (q0t ha105 Tu55 Ts9 G G) G (ST (q07 H G hc105 Ta9) G (ST (q0x (i:=0) (c:=34) Tu9 G G G) G (AS G G (NL (TN (SQ ?_)))))))));obtain⟨b111,o111,ha111,hc111⟩:=hp0.atC (i:=3) (a:=[92,34]) rfl;refine RG (MV G G (MV G G (ST (q0l (z:=3) G G G) G (ST (q0t ha111 Tu55 Ts9 G G) G (ST (q07 H G hc111 Ta9) G (AS G G (NL (TN (SQ (SQ ?_))))))))));have hnil:cs[34]? = some (Value.slice none 0 0):=by
     obtain⟨v,hv,hs⟩:=htb 34 none (by decide +kernel);rcases hs with ⟨_,rfl⟩|⟨l,a,c,h,_⟩
     · exact hv
     cases h
    have hcell:(cs++[vr])[34]? = some (Value.slice none 0 0):=by rw[List.getElem?_append_left Om];exact hnil
    refine RG (MV G G (ST (q02 Tu232 G Ts230 Dc G) G (ST (q2b (i:=34) Tu230 Ts88 G G Dc) G (ST (Ex.load1 H G Km Ta88 hcell) G ?_))));refine ST (Ex.eqlNilS Tu88 G) G (NL (TN (CT G (RG (ST (q02 Tu232 G Ts55 Dc G) G ?_)))));have hlast:(cs++[vr])[256]? = some vr:=by rw[List.getElem?_append_right Om,hcl];rfl
    refine ST (Ex.load1 H G Km Ta55 hlast) G ?_;refine MV G G (q0N (enc:=encB) xty88 ([34]:Ls) H G Kf (fun _=>G) G G (q00 G) G ?_);intro v121 M w H hle hs121;replace hp0:=hp0.mono hle;replace htb :∀(i:Nat) (o:Option Ls),(tabk 0)[i]? = some o→∃v,cs[i]? = some v∧SlO M v o:=fun i o ho=>by obtain⟨v,hv,hs⟩:=htb i o ho;exact ⟨v,hv,hs.mono hle⟩
    refine ST (q2f Tu88 Tu5 Tu9 H hs121 G) G (q0N (enc:=encS) xty55 ([[34]]:List Ls) H G Kf (fun _=>G) G G (q00 G) G ?_);intro v123 M w H hle hs123;replace hp0:=hp0.mono hle;replace htb :∀(i:Nat) (o:Option Ls),(tabk 0)[i]? = some o→∃v,cs[i]? = some v∧SlO M v o:=fun i o ho=>by obtain⟨v,hv,hs⟩:=htb i o ho;exact ⟨v,hv,hs.mono hle⟩
    refine q1N (l:=trk 0) (l3:=trk (0+1)) xty55 G (fun _=>G) H G (fun _=>by repeat first|exact .head|apply Upd.tail) G hs123 (by decide +kernel) (q00 G) G ?_;intro v124 w H;have ho124:One v124:=H.rowOne Km;refine ST (q02 Tu232 G Ts55 Dc G) G ?_;have hset1:(cs++[vr]).set 256 v124=cs++[v124]:=by rw[l1X _ _ Om,hcl];rfl
    refine q1e (cs++[v124]) H G G ho124 Ku hset1 Ts55 (by rw[l00,hcl];exact (by decide:(256:Nat)<256+1)) (q00 G) ?_;intro w H;refine NL (TN (RG (MV G G (MV G G (WR.toBytesC H Tu9 Tu88 Tu5 G (toB_ok (l:=[92,34]) Dc) (q00 G) G ?_)))));intro gb cap w hok H;refine ST (q02 Tu232 G Ts230 Dc G) G (ST (q2b (i:=34) Tu230 Ts88 G G Dc) G ?_);have hset2:(cs++[v124]).set 34 (.slice (some ⟨gb,0,none⟩) 2 cap)=cs.set 34 (.slice (some ⟨gb,0,none⟩) 2 cap)++[v124]:=List.set_append_left _ _ Om;refine q1e (cs.set 34 (.slice (some ⟨gb,0,none⟩) 2 cap)++[v124]) H G G (q1v _ _ _) Ku hset2 Ts88 (by rw[l00,hcl];exact (by decide:(34:Nat)<256+1)) (q00 G) ?_;intro w H;refine NL (IB (TN (RG (MV G G (ST (q1I (z:=2-2*((0+1:Nat):Int)) G G G) G (AS G G (NL ?_)))))));obtain⟨M,hle,hs,H⟩:=H.freezeSCN (gb:=gb) (cap:=cap) (t:=5) Kv hok ⟨⟨_,Km⟩,trivial⟩;exact AG m ⟨0+1,cs.set 34 (.slice (some ⟨gb,0,none⟩) 2 cap),v124,_,G,by omega,by omega,H.pick (L':=[.blk b11 (.cells (cs.set 34 (.slice (some ⟨gb,0,none⟩) 2 cap)++[v124]).toArray 232),RowI 9 encS v124 (trk (0+1)), .blk bp0 (.cells #[Value.int .u32 0,Value.int .i32 1,Value.int .u32 0,Value.nilIface,vp0] 166)]) Kp,hp0.mono hle,by rw[l1k];exact hcl,tab_step hcl (fun i o ho=>by obtain⟨v,hv,hs⟩:=htb i o ho;exact ⟨v,hv,hs.mono hle⟩) Dc (by decide +kernel) (.inr ⟨_,_,_,G,G,hs⟩)⟩ (l0b _)
  · refine WC.seq ?_;refine SQ (RG (MV G G (q1G (q0X G G) Dc (q00 G) G G (NL (TN (CT G (SK (TN (SQ (BL (SQ ?_)))))))))));obtain⟨b105,o105,ha105,hc105⟩:=hp0.atC (i:=0) (a:=[92]) rfl;refine RG (MV G G (MV G G (ST (q0t ha105 Tu55 Ts9 G G) G (ST (q07 H G hc105 Ta9) G (ST (q0x (i:=0) (c:=92) Tu9 G G G) G (AS G G (NL (TN (SQ ?_)))))))));obtain⟨b111,o111,ha111,hc111⟩:=hp0.atC (i:=1) (a:=[92,92]) rfl;refine RG (MV G G (MV G G (ST (q0l (z:=1) G G G) G (ST (q0t ha111 Tu55 Ts9 G G) G (ST (q07 H G hc111 Ta9) G (AS G G (NL (TN (SQ (SQ ?_))))))))));have hnil:cs[92]? = some (Value.slice none 0 0):=by
     obtain⟨v,hv,hs⟩:=htb 92 none (by decide +kernel);rcases hs with ⟨_,rfl⟩|⟨l,a,c,h,_⟩
     · exact hv
     cases h
    have hcell:(cs++[vr])[92]? = some (Value.slice none 0 0):=by rw[List.getElem?_append_left Om];exact hnil
    refine RG (MV G G (ST (q02 Tu232 G Ts230 Dc G) G (ST (q2b (i:=92) Tu230 Ts88 G G Dc) G (ST (Ex.load1 H G Km Ta88 hcell) G ?_))));refine ST (Ex.eqlNilS Tu88 G) G (NL (TN (CT G (RG (ST (q02 Tu232 G Ts55 Dc G) G ?_)))));have hlast:(cs++[vr])[256]? = some vr:=by rw[List.getElem?_append_right Om,hcl];rfl
    refine ST (Ex.load1 H G Km Ta55 hlast) G ?_;refine MV G G (q0N (enc:=encB) xty88 ([92]:Ls) H G Kf (fun _=>G) G G (q00 G) G ?_);intro v121 M w H hle hs121;replace hp0:=hp0.mono hle;replace htb :∀(i:Nat) (o:Option Ls),(tabk 1)[i]? = some o→∃v,cs[i]? = some v∧SlO M v o:=fun i o ho=>by obtain⟨v,hv,hs⟩:=htb i o ho;exact ⟨v,hv,hs.mono hle⟩
    refine ST (q2f Tu88 Tu5 Tu9 H hs121 G) G (q0N (enc:=encS) xty55 ([[92]]:List Ls) H G Kf (fun _=>G) G G (q00 G) G ?_);intro v123 M w H hle hs123;replace hp0:=hp0.mono hle;replace htb :∀(i:Nat) (o:Option Ls),(tabk 1)[i]? = some o→∃v,cs[i]? = some v∧SlO M v o:=fun i o ho=>by obtain⟨v,hv,hs⟩:=htb i o ho;exact ⟨v,hv,hs.mono hle⟩
    refine q1N (l:=trk 1) (l3:=trk (1+1)) xty55 G (fun _=>G) H G (fun _=>by repeat first|exact .head|apply Upd.tail) G hs123 (by decide +kernel) (q00 G) G ?_;intro v124 w H;have ho124:One v124:=H.rowOne Km;refine ST (q02 Tu232 G Ts55 Dc G) G ?_;have hset1:(cs++[vr]).set 256 v124=cs++[v124]:=by rw[l1X _ _ Om,hcl];rfl
    refine q1e (cs++[v124]) H G G ho124 Ku hset1 Ts55 (by rw[l00,hcl];exact (by decide:(256:Nat)<256+1)) (q00 G) ?_;intro w H;refine NL (TN (RG (MV G G (MV G G (WR.toBytesC H Tu9 Tu88 Tu5 G (toB_ok (l:=[92,92]) Dc) (q00 G) G ?_)))));intro gb cap w hok H;refine ST (q02 Tu232 G Ts230 Dc G) G (ST (q2b (i:=92) Tu230 Ts88 G G Dc) G ?_);have hset2:(cs++[v124]).set 92 (.slice (some ⟨gb,0,none⟩) 2 cap)=cs.set 92 (.slice (some ⟨gb,0,none⟩) 2 cap)++[v124]:=List.set_append_left _ _ Om;refine q1e (cs.set 92 (.slice (some ⟨gb,0,none⟩) 2 cap)++[v124]) H G G (q1v _ _ _) Ku hset2 Ts88 (by rw[l00,hcl];exact (by decide:(92:Nat)<256+1)) (q00 G) ?_;intro w H;refine NL (IB (TN (RG (MV G G (ST (q1I (z:=2-2*((1+1:Nat):Int)) G G G) G (AS G G (NL ?_)))))));obtain⟨M,hle,hs,H⟩:=H.freezeSCN (gb:=gb) (cap:=cap) (t:=5) Kv hok ⟨⟨_,Km⟩,trivial⟩;exact AG m ⟨1+1,cs.set 92 (.slice (some ⟨gb,0,none⟩) 2 cap),v124,_,G,by omega,by omega,H.pick (L':=[.blk b11 (.cells (cs.set 92 (.slice (some ⟨gb,0,none⟩) 2 cap)++[v124]).toArray 232),RowI 9 encS v124 (trk (1+1)), .blk bp0 (.cells #[Value.int .u32 0,Value.int .i32 1,Value.int .u32 0,Value.nilIface,vp0] 166)]) Kp,hp0.mono hle,by rw[l1k];exact hcl,tab_step hcl (fun i o ho=>by obtain⟨v,hv,hs⟩:=htb i o ho;exact ⟨v,hv,hs.mono hle⟩) Dc (by decide +kernel) (.inr ⟨_,_,_,G,G,hs⟩)⟩ (l0b _)
  refine WC.seq ?_;refine SQ (RG (MV G G (q0Z (q0X G G) Dc (q00 G) G G (NL (TN (CF G (q0r (q06 (q06 (q0f ?_))))))))));exact MN ⟨cs,vr,_,G,H,hcl,htb⟩
 rintro e w ⟨cs,vr,M,rfl,H,hcl,htb⟩;refine TN (SQ (RG (ST (Ex.makeIface Tryz.underlying233 G) G (AS G G (NL (TN (RT ?_)))))));obtain⟨M,hle,hb,H⟩:=H.freezeVarN (b:=b11) Kv ⟨⟨_,Km⟩,trivial⟩;obtain⟨M,hle2,hs,H⟩:=H.freezeRowN (v:=vr) (enc:=encS) (t:=9) Kv ⟨⟨_,Km⟩,trivial⟩;exact q1t (its:=[.blk bp0 (.cells #[Value.int .u32 0,Value.int .i32 1,Value.int .u32 0,Value.nilIface,vp0] 166)]) G G H Kp ⟨_,G,⟨cs,vr,hb.mono hle2,hcl,fun i o ho=>by obtain⟨v,hv,hs⟩:=htb i o ho;exact ⟨v,hv,(hs.mono hle).mono hle2⟩,hs⟩,G⟩
theorem Y2r {p0:(List (Option Ls) × List Ls)}{p1:Ls}{bp0:Nat}{r:Ls}(h:Y0y p0 p1=some r):Ct Tryz.prog 273 [ptr bp0 0,S p1] (fun M=>TabO M bp0 232 p0.1 p0.2) (fun v M=>v=S r):=by
 refine Ct.of Tryz.func273 (enters Tryz.func273 Kr G) G G G ?_;intro w0 M0 H hp;have hp0:=hp;unfold Y0y at h;refine SQ (RG (AS G G (NL (TN (SQ (RG (MV G G (ST (q0i Tu9 G) G (AS G G (NL (TN (SQ (RG (AS G G (NL (TN (SQ (SQ ?_))))))))))))))))));obtain⟨v21,hc21,hs21⟩:=hp0.tl;obtain⟨n1,hxn1,h⟩:=bnd h;refine RG (MV G G (FN G G Tu232 G Ts55 G G (ST (q07 H G hc21 Ta55) G (ST (q0M Tu55 hs21 G) G (ST (Ex.mulC G G hxn1) G (MV G G (ST (q0i Tu9 G) G (ST (q1y G G) G (NL (TN ?_))))))))));obtain⟨o2,e3,h⟩:=bnd h;refine q0j (fun e w =>∃(n4:Int) (b5:Bool) (M:Mem),e=[(0,ptr bp0 0),(1,S p1),(5,I n4),(6,Value.bool b5)]∧St w0 M0 M [] w∧TabO M bp0 232 p0.1 p0.2∧some (n4,b5)=some o2) [] ?_ ?_ (trivial)
 ·
  refine CB (p:=n1≤(p1.length:Int)) G (fun hk6=>?_) fun hk6=>?_
  ·
   rw[if_pos hk6] at e3;refine SQ ?_;obtain⟨v30,hc30,hs30⟩:=hp0.tl;refine RG (MV G G (FN G G Tu232 G Ts55 G G (ST (q07 H G hc30 Ta55) G (ST (q0M Tu55 hs30 G) G (MV G G (NL (TN ?_)))))));obtain⟨o7,e8,e3⟩:=bnd e3;refine q0j (fun e w =>∃(n9:Int) (b10:Bool) (M:Mem),e=[(0,ptr bp0 0),(1,S p1),(5,I n9),(6,Value.bool b10)]∧St w0 M0 M [] w∧TabO M bp0 232 p0.1 p0.2∧some (n9,b10)=some o7) [] ?_ ?_ (trivial)
   ·
    refine BL (q0F (fun m e w =>∃(n11:Int) (b12:Bool) (n13:Int) (M:Mem),e=[(0,ptr bp0 0),(1,S p1),(5,I n11),(6,Value.bool b12),(30,v30),(31,I (p0.2.length:Int)),(32,I n13)]∧St w0 M0 M [] w∧TabO M bp0 232 p0.1 p0.2∧Sl M encS v30 p0.2∧Y00 p0 p1 m n11 b12 n13=some o7) FU [(0,_),(1,_),(5,_),(6,_),(30,_),(31,_),(32,_)] ⟨rfl,rfl,rfl,rfl,rfl,rfl,rfl,trivial⟩ ⟨_,_,_,_,rfl,H,hp0,hs30,e8⟩ ?_);rintro m14 e w ⟨n11,b12,n13,M,rfl,H,hp0,hs30,e8⟩;rcases m14 with _|m14
    · rw[Y00] at e8;cases e8
    rw[Y00] at e8;refine SQ (RG (ST (q0q G G) G (NL (TN (SQ ?_)))));refine CB (p:=n13<(p0.2.length:Int)) G (fun hk15=>?_) fun hk15=>?_
    ·
     rw[if_pos hk15] at e8;refine SK (TN (SQ (BL (SQ ?_))));obtain⟨a16,hxa16,e8⟩:=bnd e8;obtain⟨bk34,o34,ha34,hc34⟩:=hs30.atC hxa16;refine RG (ST (q0t ha34 Tu55 Ts9 G G) G (ST (q07 H G hc34 Ta9) G (AS G G (NL (TN (SQ ?_))))));obtain⟨n17,hx18,e8⟩:=bnd e8;refine RG (MV G G (MV G G (q05 H (Y4I hx18) G trivial (q00 G) G ?_)));intro v38 M w H hle hR;replace hs30:=hs30.mono hle;replace hc34:=hc34.mono hle;replace hp0:=hp0.mono hle;obtain rfl:=hR;refine AS G G (NL (TN (SQ (RG (MV G G (ST (q1n G G) G (NL (TN ?_))))))));refine q0m G (fun hk19=>?_) (fun hk19=>?_)
     ·
      replace hk19 :¬(n17=(0:Int)):=of_not_decide hk19;rw[if_neg hk19] at e8;refine SQ ?_;obtain⟨c20,hxc20,e8⟩:=bnd e8;obtain⟨q21,hxq21,e8⟩:=bnd e8;obtain⟨v48,hc48,ho48⟩:=hp0.at hxq21;obtain⟨n22,hxn22,e8⟩:=bnd e8;obtain⟨n23,hxn23,e8⟩:=bnd e8;obtain⟨n24,hxn24,e8⟩:=bnd e8;refine q0E (m:=14) G G H ?_;intro w H;refine TK 0 G (fun _=>q01 G) G (TK 1 G (fun _=>q01 G) G (TK 2 G (fun _=>q01 G) G (TK 3 G (fun _=>q01 G) G (TK 4 G (fun _=>q0x Tu9 G G hxc20) G (q0s (fuel:=0) [5,6,7,8,9,10,11,12,13] G Kr (FN G G Tu232 G Ts230 G G (ST (Ex.idxArrO Tu230 Ts88 G G hxq21) G ?_)))))));refine ST (q07 H G hc48 Ta88) G (ST (q0M Tu88 ho48.sl G) G (ST (q1I G G hxn22) G (ST (Ex.mulC G G hxn23) G (ST (q0l G G hxn24) G (AS G G (NA (q0h Kr (TN (RG (AS G G (NL (IB (TN ?_)))))))))))));obtain⟨n25,hxn25,e8⟩:=bnd e8;refine RG (ST (q0l G G hxn25) G (MV G G (NL ?_)));exact AG m14 ⟨_,_,_,_,G,H,hp0,hs30,e8⟩ (l0b _)
     replace hk19:n17=(0:Int):=of_not_decide' hk19;rw[if_pos hk19] at e8;refine SK (IB (TN ?_));obtain⟨n26,hxn26,e8⟩:=bnd e8;refine RG (ST (q0l G G hxn26) G (MV G G (NL ?_)));exact AG m14 ⟨_,_,_,_,G,H,hp0,hs30,e8⟩ (l0b _)
    rw[if_neg hk15] at e8;refine q0r (q06 (q06 (q0f ?_)));exact MN ⟨_,_,_,G,H,hp0,e8⟩
   rintro e w ⟨n9,b10,M,rfl,H,hp0,q27⟩;obtain rfl:=oI q27;try dsimp only at e3
   exact MN ⟨_,_,_,G,H,hp0,e3⟩
  rw[if_neg hk6] at e3;refine SQ (RG (AS G G (NL (TN ?_))));obtain⟨o28,e29,e3⟩:=bnd e3;refine q0j (fun e w =>∃(n30:Int) (b31:Bool) (M:Mem),e=[(0,ptr bp0 0),(1,S p1),(5,I n30),(6,Value.bool b31)]∧St w0 M0 M [] w∧TabO M bp0 232 p0.1 p0.2∧some (n30,b31)=some o28) [] ?_ ?_ (trivial)
  ·
   refine BL (q0F (fun m e w =>∃(n32:Int) (b33:Bool) (n34:Int) (M:Mem),e=[(0,ptr bp0 0),(1,S p1),(5,I n32),(6,Value.bool b33),(10,I n34)]∧St w0 M0 M [] w∧TabO M bp0 232 p0.1 p0.2∧Y01 p0 p1 m n32 b33 n34=some o28) FU [(0,_),(1,_),(5,_),(6,_),(10,_)] ⟨rfl,rfl,rfl,rfl,rfl,trivial⟩ ⟨_,_,_,_,rfl,H,hp0,e29⟩ ?_);rintro m35 e w ⟨n32,b33,n34,M,rfl,H,hp0,e29⟩;rcases m35 with _|m35
   · rw[Y01] at e29;cases e29
   rw[Y01] at e29;refine SQ (SQ (RG (MV G G (MV G G (ST (q0i Tu9 G) G (ST (q0q G G) G (NL (TN ?_))))))));refine CB (p:=n34<(p1.length:Int)) G (fun hk36=>?_) fun hk36=>?_
   ·
    rw[if_pos hk36] at e29;refine SK (TN (SQ (BL (SQ ?_))));obtain⟨c37,hxc37,e29⟩:=bnd e29;refine RG (MV G G (MV G G (ST (q0x Tu9 G G hxc37) G (AS G G (NL (TN (SQ ?_)))))));obtain⟨q38,hxq38,e29⟩:=bnd e29;obtain⟨v68,hc68,ho68⟩:=hp0.at hxq38;refine RG (MV G G (MV G G (FN G G Tu232 G Ts230 G G (ST (Ex.idxArrO Tu230 Ts88 G G hxq38) G (ST (q07 H G hc68 Ta88) G (ST (Ex.neqNilO Tu88 ho68 G) G (NL (TN ?_))))))));refine q0m G (fun hk39=>?_) (fun hk39=>?_)
    ·
     rw[if_pos hk39] at e29;refine SQ ?_;obtain⟨q40,hxq40,e29⟩:=bnd e29;obtain⟨v76,hc76,ho76⟩:=hp0.at hxq40;obtain⟨n41,hxn41,e29⟩:=bnd e29;obtain⟨n42,hxn42,e29⟩:=bnd e29;refine RG (MV G G (MV G G (MV G G (FN G G Tu232 G Ts230 G G (ST (Ex.idxArrO Tu230 Ts88 G G hxq40) G (ST (q07 H G hc76 Ta88) G (ST (q0M Tu88 ho76.sl G) G (ST (q1I G G hxn41) G (ST (q0l G G hxn42) G (AS G G (NL (TN (RG (AS G G (NL (IB (TN ?_)))))))))))))))));obtain⟨n43,hxn43,e29⟩:=bnd e29;refine RG (MV G G (ST (q0l G G hxn43) G (AS G G (NL ?_))));exact AG m35 ⟨_,_,_,_,G,H,hp0,e29⟩ (l0b _)
    rw[if_neg (by rw[hk39];exact l06)] at e29;refine SK (IB (TN ?_));obtain⟨n44,hxn44,e29⟩:=bnd e29;refine RG (MV G G (ST (q0l G G hxn44) G (AS G G (NL ?_))));exact AG m35 ⟨_,_,_,_,G,H,hp0,e29⟩ (l0b _)
   rw[if_neg hk36] at e29;refine q0r (q06 (q06 (q0f ?_)));exact MN ⟨_,_,_,G,H,hp0,e29⟩
  rintro e w ⟨n30,b31,M,rfl,H,hp0,q45⟩;obtain rfl:=oI q45;try dsimp only at e3
  exact MN ⟨_,_,_,G,H,hp0,e3⟩
 rintro e w ⟨n4,b5,M,rfl,H,hp0,q46⟩;obtain rfl:=oI q46;try dsimp only at h
 refine TN (SQ (SQ (RG (MV G G (ST (q0P G) G (NL (TN ?_)))))));refine q0m G (fun hk47=>?_) (fun hk47=>?_)
 ·
  replace hk47:b5=false:=by simpa using hk47
  subst hk47;rw[if_neg l06] at h;refine SQ (RG (MV G G (AS G G (NL (TN (RT ?_))))));obtain rfl:=oI h;exact q08 G G H.ext G
 replace hk47:b5=true:=by simpa using hk47
 subst hk47;rw[if_pos rfl] at h;refine SK (TN (SQ ?_));obtain⟨l48,hxl48,h⟩:=bnd h;refine RG (MV G G (WR.mkC (enc:=encB) (z0:=(0:UInt8)) xty88 G H G G hxl48 (q00 G) G ?_));intro v85 w H;refine AS G G (NL (TN (SQ (RG (AS G G (NL (TN (SQ (SQ (RG (AS G G (NL (TN ?_)))))))))))));obtain⟨o50,e51,h⟩:=bnd h;refine q0j (fun e w =>∃(l52:Ls) (M:Mem),e=[(12,v85)]∧St w0 M0 M [RowI 5 encB v85 l52] w∧some l52=some o50) [] ?_ ?_ (trivial)
 ·
  refine BL (q0F (fun m e w =>∃(l53:Ls) (n54:Int) (n55:Int) (M:Mem),e=[(0,ptr bp0 0),(1,S p1),(12,v85),(13,I n54),(14,I n55)]∧St w0 M0 M [RowI 5 encB v85 l53] w∧TabO M bp0 232 p0.1 p0.2∧Y02 p0 p1 m l53 n54 n55=some o50) FU [(0,_),(1,_),(12,_),(13,_),(14,_)] ⟨rfl,rfl,rfl,rfl,rfl,trivial⟩ ⟨_,_,_,_,rfl,H,hp0,e51⟩ ?_);rintro m56 e w ⟨l53,n54,n55,M,rfl,H,hp0,e51⟩;rcases m56 with _|m56
  · rw[Y02] at e51;cases e51
  rw[Y02] at e51;refine SQ (SQ (RG (MV G G (MV G G (ST (q0i Tu9 G) G (ST (q0q G G) G (NL (TN ?_))))))));refine CB (p:=n55<(p1.length:Int)) G (fun hk57=>?_) fun hk57=>?_
  ·
   rw[if_pos hk57] at e51;refine SK (TN (SQ (BL (SQ ?_))));obtain⟨c58,hxc58,e51⟩:=bnd e51;refine RG (MV G G (MV G G (ST (q0x Tu9 G G hxc58) G (AS G G (NL (TN (SQ ?_)))))));obtain⟨q59,hxq59,e51⟩:=bnd e51;obtain⟨v99,hc99,ho99⟩:=hp0.at hxq59;refine RG (MV G G (MV G G (FN G G Tu232 G Ts230 G G (ST (Ex.idxArrO Tu230 Ts88 G G hxq59) G (ST (q07 H G hc99 Ta88) G (ST (Ex.neqNilO Tu88 ho99 G) G (NL (TN ?_))))))));refine q0m G (fun hk60=>?_) (fun hk60=>?_)
   ·
    rw[if_pos hk60] at e51;obtain⟨n61,hxn61,e51⟩:=bnd e51;obtain⟨q62,hxq62,e51⟩:=bnd e51;obtain⟨v110,hc110,ho110⟩:=hp0.at hxq62;obtain⟨⟨l63,n64⟩,hx65,e51⟩:=bnd e51;try dsimp only at e51
    obtain⟨n66,hxn66,e51⟩:=bnd e51;refine WC.cutP (fun e w =>∃  (M:Mem),e=[(0,ptr bp0 0),(1,S p1),(12,v85),(13,I n66),(14,I n55)]∧St w0 M0 M [RowI 5 encB v85 l63] w∧TabO M bp0 232 p0.1 p0.2) ?_ ?_
    ·
     refine q0E (m:=13) G G H ?_;intro w H;refine TK 0 G (fun _=>q01 G) G (TK 1 G (fun _=>q01 G) G (TK 2 G (fun _=>q01 G) G (TK 4 G (fun _=>q01 G) G (TK 5 G (fun _=>q01 G) G (TK 6 G (fun _=>q0I G) G (TK 7 G (fun _=>q02 Tu232 G Ts230 Dc G) G ?_))))));refine TK 8 G (fun _=>Ex.idxArrO Tu230 Ts88 G G hxq62) G ?_;refine q0G (i:=3) (j:=9) Kr G G ?_ ?_
     ·
      refine WR.rowFrom (l:=l53) Tu88 Ts5 H Km hxn61 G G (q00 G) G ?_;intro v105 hb105;refine NA (q0s (fuel:=0) [9,10,11,12] G Kr (ST (q07 H G hc110 Ta88) G (WR.copyC (l:=l53) Tu88 xone1_5 (fun _=>G) H (fun _=>by repeat first|exact .head|apply Upd.tail) hb105 (ho110.sl) hx65 G G (q00 G) G ?_)));intro w H;refine ST (q0l G G hxn66) G (AS G G (NA (q0h Kr ?_)));exact MP ⟨_,G,H,hp0⟩
     refine ST (q07 H G hc110 Ta88) G (NA (q0s (fuel:=0) [3,10,11,12] G Kr (WR.rowFrom (l:=l53) Tu88 Ts5 H Km hxn61 G G (q00 G) G ?_)));intro v105 hb105;refine WR.copyC (l:=l53) Tu88 xone1_5 (fun _=>G) H (fun _=>by repeat first|exact .head|apply Upd.tail) hb105 (ho110.sl) hx65 G G (q00 G) G ?_;intro w H;refine ST (q0l G G hxn66) G (AS G G (NA (q0h Kr ?_)));exact MP ⟨_,G,H,hp0⟩
    rintro e w ⟨M,rfl,H,hp0⟩;refine IB (TN ?_);obtain⟨n67,hxn67,e51⟩:=bnd e51;refine RG (MV G G (ST (q0l G G hxn67) G (AS G G (NL ?_))));exact AG m56 ⟨_,_,_,_,G,H,hp0,e51⟩ (l0b _)
   rw[if_neg (by rw[hk60];exact l06)] at e51;refine SQ ?_;obtain⟨c68,hxc68,e51⟩:=bnd e51;obtain⟨l69,hxl69,e51⟩:=bnd e51;refine RG (MV G G (MV G G (MV G G (WR.idxRowC (l:=l53) H Tu88 Ts5 Km G G hxc68 (q00 G) G ?_))));intro g117 hg117;refine WR.storeRowC (a:=c58) H G G ⟨G,G⟩ hg117 (fun _=>by repeat first|exact .head|apply Upd.tail) hxl69 Ts5 (q00 G) ?_;intro w H;refine NL (TN ?_);obtain⟨n70,hxn70,e51⟩:=bnd e51;refine RG (MV G G (ST (q0l G G hxn70) G (AS G G (NL (IB (TN ?_))))));obtain⟨n71,hxn71,e51⟩:=bnd e51;refine RG (MV G G (ST (q0l G G hxn71) G (AS G G (NL ?_))));exact AG m56 ⟨_,_,_,_,G,H,hp0,e51⟩ (l0b _)
  rw[if_neg hk57] at e51;refine q0r (q06 (q06 (q0f ?_)));exact MN ⟨_,_,G,H,e51⟩
 rintro e w ⟨l52,M,rfl,H,q72⟩;obtain rfl:=oI q72;refine TN (SQ (RG (MV G G ?_)));obtain⟨M,hle,hs73,H⟩:=H.freezeRow (v:=v85) (enc:=encB) (t:=5) Kv;refine ST (q2f Tu88 Tu5 Tu9 H (hs73) G) G (AS G G (NL (TN (RT ?_))));obtain rfl:=oI h;exact q08 G G H.ext G
def RplT (M:Mem)(b2:Nat):Prop:=TabO M b2 232 (tabk 2) (trk 2)
theorem RplT.mono {M M':Mem}{b2:Nat}(h:RplT M b2)(hl:M.le M'):RplT M' b2:=TabO.mono h hl
theorem rplBuilt : Y2h [[92],[92,92],[34],[92,34]]=some ((tabk 2,trk 2),[[92],[92,92],[34],[92,34]]):=by decide +kernel
theorem replT_ct {p0 r:Ls}{b2:Nat}(h:Y0Z p0=some r):Ct Tryz.prog 273 [ptr b2 0,S p0] (fun M=>RplT M b2) (fun v M=>v=S r):=Y2r (p0:=(tabk 2,trk 2)) h
def RplM (M:Mem)(x:Array Value):Prop:=(∃v,x = #[Value.int .u32 0,Value.int .i32 0,Value.int .u32 0,Value.nilIface,v]∧Sl M encS v [[92],[92,92],[34],[92,34]])∨∃b2,x = #[Value.int .u32 1,Value.int .i32 0,Value.int .u32 0,Value.iface 233 (ptr b2 0),Value.slice none 0 0]∧RplT M b2
theorem RplM.mono {M M':Mem}{x:Array Value}(h:RplM M x)(hl:M.le M'):RplM M' x:=by
 rcases h with ⟨v,h1,h2⟩|⟨b2,h1,h2⟩
 · exact .inl ⟨v,h1,h2.mono hl⟩
 exact .inr ⟨b2,h1,h2.mono hl⟩
theorem buildOnce_ct {b:Nat}{v:Value}:CtX Tryz.prog 147 [ptr b 0] [.blk b (.cells #[Value.int .u32 0,Value.int .i32 1,Value.int .u32 0,Value.nilIface,v] 166)] (fun M=>Sl M encS v [[92],[92,92],[34],[92,34]]) (fun r M its=>r = .tuple #[]∧∃b2,RplT M b2∧its=[.blk b (.cells #[Value.int .u32 0,Value.int .i32 1,Value.int .u32 0,Value.iface 233 (ptr b2 0),Value.slice none 0 0] 166)]):=by
 refine CtX.of Tryz.func147 (enters Tryz.func147 Kr G) G G G ?_;intro w0 M0 H hp;refine SQ (RG (MV G G (MV G G (q0y (A:=[.blk b (.cells #[Value.int .u32 0,Value.int .i32 1,Value.int .u32 0,Value.nilIface,v] 166)]) (B:=[]) H (Y3G rplBuilt) (.left (q0u _)) G hp (q00 G) G ?_))));intro v4 M w its H hle hR;obtain⟨b2,rfl,hb2,rfl⟩:=hR;simp only[l05,l07] at H;refine FN G G Tu166 G Tryz.sizeOf164 G G (q1e [Value.int .u32 0,Value.int .i32 1,Value.int .u32 0,Value.iface 233 (ptr b2 0),v] H G G ⟨G,G⟩ Upd.head G Tryz.sizeOf164 (show(3:Nat)<5 from by decide) (q00 G) ?_);intro w H;refine NL (TN (RG (MV G G (FN G G Tu166 G Ts55 G G (q1e [Value.int .u32 0,Value.int .i32 1,Value.int .u32 0,Value.iface 233 (ptr b2 0),Value.slice none 0 0] H G G ⟨G,G⟩ Upd.head G Ts55 (show(4:Nat)<5 from by decide) (q00 G) ?_)))));intro w H;refine NL ?_;exact WQ.endX0 G H Kp ⟨G,b2,hb2,G⟩
theorem onceDo_ct {b:Nat}{x:Array Value}:CtX Tryz.prog 146 [ptr b 0, .func (.func 147) #[ptr b 0] #[]] [.blk b (.cells x 166)] (fun M=>RplM M x) (fun r M its=>r = .tuple #[]∧∃b2,RplT M b2∧its=[.blk b (.cells #[Value.int .u32 1,Value.int .i32 0,Value.int .u32 0,Value.iface 233 (ptr b2 0),Value.slice none 0 0] 166)]):=by
 refine⟨enters Tryz.func146 Kr G,fun w M H hp=>?_⟩;rcases hp with ⟨v,rfl,hs⟩|⟨b2,rfl,hb2⟩
 · have H1:StX (feet [.blk b (.cells #[Value.int .u32 0,Value.int .i32 0,Value.int .u32 0,Value.nilIface,v] 166)]) w M M [.blk b (.cells #[Value.int .u32 0,Value.int .i32 1,Value.int .u32 0,Value.nilIface,v] 166)] (w.setCell ⟨b,1,none⟩ (.int .i32 1)):=H.setC (o:=1) (v := .int .i32 1) Upd.head;refine(oFirst b w (fun w2 =>∃M2 b2,StX (feet [.blk b (.cells #[Value.int .u32 0,Value.int .i32 0,Value.int .u32 0,Value.nilIface,v] 166)]) w M M2 [.blk b (.cells #[Value.int .u32 0,Value.int .i32 1,Value.int .u32 0,Value.iface 233 (ptr b2 0),Value.slice none 0 0] 166)] w2∧RplT M2 b2) (H.cellOf (o:=0) (List.Mem.head _) rfl) (H.cellOf (o:=1) (List.Mem.head _) rfl) (H.thawOf (List.Mem.head _)) (H.thawOf (List.Mem.head _)) ?_ ?_).mono ?_
   · refine(buildOnce_ct.calls _ M (H1.hand (q2i _)) hs).mono ?_;rintro e w2 ⟨r,M2,its,rfl,h2,rfl,b2,hb2,rfl⟩;exact⟨G,M2,b2,H1.back (q2i _) h2,hb2⟩
   · rintro w2 ⟨M2,b2,h2,_⟩;exact⟨h2.cellOf (o:=0) (List.Mem.head _) G,h2.cellOf (o:=1) (List.Mem.head _) G,h2.thawOf (List.Mem.head _),h2.thawOf (List.Mem.head _)⟩
   rintro e w' ⟨rfl,w2,⟨M2,b2,h2,hb2⟩,rfl⟩;have h3:StX (feet [.blk b (.cells #[Value.int .u32 0,Value.int .i32 0,Value.int .u32 0,Value.nilIface,v] 166)]) w M M2 [.blk b (.cells #[Value.int .u32 1,Value.int .i32 1,Value.int .u32 0,Value.iface 233 (ptr b2 0),Value.slice none 0 0] 166)] (w2.drew.setCell ⟨b,0,none⟩ (.int .u32 1)):=h2.drew.setC (o:=0) (v := .int .u32 1) Upd.head;have h4:StX (feet [.blk b (.cells #[Value.int .u32 0,Value.int .i32 0,Value.int .u32 0,Value.nilIface,v] 166)]) w M M2 [.blk b (.cells #[Value.int .u32 1,Value.int .i32 0,Value.int .u32 0,Value.iface 233 (ptr b2 0),Value.slice none 0 0] 166)] ((w2.drew.setCell ⟨b,0,none⟩ (.int .u32 1)).setCell ⟨b,1,none⟩ (.int .i32 0)):=h3.setC (o:=1) (v := .int .i32 0) Upd.head;exact⟨_,M2,_,G,h4,G,b2,hb2,G⟩
 refine(oAgain ⟨b,0,none⟩ 1 Dc _ w (H.cellOf (o:=0) (List.Mem.head _) G)).mono ?_;rintro e w' ⟨rfl,rfl⟩;exact⟨_,M,_,G,H,G,b2,hb2,G⟩
theorem methR (b2 : Nat): MethAt Tryz.prog 233 (ptr b2 0) "Replace" 273 (ptr b2 0) := fun w => by kernel_rfl
theorem Y3x {p0:Ls}{b:Nat}{x:Array Value}{r:Ls}(h:Y0Z p0=some r):CtX Tryz.prog 116 [ptr b 0,S p0] [.blk b (.cells x 166)] (fun M=>RplM M x) (fun v M its =>∃x',v=S r∧RplM M x'∧its=[.blk b (.cells x' 166)]):=by
 refine CtX.of Tryz.func116 (enters Tryz.func116 Kr G) G G G ?_;intro w0 M0 H hp;refine SQ (RG (AS G G (NL (TN (SQ (RG (MV G G (FN G G Tu166 G Tryz.sizeOf162 G G (MV G G (ST (Ex.makeFuncF (vs:=[ptr b 0]) G) G (q0y (A:=[.blk b (.cells x 166)]) (B:=[]) H (onceDo_ct (b:=b) (x:=x)) (.left (q0u _)) G hp (q00 G) G ?_)))))))))));intro v10 M w its H hle hR;obtain⟨rfl,b2,hb2,rfl⟩:=hR;simp only[l05,l07] at H;refine NL (TN (SQ (RG (MV G G (FN G G Tu166 G Tryz.sizeOf164 G G (ST (Ex.load1 H G (List.Mem.head _) Tryz.isAgg164 Kf) G ?_))))));refine MV G G (WR.callI H (replT_ct h) (methR b2) G G hb2 (q00 G) G ?_);intro v16 M w H hle hR;obtain rfl:=hR;refine AS G G (NL (TN (RT ?_)));exact q1t (its:=[.blk b (.cells #[Value.int .u32 1,Value.int .i32 0,Value.int .u32 0,Value.iface 233 (ptr b2 0),Value.slice none 0 0] 166)]) G G H Kp ⟨_,G, .inr ⟨b2,G,hb2.mono hle⟩,G⟩
theorem xplacesR :∀{fs:Array Field},Tryz.prog.underlying 166=some (.struct fs)→∀w,(fs.mapM fun f=>do pure (f.offset,←sizeOf f.type):Sem (Array (Nat × Nat))).run Tryz.prog w = .ok #[(0,3),(3,1),(4,1)] w:=by
 intro fs h w;rw[Tu166] at h;cases h;simp
theorem Y43 {p0:List Ls}{vp0:Value}{r:Unit}(h:Y1L p0=some r):CtX Tryz.prog 115 [vp0] [] (fun M=>Sl M encS vp0 p0) (fun v M its =>∃b x,v=ptr b 0∧RplM M x∧its=[.blk b (.cells x 166)]):=by
 unfold Y1L at h;split at h
 case isFalse=>cases h
 rename_i hl;subst hl;refine CtX.of Tryz.func115 (enters Tryz.func115 Kr G) G G G ?_;intro w0 M0 H hp0;refine SQ (RG (AS G G (NL (TN (SQ (SQ (RG (MV G G (ST (q0M Tu55 hp0 G) G (ST (Ex.remC (a:=4) (b:=2) (z:=0) G G G) G (q0Z (q0e G G) Dc (q00 G) G G (NL (TN (CF G (SK (TN (SQ (RG (MV G G ?_)))))))))))))))))));replace H:=H.newRow 9 encS;refine q1N (l:=[]) xty55 G (fun _=>G) H G (fun _=>by repeat first|exact .head|apply Upd.tail) G hp0 (l3:=[[92],[92,92],[34],[92,34]]) G (q00 G) G ?_;intro v9 w H;obtain⟨M,hle,hs,H1⟩:=H.freezeRowN (v:=v9) (enc:=encS) (t:=9) Kv trivial;have hs2:=hs;obtain⟨A9,c9,rfl,-⟩:=hs2;refine ST (q0B [Value.int .u32 0,Value.int .i32 0,Value.int .u32 0,Value.nilIface, .slice A9 4 c9] Tu166 Tryz.zeroValue166 (xplacesR Tu166) G Kr) G (q1C [Value.int .u32 0,Value.int .i32 0,Value.int .u32 0,Value.nilIface, .slice A9 4 c9] H1 G G (q00 G) G ?_);intro b11 w H2;refine AS G G (NL (TN (RT ?_)));exact q1t (its:=[.blk b11 (.cells #[Value.int .u32 0,Value.int .i32 0,Value.int .u32 0,Value.nilIface, .slice A9 4 c9] 166)]) G G H2 Kp ⟨b11,_,G, .inl ⟨_,G,hs⟩,G⟩
theorem Y4n {s sep:Ls}{k:Int}:CtX Tryz.prog 113 [S s,S sep,I k] [] (fun _=>True) (fun v M its =>∃b1 b2 b3,v = .func (.func 143) #[] #[ptr b1 0,ptr b2 0,ptr b3 0]∧its=[.blk b1 (.cells #[S sep] 9), .blk b2 (.cells #[S s] 9), .blk b3 (.cells #[I k] 3)]):=by
 refine CtX.of Tryz.func113 (enters Tryz.func113 Kr G) G G G ?_;intro w0 M0 H _;refine SQ (RG (q1C [_] H G G (q00 G) G ?_));intro b2 w H;refine q1C [_] H G G (q00 G) G ?_;intro b1 w H;refine q1C [_] H G G (q00 G) G ?_;intro b3 w H;refine AS G G (NL (TN (SQ (RG (ST (q2e G) G (AS G G (NL (TN (RT ?_)))))))));exact q1t (its:=[.blk b1 (.cells #[S sep] 9), .blk b2 (.cells #[S s] 9), .blk b3 (.cells #[I k] 3)]) G G H Kp ⟨_,_,_,G,G⟩
theorem Y3y {s sep:Ls}:CtX Tryz.prog 79 [S s,S sep] [] (fun _=>True) (fun v M its =>∃b1 b2 b3,v = .func (.func 143) #[] #[ptr b1 0,ptr b2 0,ptr b3 0]∧its=[.blk b1 (.cells #[S sep] 9), .blk b2 (.cells #[S s] 9), .blk b3 (.cells #[I 0] 3)]):=by
 refine CtX.of Tryz.func79 (enters Tryz.func79 Kr G) G G G ?_;intro w0 M0 H _;refine SQ (RG (AS G G (NL (TN (SQ (RG (MV G G (MV G G (q0y (A:=[]) (B:=[]) H Y4n (q0u _) G trivial (q00 G) G ?_)))))))));intro v7 M w its H hle hR;obtain⟨b1,b2,b3,rfl,rfl⟩:=hR;simp only[l05,l07] at H;refine AS G G (NL (TN (RT ?_)));exact q1t (its:=[.blk b1 (.cells #[S sep] 9), .blk b2 (.cells #[S s] 9), .blk b3 (.cells #[I 0] 3)]) G G H Kp ⟨_,_,_,G,G⟩
theorem Y3Y {p0 r:List (Ls × Ls × Ls)}{vp0:Value}(h:Y1v p0=some r):Ct Tryz.prog 39 [vp0] (fun M=>SlS M 3 xenc24 vp0 p0) (fun v M=>SlS M 3 xenc24 v r):=by
 refine Ct.of Tryz.func39 (enters Tryz.func39 Kr G) G G G ?_;intro w0 M0 H hp0;unfold Y1v at h;refine SQ (RG (AS G G (NL (TN (SQ (SQ ?_))))));rcases SlS.nilOr hp0 with ⟨rfl,rfl⟩|⟨a,c,rfl⟩
 · refine WC.region ?_;refine MV G G (ST (Ex.eqlNilS Tu30 G) G (NL (TN (CT G (SQ (RG (AS G G (NL (TN (RT ?_))))))))));obtain⟨_,rfl⟩:=app_some h;exact q08 G G H.ext (SlS.nil _ _ (fun _=>G))
 refine WC.region ?_;refine MV G G (ST (Ex.eqlNilS Tu30 G) G (NL (TN (CF G (SK ?_)))))
 (repeat(first|refine WQ.then ?_))
 refine SQ (RG (WR.litE xty30 xenc24 H (q00 G) G ?_));intro v5 w H;refine MV G G (q1P (l:=[]) xty30 G xone24 H G (fun _=>by repeat first|exact .head|apply Upd.tail) G hp0 h (q00 G) G ?_);intro v7 w H;refine AS G G (NL (TN (RT ?_)));obtain⟨M,hle,hf,H⟩:=H.freezeRowS (v:=v7) (enc:=xenc24) (t:=24) Kv (fun _=>rfl);exact q08 G G H.ext hf
theorem Y0K {p0:Int}{p1:Int}{r:(Int × Int)}(h:Y07 p0 p1=some r):Ct Tryz.prog 30 [I p0,I p1] (fun M=>True) (fun v M=>v=Value.agg #[I r.1,I r.2]):=by
 refine Ct.of Tryz.func30 (enters Tryz.func30 Kr G) G G G ?_;intro w0 M0 H hp;unfold Y07 at h;refine SQ (RG (q0k [_,_] H Tz27 G (q00 G) G ?_));intro bk4 w H;refine NL (TN (SQ (RG (MV G G (MV G G (ST (q0B [I p0,I p1] Tu27 Tz27 (xplaces27 Tu27) G G) G (q0b [_,_] H G G G Ku Ts27 G Kf Kf (q00 G) ?_)))))));intro w H;refine NL (TN (RT ?_));obtain rfl:=oI h;exact q08 G ⟨_,G,H.loadAgg Km Ta27 Ts27 Kf⟩ H.ext G
theorem Y3A {p0:Ls}{r:Int}(h:Y20 p0=some r):Ct Tryz.prog 29 [S p0] (fun M=>Tabs M) (fun v M=>v=I r):=by
 refine Ct.of Tryz.func29 (enters Tryz.func29 Kr G) G G G ?_;intro w0 M0 H hp;have gT:=hp;unfold Y20 at h;refine SQ (RG (AS G G (NL (TN (SQ (SQ (RG (MV G G (ST (q0i Tu9 G) G (ST (q0J G G) G (NL (TN ?_))))))))))));refine CB (p:=(500:Int)<(p0.length:Int)) G (fun hk1=>?_) fun hk1=>?_
 ·
  rw[if_pos hk1] at h;refine SQ (RG (AS G G (NL (TN (RT ?_)))));obtain rfl:=oI h;exact q08 G G H.ext G
 rw[if_neg hk1] at h;refine SK (TN (SQ (SQ ?_)));obtain⟨b2,hx3,h⟩:=bnd h;refine RG (MV G G (q05 H (Y3w hx3) G (gT) (q00 G) G ?_));intro v7 M w H hle hR;replace gT:=gT.mono hle;obtain rfl:=hR;refine ST (q0P G) G (NL (TN ?_));refine q0m G (fun hk4=>?_) (fun hk4=>?_)
 ·
  replace hk4:b2=false:=by simpa using hk4
  subst hk4;rw[if_neg l06] at h;refine SQ (RG (AS G G (NL (TN (RT ?_)))));obtain rfl:=oI h;exact q08 G G H.ext G
 replace hk4:b2=true:=by simpa using hk4
 subst hk4;rw[if_pos rfl] at h;refine SK (TN (SQ (RG (AS G G (NL (TN (RT ?_)))))));obtain rfl:=oI h;exact q08 G G H.ext G
theorem Y49 {p0:Ls}{p1:(UInt8→Option Bool)}{vp1:Value}{r:Bool}(h:Y3b p0 p1=some r):Ct Tryz.prog 66 [S p0,vp1] (fun M=>FnT90 M vp1 p1) (fun v M=>v=Value.bool r):=by
 refine Ct.of Tryz.func66 (enters Tryz.func66 Kr G) G G G ?_;intro w0 M0 H hp;have hp1:=hp;unfold Y3b at h;refine SQ (RG (AS G G (NL (TN (SQ (SQ (RG (MV G G (ST (q0i Tu9 G) G (MV G G (NL (TN ?_))))))))))));obtain⟨o1,e2,h⟩:=bnd h;refine q0j (fun e w =>∃  (M:Mem),e=[]∧St w0 M0 M [] w∧some (.inl ())=some o1) [] ?_ ?_ (trivial)
 ·
  refine BL (q0F (fun m e w =>∃(n3:Int) (M:Mem),e=[(0,S p0),(1,vp1),(7,I (p0.length:Int)),(8,I n3)]∧St w0 M0 M [] w∧FnT90 M vp1 p1∧Y23 p0 p1 m n3=some o1) FU [(0,_),(1,_),(7,_),(8,_)] ⟨rfl,rfl,rfl,rfl,trivial⟩ ⟨_,_,rfl,H,hp1,e2⟩ ?_);rintro m4 e w ⟨n3,M,rfl,H,hp1,e2⟩;rcases m4 with _|m4
  · rw[Y23] at e2;cases e2
  rw[Y23] at e2;refine SQ (RG (ST (q0q G G) G (NL (TN (SQ ?_)))));refine CB (p:=n3<(p0.length:Int)) G (fun hk5=>?_) fun hk5=>?_
  ·
   rw[if_pos hk5] at e2;refine SK (TN (SQ (BL (SQ (RG (MV G G (AS G G (NL (TN (SQ ?_))))))))));obtain⟨c6,hxc6,e2⟩:=bnd e2;obtain⟨b7,hx8,e2⟩:=bnd e2;refine RG (MV G G (MV G G (MV G G (ST (q0x Tu9 G G hxc6) G (WR.callF H (hp1.2 _ _ hx8) G G (q00 G) G ?_)))));intro v15 M w H hle hR;replace hp1:=hp1.mono hle;obtain rfl:=hR;refine ST (q0P G) G (NL (TN ?_));refine q0m G (fun hk9=>?_) (fun hk9=>?_)
   ·
    replace hk9:b7=false:=by simpa using hk9
    subst hk9;rw[if_neg l06] at e2;refine SQ (RG (AS G G (NL (TN (RT ?_)))));obtain rfl:=oI e2;try dsimp only at h
    obtain rfl:=oI h;exact q08 G G H.ext G
   replace hk9:b7=true:=by simpa using hk9
   subst hk9;rw[if_pos rfl] at e2;refine SK (IB (TN ?_));obtain⟨n10,hxn10,e2⟩:=bnd e2;refine RG (ST (q0l G G hxn10) G (MV G G (NL ?_)));exact AG m4 ⟨_,_,G,H,hp1,e2⟩ (l0b _)
  rw[if_neg hk5] at e2;refine q0r (q06 (q06 (q0f ?_)));exact MN ⟨_,G,H,e2⟩
 rintro e w ⟨M,rfl,H,q11⟩;obtain rfl:=oI q11;try dsimp only at h
 refine TN (SQ (RG (AS G G (NL (TN (RT ?_))))));obtain rfl:=oI h;exact q08 G G H.ext G
theorem Y4t {p0:UInt8}{r:Bool}(h:Y2k p0=some r):Ct Tryz.prog 67 [encB p0] (fun M=>True) (fun v M=>v=Value.bool r):=by
 refine Ct.of Tryz.func67 (enters Tryz.func67 Kr G) G G G ?_;intro w0 M0 H hp;unfold Y2k at h;refine SQ (RG (AS G G (NL (TN (SQ ?_)))));obtain⟨o1,e2,h⟩:=bnd h;refine q0j (fun e w =>∃(b3:Bool) (M:Mem),e=[(2,Value.bool b3)]∧St w0 M0 M [] w∧some b3=some o1) [] ?_ ?_ (trivial)
 ·
  by_cases hk4:32≤p0.toNat
  ·
   rw[if_pos hk4] at e2;refine RG (MV G G (DT hk4 (q1k (i:=p0.toNat) (j:=32) G G) G (MV G G (SG (q01 G) G G G (SG (q1D (i:=p0.toNat) (j:=126) G G) G G G (PT G G G (AS G G (NL ?_))))))));exact MN ⟨_,_,G,H,e2⟩
  rw[if_neg hk4] at e2;refine RG (MV G G (DF hk4 (q1k (i:=p0.toNat) (j:=32) G G) G (MV G G (GF G G G (GF G G G (PF G G G (AS G G (NL ?_))))))));exact MN ⟨_,_,G,H,e2⟩
 rintro e w ⟨b3,M,rfl,H,q5⟩;obtain rfl:=oI q5;refine TN (RT ?_);obtain rfl:=oI h;exact q08 G G H.ext G
theorem Y2z {p0:Ls}{r:Bool}(h:Y1R p0=some r):Ct Tryz.prog 31 [S p0] (fun M=>True) (fun v M=>v=Value.bool r):=by
 refine Ct.of Tryz.func31 (enters Tryz.func31 Kr G) G G G ?_;intro w0 M0 H hp;unfold Y1R at h;refine SQ (RG (AS G G (NL (TN (SQ ?_)))));obtain⟨o1,e2,h⟩:=bnd h;refine q0j (fun e w =>∃(b3:Bool) (M:Mem),e=[(2,Value.bool b3)]∧St w0 M0 M [] w∧some b3=some o1) [] ?_ ?_ (trivial)
 ·
  by_cases hk4:p0=[]
  ·
   rw[if_pos hk4] at e2;refine RG (MV G G (q09 (v' := .bool false) (q1A G G) (congrArg Value.bool (by rw[decide_eq_true hk4];rfl)) (q00 G) G G ?_));refine MV G G (q0d 3 G G (PF G G G (MV G G (GF G G G (GF G G G (PF G G G (AS G G (NL ?_))))))));exact MN ⟨_,_,G,H,e2⟩
  rw[if_neg hk4] at e2;refine RG (MV G G (q09 (v' := .bool true) (q1A G G) (congrArg Value.bool (by rw[decide_eq_false hk4];rfl)) (q00 G) G G ?_));by_cases hk5:(p0.length:Int)≤(60:Int)
  ·
   rw[if_pos hk5] at e2;obtain⟨b6,hx7,e2⟩:=bnd e2;refine MV G G (SG (q01 G) G G G (SG (q0i Tu9 G) G G G (DU hk5 (q1y G G) G G G (PT G G G (MV G G (SG (q01 G) G G G (q05 H (Y49 hx7) G ((⟨⟨G,G⟩,(fun _ _ h=>FnV.of (Y4t h) (fun _ _=>trivial))⟩:FnT90 _ _ _)) (q04 G G G) G ?_)))))));intro v12 M w H hle hR;obtain rfl:=hR;refine PT G G G (AS G G (NL ?_));exact MN ⟨_,_,G,H,e2⟩
  rw[if_neg hk5] at e2;refine MV G G (SG (q01 G) G G G (SG (q0i Tu9 G) G G G (DG hk5 (q1y G G) G G G (PT G G G (MV G G (GF G G G (GF G G G (PF G G G (AS G G (NL ?_))))))))));exact MN ⟨_,_,G,H,e2⟩
 rintro e w ⟨b3,M,rfl,H,q8⟩;obtain rfl:=oI q8;refine TN (RT ?_);obtain rfl:=oI h;exact q08 G G H.ext G
theorem Y3d {p1:Ls}{p2:Ls}{p3:Int}{bp1:Nat}{bp2:Nat}{bp3:Nat}:ItS Tryz.prog 143 [ptr bp1 0,ptr bp2 0,ptr bp3 0] [.blk bp1 (.cells #[S p1] 9), .blk bp2 (.cells #[S p2] 9), .blk bp3 (.cells #[I p3] 3)] (fun M=>GlF (fun w =>∃m,w.cell? ⟨2,0,none⟩=some (.int .i64 m)) M∧Tabs M) encS (Y1q p1 p2 p3):=by
 refine ItS.of Tryz.func143 (enters Tryz.func143 Kr G) G G G ?_;intro lid σ Y Z C hY s0 r L0 w0 M0 h hzz H hp;simp only[l05,l07] at H;obtain⟨gM,gT⟩:=hp;unfold Y1q at h;refine SQ (SQ (RG (ST (XL H Ta9) G ?_)));refine ST (q0i Tu9 G) G (ST (q0e G G) G (NL (TN ?_)));refine CB (p:=(p1.length:Int)=(0:Int)) G (fun hk1=>?_) fun hk1=>?_
 ·
  rw[if_pos hk1] at h;refine SQ ?_;obtain⟨o2,e3,h⟩:=bnd h;refine q0j (fun e w =>∃(s4:Ls) (s5:σ) (Lc:List Ph.Item) (M:Mem),e=[]∧StX C w0 M0 M (.blk bp1 (.cells #[S p1] 9) :: .blk bp2 (.cells #[S s4] 9) :: .blk bp3 (.cells #[I p3] 3)::Lc) w∧GlF (fun w =>∃m,w.cell? ⟨2,0,none⟩=some (.int .i64 m)) M∧Tabs M∧ZH Z s5 Lc M∧some (.inl (s4,s5))=some o2) [] ?_ ?_ (trivial)
  ·
   refine BL ?_;refine q0F (fun m e w =>∃(s6:Ls) (s7:σ) (Lc:List Ph.Item) (M:Mem),e=[(0,(yv lid)),(2,ptr bp2 0)]∧StX C w0 M0 M (.blk bp2 (.cells #[S s6] 9) :: .blk bp1 (.cells #[S p1] 9) :: .blk bp3 (.cells #[I p3] 3)::Lc) w∧GlF (fun w =>∃m,w.cell? ⟨2,0,none⟩=some (.int .i64 m)) M∧Tabs M∧ZH Z s7 Lc M∧Y1m Y m s6 s7=some o2) FU [(0,_),(2,_)] ⟨rfl,rfl,trivial⟩ ⟨_,_,_,_,rfl,(H.pick (L':=(.blk bp2 (.cells #[S p2] 9) :: .blk bp1 (.cells #[S p1] 9) :: .blk bp3 (.cells #[I p3] 3)::L0)) (by repeat(first|refine Pick.cons Kv ?_|exact Pick.ofSub (by repeat(first|exact List.Sublist.refl _|apply List.Sublist.cons))))),gM,gT,hzz,e3⟩ ?_;rintro m8 e w ⟨s6,s7,Lc,M,rfl,H,gM,gT,hzz,e3⟩;rcases m8 with _|m8
   · rw[Y1m] at e3;cases e3
   rw[Y1m] at e3;refine SQ (SQ (RG (ST (XL H Ta9) G ?_)));refine ST (q0i Tu9 G) G (ST (q0J G G) G (NL (TN ?_)));refine CB (p:=(0:Int)<(s6.length:Int)) G (fun hk9=>?_) fun hk9=>?_
   ·
    rw[if_pos hk9] at e3;refine SK (TN (BL (SQ ?_)));obtain⟨⟨n10,n11⟩,hx12,e3⟩:=bnd e3;try dsimp only at e3
    refine RG (ST (XL H Ta9) G ?_);refine q05 H (Y3z hx12) G (gT) (q00 G) G ?_;intro v17 M w H hle hR;replace gM:=gM.mono hle;replace gT:=gT.mono hle;replace hzz:=hzz.mono hle;try dsimp only at hR
    obtain rfl:=hR;refine MV G G (ST (q0c G G) G (ST (q0c G G) G (AS G G (AS G G (NL (TN (SQ (SQ ?_))))))));obtain⟨s13,hxs13,e3⟩:=bnd e3;obtain⟨⟨s14,b15⟩,hx16,e3⟩:=bnd e3;try dsimp only at e3
    refine RG (MV G G (ST (XL H Ta9) G ?_));refine MV G G (ST (Ex.sliceH Tu9 G G hxs13) G (WR.yieldS H (.right (.right (.right (q2i _)))) hY hzz hx16 G G (q00 G) G ?_));intro w M Lc H hle hzz;simp only[l05,l07] at H;replace gM:=gM.mono hle;replace gT:=gT.mono hle;refine ST (q0P G) G (NL (TN ?_));refine q0m G (fun hk17=>?_) (fun hk17=>?_)
    ·
     replace hk17:b15=false:=by simpa using hk17
     subst hk17;rw[if_neg l06] at e3;refine RT ?_;obtain rfl:=oI e3;try dsimp only at h
     obtain rfl:=oI h;exact WQ.retZ G H (by repeat(first|exact List.Sublist.refl _|apply List.Sublist.cons)) hzz G
    replace hk17:b15=true:=by simpa using hk17
    subst hk17;rw[if_pos rfl] at e3;refine SK (TN ?_);obtain⟨s18,hxs18,e3⟩:=bnd e3;refine RG (ST (XL H Ta9) G ?_);refine MV G G (ST (Ex.sliceL Tu9 G G hxs18) G (q0b [_] H G G G Ku Ts9 G Kf Kf (q00 G) ?_));intro w H;refine NL (IB ?_);exact AG m8 ⟨_,_,_,_,G,H,gM,gT,hzz,e3⟩ (l0b _)
   rw[if_neg hk9] at e3;refine q0r (q06 (q06 (q0f ?_)));exact MN ⟨_,_,_,_,G,(H.pick (L':=(.blk bp1 (.cells #[S p1] 9) :: .blk bp2 (.cells #[S s6] 9) :: .blk bp3 (.cells #[I p3] 3)::Lc)) (by repeat(first|refine Pick.cons Kv ?_|exact Pick.ofSub (by repeat(first|exact List.Sublist.refl _|apply List.Sublist.cons))))),gM,gT,hzz,e3⟩
  rintro e w ⟨s4,s5,Lc,M,rfl,H,gM,gT,hzz,q19⟩;obtain rfl:=oI q19;try dsimp only at h
  refine TN (RT ?_);obtain rfl:=oI h;exact WQ.retZ G H (by repeat(first|exact List.Sublist.refl _|apply List.Sublist.cons)) hzz G
 rw[if_neg hk1] at h;refine SK (TN (SQ ?_));obtain⟨o22,e23,h⟩:=bnd h;refine q0j (fun e w =>∃(s24:Ls) (s25:σ) (Lc:List Ph.Item) (M:Mem),e=[(0,(yv lid)),(2,ptr bp2 0)]∧StX C w0 M0 M (.blk bp2 (.cells #[S s24] 9) :: .blk bp1 (.cells #[S p1] 9) :: .blk bp3 (.cells #[I p3] 3)::Lc) w∧GlF (fun w =>∃m,w.cell? ⟨2,0,none⟩=some (.int .i64 m)) M∧Tabs M∧ZH Z s25 Lc M∧some (.inl (s24,s25))=some o22) [] ?_ ?_ (trivial)
 ·
  refine BL (q0F (fun m e w =>∃(s26:Ls) (s27:σ) (Lc:List Ph.Item) (M:Mem),e=[(0,(yv lid)),(1,ptr bp1 0),(2,ptr bp2 0),(3,ptr bp3 0)]∧StX C w0 M0 M (.blk bp1 (.cells #[S p1] 9) :: .blk bp2 (.cells #[S s26] 9) :: .blk bp3 (.cells #[I p3] 3)::Lc) w∧GlF (fun w =>∃m,w.cell? ⟨2,0,none⟩=some (.int .i64 m)) M∧Tabs M∧ZH Z s27 Lc M∧Y0u Y p1 p3 m s26 s27=some o22) FU [(0,_),(1,_),(2,_),(3,_)] ⟨rfl,rfl,rfl,rfl,trivial⟩ ⟨_,_,_,_,rfl,H,gM,gT,hzz,e23⟩ ?_);rintro m28 e w ⟨s26,s27,Lc,M,rfl,H,gM,gT,hzz,e23⟩;rcases m28 with _|m28
  · rw[Y0u] at e23;cases e23
  rw[Y0u] at e23;refine BL (SQ ?_);obtain⟨n29,hx30,e23⟩:=bnd e23;refine RG (ST (XL H Ta9) G ?_);refine ST (XL H Ta9) G ?_;refine q05 H (Y4J hx30) G (gM) (q00 G) G ?_;intro v31 M w H hle hR;replace gM:=gM.mono hle;replace gT:=gT.mono hle;replace hzz:=hzz.mono hle;obtain rfl:=hR;refine AS G G (NL (TN (SQ (SQ (RG (MV G G (ST (q0q G G) G (NL (TN ?_)))))))));refine CB (p:=n29<(0:Int)) G (fun hk31=>?_) fun hk31=>?_
  ·
   rw[if_pos hk31] at e23;refine q0r (q06 (WQ.exitOut G (q06 (q0f ?_))));exact MN ⟨_,_,_,_,G,(H.pick (L':=(.blk bp2 (.cells #[S s26] 9) :: .blk bp1 (.cells #[S p1] 9) :: .blk bp3 (.cells #[I p3] 3)::Lc)) (by repeat(first|refine Pick.cons Kv ?_|exact Pick.ofSub (by repeat(first|exact List.Sublist.refl _|apply List.Sublist.cons))))),gM,gT,hzz,e23⟩
  rw[if_neg hk31] at e23;refine SK (TN (SQ ?_));obtain⟨n32,hxn32,e23⟩:=bnd e23;obtain⟨s33,hxs33,e23⟩:=bnd e23;refine RG (ST (XL H Ta9) G ?_);refine MV G G (ST (XL H Ta3) G ?_);refine ST (q0l G G hxn32) G (ST (Ex.sliceH Tu9 G G hxs33) G (AS G G (NL (TN (SQ (SQ ?_))))));obtain⟨⟨s34,b35⟩,hx36,e23⟩:=bnd e23;try dsimp only at e23
  refine RG (MV G G (MV G G (WR.yieldS H (.right (.right (.right (q2i _)))) hY hzz hx36 G G (q00 G) G ?_)));intro w M Lc H hle hzz;simp only[l05,l07] at H;replace gM:=gM.mono hle;replace gT:=gT.mono hle;refine ST (q0P G) G (NL (TN ?_));refine q0m G (fun hk37=>?_) (fun hk37=>?_)
  ·
   replace hk37:b35=false:=by simpa using hk37
   subst hk37;rw[if_neg l06] at e23;refine RT ?_;obtain rfl:=oI e23;try dsimp only at h
   obtain rfl:=oI h;exact WQ.retZ G H (by repeat(first|exact List.Sublist.refl _|apply List.Sublist.cons)) hzz G
  replace hk37:b35=true:=by simpa using hk37
  subst hk37;rw[if_pos rfl] at e23;refine SK (TN ?_);obtain⟨n38,hxn38,e23⟩:=bnd e23;obtain⟨s39,hxs39,e23⟩:=bnd e23;refine RG (ST (XL H Ta9) G ?_);refine MV G G (ST (XL H Ta9) G ?_);refine ST (q0i Tu9 G) G (ST (q0l G G hxn38) G (ST (Ex.sliceL Tu9 G G hxs39) G (q0b [_] H G G G Ku Ts9 G Kf Kf (q00 G) ?_)));intro w H;refine NL (IB ?_);exact AG m28 ⟨_,_,_,_,G,H,gM,gT,hzz,e23⟩ (l0b _)
 rintro e w ⟨s24,s25,Lc,M,rfl,H,gM,gT,hzz,q40⟩;obtain rfl:=oI q40;try dsimp only at h
 refine TN ?_;obtain⟨⟨s41,b42⟩,hx43,h⟩:=bnd h;try dsimp only at h
 refine RG (MV G G (ST (XL H Ta9) G ?_));refine WR.yieldS H (.right (.right (.right (q2i _)))) hY hzz hx43 G G (q00 G) G ?_;intro w M Lc H hle hzz;simp only[l05,l07] at H;replace gM:=gM.mono hle;replace gT:=gT.mono hle;refine NL ?_;obtain rfl:=oI h;exact WQ.endZ G H (by repeat(first|exact List.Sublist.refl _|apply List.Sublist.cons)) hzz G
theorem Y40 {p0:Ls}{p1:(UInt8→Option Bool)}{vp1:Value}{r:Bool}(h:Y2o p0 p1=some r):Ct Tryz.prog 68 [S p0,vp1] (fun M=>GlF (fun w =>∃m,w.cell? ⟨2,0,none⟩=some (.int .i64 m)) M∧Tabs M∧FnT90 M vp1 p1) (fun v M=>v=Value.bool r):=by
 refine Ct.ofM Tryz.func68 (enters Tryz.func68 Kr G) G G G ?_;intro w0 M0 H hp;obtain⟨gM,gT,hp1⟩:=hp;unfold Y2o at h;refine SQ (RG (q1C [_] H G hp1.1.1 (q00 G) G ?_));intro bk3 w H;refine q0k [_] H Tz4 G (q00 G) G ?_;intro bk4 w H;refine NL (TN (SQ (SQ (RG (MV G G (q0y (A:=[]) (B:=[.blk bk4 (.cells #[Value.bool false] 4), .blk bk3 (.cells #[vp1] 90)]) H Y3y (q0u _) G trivial (q00 G) G ?_))))));intro v7 M w its H hle hR;replace gM:=gM.mono hle;replace gT:=gT.mono hle;replace hp1:=hp1.mono hle;obtain⟨bk7_0,bk7_1,bk7_2,rfl,rfl⟩:=hR;simp only[l05,l07] at H;refine NL (TN (BL ?_));obtain⟨o4,e5,h⟩:=bnd h;refine WC.rangeS (A:=[.blk bk7_0 (.cells #[S [46]] 9), .blk bk7_1 (.cells #[S p0] 9), .blk bk7_2 (.cells #[I 0] 3)]) (L:=[.blk bk3 (.cells #[vp1] 90), .blk bk4 (.cells #[Value.bool false] 4)]) (B:=[]) (H.pick (L':=[.blk bk7_0 (.cells #[S [46]] 9), .blk bk7_1 (.cells #[S p0] 9), .blk bk7_2 (.cells #[I 0] 3), .blk bk3 (.cells #[vp1] 90), .blk bk4 (.cells #[Value.bool false] 4)]) Kp) rfl Y3d (.left (.left (.left (.left (.left (q0u _)))))) ⟨gM,gT⟩ rfl (fun s L M =>∃(b1:Bool) (tg3:Nat),s=(b1,tg3)∧L=[.blk bk3 (.cells #[vp1] 90), .blk bk4 (.cells #[Value.bool b1] 4)]∧GlF (fun w =>∃m,w.cell? ⟨2,0,none⟩=some (.int .i64 m)) M∧Tabs M∧FnT90 M vp1 p1) (fun s=>exE [.ret] s.2) exStop (fun s=>exE_stop _ s) (Y1N p1) (false,0) o4 e5 (by rintro s L M M' ⟨b1,tg3,rfl,rfl,gM,gT,hp1⟩ hle;exact ⟨_,_,rfl,rfl,gM.mono hle,gT.mono hle,hp1.mono hle⟩) rfl ⟨_,_,rfl,rfl,gM,gT,hp1⟩ ?_ ?_ ?_
 ·
  rintro lid2 rc2 hrc2 s x6 sx2 L wb2 Mb2 hE e7 ⟨b1,tg3,rfl,rfl,gM,gT,hp1⟩ H;unfold Y1N at e7;try dsimp only at e7
  refine RG (AS G G (NL (WQ.begin hrc2 H Ku ?_)));intro w H;refine BL (SQ ?_);obtain⟨o8,e9,e7⟩:=bnd e7;refine q0j (fun e w =>∃(b10:Bool) (M:Mem),e=[(3,ptr bk3 0),(4,ptr bk4 0),(16,Value.bool b10)]∧StX (feet (.blk lid2 (.loop (rc2 .ready none))::[.blk bk3 (.cells #[vp1] 90), .blk bk4 (.cells #[Value.bool b1] 4)])) wb2 Mb2 M [.blk bk3 (.cells #[vp1] 90), .blk bk4 (.cells #[Value.bool b1] 4), .blk lid2 (.loop (rc2 .busy none))] w∧GlF (fun w =>∃m,w.cell? ⟨2,0,none⟩=some (.int .i64 m)) M∧Tabs M∧FnT90 M vp1 p1∧some b10=some o8) [] ?_ ?_ (trivial)
  ·
   by_cases hk11:x6=[]
   ·
    rw[if_pos hk11] at e9;refine RG (MV G G (DT hk11 (q0L G G) G (MV G G (q0d 4 G G (PT G G G (NL ?_))))));exact MN ⟨_,_,G,(H.pick (L':=[.blk bk3 (.cells #[vp1] 90), .blk bk4 (.cells #[Value.bool b1] 4), .blk lid2 (.loop (rc2 .busy none))]) Kp),gM,gT,hp1,e9⟩
   rw[if_neg hk11] at e9;obtain⟨b12,hx13,e9⟩:=bnd e9;refine RG (MV G G (DF hk11 (q0L G G) G (MV G G (SG (q01 G) G G G (SG (XL H Tryz.isAgg90) G G G ?_)))));refine q05 H (Y49 hx13) G (hp1) (q04 G G G) G ?_;intro v14 M w H hle hR;replace gM:=gM.mono hle;replace gT:=gT.mono hle;replace hp1:=hp1.mono hle;obtain rfl:=hR;refine SG (q0P G) G G G (PF G G G (NL ?_));exact MN ⟨_,_,G,(H.pick (L':=[.blk bk3 (.cells #[vp1] 90), .blk bk4 (.cells #[Value.bool b1] 4), .blk lid2 (.loop (rc2 .busy none))]) Kp),gM,gT,hp1,e9⟩
  rintro e w ⟨b10,M,rfl,H,gM,gT,hp1,q14⟩;obtain rfl:=oI q14;refine TN ?_;refine q0m G (fun hk15=>?_) (fun hk15=>?_)
  ·
   subst hk15;rw[if_pos rfl] at e7;refine SQ (RG (q0b [_] H G G G Ku Ts4 G Kf Kf (q00 G) ?_));intro w H;refine NL (TN (RT ?_));obtain rfl:=oI e7;exact WQ.rsRet hrc2 (H.pick (L':=[.blk lid2 (.loop (rc2 .busy none)), .blk bk3 (.cells #[vp1] 90), .blk bk4 (.cells #[Value.bool false] 4)]) Kp) G ⟨_,_,G,G,gM,gT,hp1⟩
  subst hk15;rw[if_neg l06] at e7;refine SK (IB ?_);obtain rfl:=oI e7;exact WQ.rsOn hrc2 (H.pick (L':=[.blk lid2 (.loop (rc2 .busy none)), .blk bk3 (.cells #[vp1] 90), .blk bk4 (.cells #[Value.bool b1] 4)]) Kp) G ⟨_,_,G,G,gM,gT,hp1⟩
 ·
  rintro Dm2 w M L H hle hE ⟨b1,tg3,rfl,rfl,gM,gT,hp1⟩;simp only[l05,l07,l0k] at H;try dsimp only at h
  obtain rfl:=exE_none hE;rw[if_pos rfl] at h;refine IB (TN (SQ (RG (q0b [_] H G G G Ku Ts4 G Kf Kf (q00 G) ?_))));intro w H;refine NL (TN (RT ?_));obtain rfl:=oI h;exact WQ.nret1 G H Kv (fun w H=>⟨_,G,H.load1 Km Ta4 Kf⟩) G
 rintro Dm2 w M L c H hle hE ⟨b1,tg3,rfl,rfl,gM,gT,hp1⟩;simp only[l05,l07,l0k] at H;try dsimp only at h
 by_cases kt2:tg3=1
 ·
  subst kt2;obtain rfl:=oI hE;rw[if_neg Dc,if_pos rfl] at h;refine RT ?_;obtain rfl:=oI h;exact WQ.nret1 G H Kv (fun w H=>⟨_,G,H.load1 Km Ta4 Kf⟩) G
 have kn2_1:=kt2;rw[if_neg (exE_ne hE),if_neg kn2_1] at h;cases h
theorem Y4a {p0:UInt8}{r:Bool}(h:Y1Q p0=some r):Ct Tryz.prog 70 [encB p0] (fun M=>True) (fun v M=>v=Value.bool r):=by
 refine Ct.of Tryz.func70 (enters Tryz.func70 Kr G) G G G ?_;intro w0 M0 H hp;unfold Y1Q at h;refine SQ (RG (AS G G (NL (TN (SQ ?_)))));obtain⟨o1,e2,h⟩:=bnd h;refine q0j (fun e w =>∃(b3:Bool) (M:Mem),e=[(2,Value.bool b3)]∧St w0 M0 M [] w∧some b3=some o1) [] ?_ ?_ (trivial)
 ·
  by_cases hk4:97≤p0.toNat
  ·
   rw[if_pos hk4] at e2;refine RG (MV G G (DT hk4 (q1k (i:=p0.toNat) (j:=97) G G) G ?_));by_cases hk5:p0.toNat≤122
   ·
    rw[if_pos hk5] at e2;refine MV G G (SG (q01 G) G G G (DU hk5 (q1D (i:=p0.toNat) (j:=122) G G) G G G (PT G G G (MV G G (q0d 6 G G (PT G G G (MV G G (q0d 6 G G (PT G G G (AS G G (NL ?_)))))))))));exact MN ⟨_,_,G,H,e2⟩
   rw[if_neg hk5] at e2;by_cases hk6:65≤p0.toNat
   ·
    rw[if_pos hk6] at e2;by_cases hk7:p0.toNat≤90
    ·
     rw[if_pos hk7] at e2;refine MV G G (SG (q01 G) G G G (DG hk5 (q1D (i:=p0.toNat) (j:=122) G G) G G G (PT G G G (MV G G (SG (q01 G) G G G (DU hk6 (q1k (i:=p0.toNat) (j:=65) G G) G G G (SG (q01 G) G G G (SG (q01 G) G G G (DU hk7 (q1D (i:=p0.toNat) (j:=90) G G) G G G (SG (q0p G G) G G G (PF G G G (MV G G (q0d 6 G G (PT G G G (AS G G (NL ?_))))))))))))))));exact MN ⟨_,_,G,H,e2⟩
    rw[if_neg hk7] at e2;by_cases hk8:48≤p0.toNat
    ·
     rw[if_pos hk8] at e2;refine MV G G (SG (q01 G) G G G (DG hk5 (q1D (i:=p0.toNat) (j:=122) G G) G G G (PT G G G (MV G G (SG (q01 G) G G G (DU hk6 (q1k (i:=p0.toNat) (j:=65) G G) G G G (SG (q01 G) G G G (SG (q01 G) G G G (DG hk7 (q1D (i:=p0.toNat) (j:=90) G G) G G G (SG (q0p G G) G G G (PF G G G (MV G G (SG (q01 G) G G G (DU hk8 (q1k (i:=p0.toNat) (j:=48) G G) G G G (SG (q01 G) G G G (SG (q01 G) G G G ?_))))))))))))))));refine SG (q1D (i:=p0.toNat) (j:=57) G G) G G G (SG (q0p G G) G G G (PF G G G (AS G G (NL ?_))));exact MN ⟨_,_,G,H,e2⟩
    rw[if_neg hk8] at e2;refine MV G G (SG (q01 G) G G G (DG hk5 (q1D (i:=p0.toNat) (j:=122) G G) G G G (PT G G G (MV G G (SG (q01 G) G G G (DU hk6 (q1k (i:=p0.toNat) (j:=65) G G) G G G (SG (q01 G) G G G (SG (q01 G) G G G (DG hk7 (q1D (i:=p0.toNat) (j:=90) G G) G G G (SG (q0p G G) G G G (PF G G G (MV G G (SG (q01 G) G G G (DG hk8 (q1k (i:=p0.toNat) (j:=48) G G) G G G (SG (q01 G) G G G (GF G G G ?_))))))))))))))));refine GF G G G (SG (q0o G G) G G G (PF G G G (AS G G (NL ?_))));exact MN ⟨_,_,G,H,e2⟩
   rw[if_neg hk6] at e2;by_cases hk9:48≤p0.toNat
   ·
    rw[if_pos hk9] at e2;refine MV G G (SG (q01 G) G G G (DG hk5 (q1D (i:=p0.toNat) (j:=122) G G) G G G (PT G G G (MV G G (SG (q01 G) G G G (DG hk6 (q1k (i:=p0.toNat) (j:=65) G G) G G G (SG (q01 G) G G G (GF G G G (GF G G G (SG (q0o G G) G G G (PF G G G (MV G G (SG (q01 G) G G G (DU hk9 (q1k (i:=p0.toNat) (j:=48) G G) G G G (SG (q01 G) G G G (SG (q01 G) G G G (SG (q1D (i:=p0.toNat) (j:=57) G G) G G G (SG (q0p G G) G G G (PF G G G (AS G G (NL ?_)))))))))))))))))))));exact MN ⟨_,_,G,H,e2⟩
   rw[if_neg hk9] at e2;refine MV G G (SG (q01 G) G G G (DG hk5 (q1D (i:=p0.toNat) (j:=122) G G) G G G (PT G G G (MV G G (SG (q01 G) G G G (DG hk6 (q1k (i:=p0.toNat) (j:=65) G G) G G G (SG (q01 G) G G G (GF G G G (GF G G G (SG (q0o G G) G G G (PF G G G (MV G G (SG (q01 G) G G G (DG hk9 (q1k (i:=p0.toNat) (j:=48) G G) G G G (SG (q01 G) G G G (GF G G G (GF G G G (SG (q0o G G) G G G (PF G G G (AS G G (NL ?_)))))))))))))))))))));exact MN ⟨_,_,G,H,e2⟩
  rw[if_neg hk4] at e2;refine RG (MV G G (DF hk4 (q1k (i:=p0.toNat) (j:=97) G G) G ?_));by_cases hk10:65≤p0.toNat
  ·
   rw[if_pos hk10] at e2;by_cases hk11:p0.toNat≤90
   ·
    rw[if_pos hk11] at e2;refine MV G G (GF G G G (GF G G G (PF G G G (MV G G (SG (q01 G) G G G (DU hk10 (q1k (i:=p0.toNat) (j:=65) G G) G G G (SG (q01 G) G G G (SG (q01 G) G G G (DU hk11 (q1D (i:=p0.toNat) (j:=90) G G) G G G (SG (q0p G G) G G G (PF G G G (MV G G (q0d 6 G G (PT G G G (AS G G (NL ?_))))))))))))))));exact MN ⟨_,_,G,H,e2⟩
   rw[if_neg hk11] at e2;by_cases hk12:48≤p0.toNat
   ·
    rw[if_pos hk12] at e2;refine MV G G (GF G G G (GF G G G (PF G G G (MV G G (SG (q01 G) G G G (DU hk10 (q1k (i:=p0.toNat) (j:=65) G G) G G G (SG (q01 G) G G G (SG (q01 G) G G G (DG hk11 (q1D (i:=p0.toNat) (j:=90) G G) G G G (SG (q0p G G) G G G (PF G G G (MV G G (SG (q01 G) G G G (DU hk12 (q1k (i:=p0.toNat) (j:=48) G G) G G G (SG (q01 G) G G G (SG (q01 G) G G G (SG (q1D (i:=p0.toNat) (j:=57) G G) G G G (SG (q0p G G) G G G (PF G G G (AS G G (NL ?_)))))))))))))))))))));exact MN ⟨_,_,G,H,e2⟩
   rw[if_neg hk12] at e2;refine MV G G (GF G G G (GF G G G (PF G G G (MV G G (SG (q01 G) G G G (DU hk10 (q1k (i:=p0.toNat) (j:=65) G G) G G G (SG (q01 G) G G G (SG (q01 G) G G G (DG hk11 (q1D (i:=p0.toNat) (j:=90) G G) G G G (SG (q0p G G) G G G (PF G G G (MV G G (SG (q01 G) G G G (DG hk12 (q1k (i:=p0.toNat) (j:=48) G G) G G G (SG (q01 G) G G G (GF G G G (GF G G G (SG (q0o G G) G G G (PF G G G (AS G G (NL ?_)))))))))))))))))))));exact MN ⟨_,_,G,H,e2⟩
  rw[if_neg hk10] at e2;by_cases hk13:48≤p0.toNat
  ·
   rw[if_pos hk13] at e2;refine MV G G (GF G G G (GF G G G (PF G G G (MV G G (SG (q01 G) G G G (DG hk10 (q1k (i:=p0.toNat) (j:=65) G G) G G G (SG (q01 G) G G G (GF G G G (GF G G G (SG (q0o G G) G G G (PF G G G (MV G G (SG (q01 G) G G G (DU hk13 (q1k (i:=p0.toNat) (j:=48) G G) G G G (SG (q01 G) G G G (SG (q01 G) G G G (SG (q1D (i:=p0.toNat) (j:=57) G G) G G G (SG (q0p G G) G G G (PF G G G (AS G G (NL ?_)))))))))))))))))))));exact MN ⟨_,_,G,H,e2⟩
  rw[if_neg hk13] at e2;refine MV G G (GF G G G (GF G G G (PF G G G (MV G G (SG (q01 G) G G G (DG hk10 (q1k (i:=p0.toNat) (j:=65) G G) G G G (SG (q01 G) G G G (GF G G G (GF G G G (SG (q0o G G) G G G (PF G G G (MV G G (SG (q01 G) G G G (DG hk13 (q1k (i:=p0.toNat) (j:=48) G G) G G G (SG (q01 G) G G G (GF G G G (GF G G G (SG (q0o G G) G G G (PF G G G (AS G G (NL ?_)))))))))))))))))))));exact MN ⟨_,_,G,H,e2⟩
 rintro e w ⟨b3,M,rfl,H,q14⟩;obtain rfl:=oI q14;refine TN (RT ?_);obtain rfl:=oI h;exact q08 G G H.ext G
theorem Y4o {p0:UInt8}{r:Bool}(h:Y29 p0=some r):Ct Tryz.prog 69 [encB p0] (fun M=>True) (fun v M=>v=Value.bool r):=by
 refine Ct.of Tryz.func69 (enters Tryz.func69 Kr G) G G G ?_;intro w0 M0 H hp;unfold Y29 at h;refine SQ (RG (AS G G (NL (TN (SQ ?_)))));obtain⟨o1,e2,h⟩:=bnd h;refine q0j (fun e w =>∃(b3:Bool) (M:Mem),e=[(2,Value.bool b3)]∧St w0 M0 M [] w∧some b3=some o1) [] ?_ ?_ (trivial)
 ·
  obtain⟨b4,hx5,e2⟩:=bnd e2;refine RG (MV G G (q05 H (Y4a hx5) G trivial (q00 G) G ?_));intro v4 M w H hle hR;obtain rfl:=hR;refine MV G G ?_;rcases b4 with _|_
  ·
   rw[if_neg l06] at e2;refine SG (q01 G) G G G (SG (q0H (c:=p0) (d:=45) G G) G G G (PF G G G (AS G G (NL ?_))));exact MN ⟨_,_,G,H,e2⟩
  rw[if_pos rfl] at e2;refine GT G G G (GT G G G (PT G G G (AS G G (NL ?_))));exact MN ⟨_,_,G,H,e2⟩
 rintro e w ⟨b3,M,rfl,H,q6⟩;obtain rfl:=oI q6;refine TN (RT ?_);obtain rfl:=oI h;exact q08 G G H.ext G
theorem Y3Q {p0:Ls}{r:Bool}(h:Y2g p0=some r):Ct Tryz.prog 32 [S p0] (fun M=>GlF (fun w =>∃m,w.cell? ⟨2,0,none⟩=some (.int .i64 m)) M∧Tabs M) (fun v M=>v=Value.bool r):=by
 refine Ct.of Tryz.func32 (enters Tryz.func32 Kr G) G G G ?_;intro w0 M0 H hp;obtain⟨gM,gT⟩:=hp;unfold Y2g at h;refine SQ (RG (AS G G (NL (TN (SQ ?_)))));obtain⟨o1,e2,h⟩:=bnd h;refine q0j (fun e w =>∃(b3:Bool) (M:Mem),e=[(2,Value.bool b3)]∧St w0 M0 M [] w∧GlF (fun w =>∃m,w.cell? ⟨2,0,none⟩=some (.int .i64 m)) M∧Tabs M∧some b3=some o1) [] ?_ ?_ (trivial)
 ·
  refine RG (MV G G (ST (q0i Tu9 G) G ?_));by_cases hk4:(p0.length:Int)≤(60:Int)
  ·
   rw[if_pos hk4] at e2;obtain⟨b5,hx6,e2⟩:=bnd e2;refine DT hk4 (q1y G G) G (MV G G (SG (q01 G) G G G (q05 H (Y40 hx6) G ⟨gM,gT,(⟨⟨G,G⟩,(fun _ _ h=>FnV.of (Y4o h) (fun _ _=>trivial))⟩:FnT90 _ _ _)⟩ (q04 G G G) G ?_)));intro v8 M w H hle hR;replace gM:=gM.mono hle;replace gT:=gT.mono hle;obtain rfl:=hR;refine PT G G G (AS G G (NL ?_));exact MN ⟨_,_,G,H,gM,gT,e2⟩
  rw[if_neg hk4] at e2;refine DF hk4 (q1y G G) G (MV G G (GF G G G (GF G G G (PF G G G (AS G G (NL ?_))))));exact MN ⟨_,_,G,H,gM,gT,e2⟩
 rintro e w ⟨b3,M,rfl,H,gM,gT,q7⟩;obtain rfl:=oI q7;refine TN (RT ?_);obtain rfl:=oI h;exact q08 G G H.ext G
theorem Y1B  {r:(Int × Int)} (h:Y0I=some r):Ct Tryz.prog 33 [] (fun M=>True) (fun v M=>v=Value.agg #[I r.1,I r.2]):=by
 refine Ct.of Tryz.func33 (enters Tryz.func33 Kr G) G G G ?_;intro w0 M0 H hp;unfold Y0I at h;refine SQ (RG (q0k [_,_] H Tz27 G (q00 G) G ?_));intro bk0 w H;refine NL (TN (SQ (RG (ST (q0B [I 0,I 0] Tu27 Tz27 (xplaces27 Tu27) G G) G (q0b [_,_] H G G G Ku Ts27 G Kf Kf (q00 G) ?_)))));intro w H;refine NL (TN (RT ?_));obtain rfl:=oI h;exact q08 G ⟨_,G,H.loadAgg Km Ta27 Ts27 Kf⟩ H.ext G
theorem Y1g {p0:(Ls × Ls × Ls)}{r:(Int × Int)}(h:Y1u p0=some r):Ct Tryz.prog 10 [Value.agg #[S p0.1,S p0.2.1,S p0.2.2]] (fun M=>GlF (fun w =>∃m,w.cell? ⟨2,0,none⟩=some (.int .i64 m)) M∧Tabs M) (fun v M=>v=Value.agg #[I r.1,I r.2]):=by
 refine Ct.of Tryz.func10 (enters Tryz.func10 Kr G) G G G ?_;intro w0 M0 H hp;obtain⟨gM,gT⟩:=hp;unfold Y1u at h;refine SQ (RG (q1C [_,_,_] H G G (q00 G) G ?_));intro bk1 w H;refine q0k [_,_] H Tz27 G (q00 G) G ?_;intro bk2 w H;refine NL (TN (SQ (SQ ?_)));obtain⟨n1,hx2,h⟩:=bnd h;refine RG (ST (q02 Tu24 G Ts9 Dc G) G (ST (XL H Ta9) G ?_));refine q05 H (Y3A hx2) G (gT) (q00 G) G ?_;intro v6 M w H hle hR;replace gM:=gM.mono hle;replace gT:=gT.mono hle;obtain rfl:=hR;refine AS G G (NL (TN (SQ (RG (MV G G (ST (q1n G G) G (NL (TN ?_))))))));refine q0m G (fun hk3=>?_) (fun hk3=>?_)
 ·
  replace hk3 :¬(n1=(0:Int)):=of_not_decide hk3;rw[if_neg hk3] at h;refine SQ ?_;obtain⟨⟨n4,n5⟩,hx6,h⟩:=bnd h;try dsimp only at h
  refine RG (MV G G (q05 H (Y0K hx6) G trivial (q00 G) G ?_));intro v10 M w H hle hR;replace gM:=gM.mono hle;replace gT:=gT.mono hle;try dsimp only at hR
  obtain rfl:=hR;refine q0b [_,_] H G G G Ku Ts27 G Kf Kf (q00 G) ?_;intro w H;refine NL (TN (RT ?_));obtain rfl:=oI h;exact q08 G ⟨_,G,H.loadAgg Km Ta27 Ts27 Kf⟩ H.ext G
 replace hk3:n1=(0:Int):=of_not_decide' hk3;rw[if_pos hk3] at h;refine SK (TN (SQ (SQ ?_)));obtain⟨b7,hx8,h⟩:=bnd h;refine RG (ST (q02 Tu24 G Ts9 Dc G) G (ST (XL H Ta9) G ?_));refine q05 H (Y2z hx8) G trivial (q00 G) G ?_;intro v13 M w H hle hR;replace gM:=gM.mono hle;replace gT:=gT.mono hle;obtain rfl:=hR;refine ST (q0P G) G (NL (TN ?_));refine q0m G (fun hk9=>?_) (fun hk9=>?_)
 ·
  replace hk9:b7=false:=by simpa using hk9
  subst hk9;rw[if_neg l06] at h;refine SQ ?_;obtain⟨⟨n10,n11⟩,hx12,h⟩:=bnd h;try dsimp only at h
  refine RG (q05 H (Y0K hx12) G trivial (q00 G) G ?_);intro v15 M w H hle hR;replace gM:=gM.mono hle;replace gT:=gT.mono hle;try dsimp only at hR
  obtain rfl:=hR;refine q0b [_,_] H G G G Ku Ts27 G Kf Kf (q00 G) ?_;intro w H;refine NL (TN (RT ?_));obtain rfl:=oI h;exact q08 G ⟨_,G,H.loadAgg Km Ta27 Ts27 Kf⟩ H.ext G
 replace hk9:b7=true:=by simpa using hk9
 subst hk9;rw[if_pos rfl] at h;refine SK (TN (SQ (SQ ?_)));obtain⟨b13,hx14,h⟩:=bnd h;refine RG (ST (q02 Tu24 G Ts9 Dc G) G (ST (XL H Ta9) G ?_));refine q05 H (Y3Q hx14) G ⟨gM,gT⟩ (q00 G) G ?_;intro v18 M w H hle hR;replace gM:=gM.mono hle;replace gT:=gT.mono hle;obtain rfl:=hR;refine ST (q0P G) G (NL (TN ?_));refine q0m G (fun hk15=>?_) (fun hk15=>?_)
 ·
  replace hk15:b13=false:=by simpa using hk15
  subst hk15;rw[if_neg l06] at h;refine SQ ?_;obtain⟨⟨n16,n17⟩,hx18,h⟩:=bnd h;try dsimp only at h
  refine RG (q05 H (Y0K hx18) G trivial (q00 G) G ?_);intro v20 M w H hle hR;replace gM:=gM.mono hle;replace gT:=gT.mono hle;try dsimp only at hR
  obtain rfl:=hR;refine q0b [_,_] H G G G Ku Ts27 G Kf Kf (q00 G) ?_;intro w H;refine NL (TN (RT ?_));obtain rfl:=oI h;exact q08 G ⟨_,G,H.loadAgg Km Ta27 Ts27 Kf⟩ H.ext G
 replace hk15:b13=true:=by simpa using hk15
 subst hk15;rw[if_pos rfl] at h;refine SK (TN (SQ ?_));obtain⟨⟨n19,n20⟩,hx21,h⟩:=bnd h;try dsimp only at h
 refine RG (q05 H (Y1B hx21) G trivial (q00 G) G ?_);intro v21 M w H hle hR;replace gM:=gM.mono hle;replace gT:=gT.mono hle;try dsimp only at hR
 obtain rfl:=hR;refine q0b [_,_] H G G G Ku Ts27 G Kf Kf (q00 G) ?_;intro w H;refine NL (TN (RT ?_));obtain rfl:=oI h;exact q08 G ⟨_,G,H.loadAgg Km Ta27 Ts27 Kf⟩ H.ext G
theorem Y22 {p0:(Int × Int)}{r:Bool}(h:Y1k p0=some r):Ct Tryz.prog 38 [Value.agg #[I p0.1,I p0.2]] (fun M=>True) (fun v M=>v=Value.bool r):=by
 refine Ct.of Tryz.func38 (enters Tryz.func38 Kr G) G G G ?_;intro w0 M0 H hp;unfold Y1k at h;refine SQ (RG (q1C [_,_] H G G (q00 G) G ?_));intro bk1 w H;refine AS G G (NL (TN (SQ (RG (ST (q02 Tu27 G Ts3 Dc G) G (ST (XL H Ta3) G ?_))))));refine ST (q1n G G) G (AS G G (NL (TN (RT ?_))));obtain rfl:=oI h;exact q08 G G H.ext G
theorem Y4Q {p0:(Ls × Bool × List (Ls × Ls × Ls))}{vp0_2:Value}{r:Int}(h:Y3c p0=some r):Ct Tryz.prog 37 [Value.agg #[S p0.1,Value.bool p0.2.1,vp0_2]] (fun M=>GlF (fun w =>∃m,w.cell? ⟨2,0,none⟩=some (.int .i64 m)) M∧Tabs M∧SlS M 3 xenc24 vp0_2 p0.2.2) (fun v M=>v=I r):=by
 refine Ct.of Tryz.func37 (enters Tryz.func37 Kr G) G G G ?_;intro w0 M0 H hp;obtain⟨gM,gT,hp0_2⟩:=hp;unfold Y3c at h;refine SQ (RG (q1C [_,_,_] H G G (q00 G) G ?_));intro bk1 w H;refine AS G G (NL (TN (SQ (SQ ?_))));obtain⟨n1,hx2,h⟩:=bnd h;refine RG (ST (q02 Tu34 G Ts9 Dc G) G (ST (XL H Ta9) G ?_));refine q05 H (Y3A hx2) G (gT) (q00 G) G ?_;intro v9 M w H hle hR;replace gM:=gM.mono hle;replace gT:=gT.mono hle;replace hp0_2:=hp0_2.mono hle;obtain rfl:=hR;refine AS G G (NL (TN (SQ (RG (MV G G (ST (q1n G G) G (NL (TN ?_))))))));refine q0m G (fun hk3=>?_) (fun hk3=>?_)
 ·
  replace hk3 :¬(n1=(0:Int)):=of_not_decide hk3;rw[if_neg hk3] at h;refine SQ (RG (MV G G (AS G G (NL (TN (RT ?_))))));obtain rfl:=oI h;exact q08 G G H.ext G
 replace hk3:n1=(0:Int):=of_not_decide' hk3;rw[if_pos hk3] at h;refine SK (TN (SQ (SQ ?_)));obtain⟨o4,e5,h⟩:=bnd h;refine q0j (fun e w =>∃(b6:Bool) (M:Mem),e=[(1,ptr bk1 0),(29,Value.bool b6)]∧St w0 M0 M [.blk bk1 (.cells #[S p0.1,Value.bool p0.2.1,vp0_2] 34)] w∧GlF (fun w =>∃m,w.cell? ⟨2,0,none⟩=some (.int .i64 m)) M∧Tabs M∧SlS M 3 xenc24 vp0_2 p0.2.2∧some b6=some o4) [] ?_ ?_ (trivial)
 ·
  by_cases hk7:p0.2.1=(!decide (p0.1=[]))
  ·
   rw[if_pos hk7] at e5;by_cases hk8:p0.2.1=true
   ·
    rw[if_pos hk8] at e5;refine RG (ST (q02 Tu34 G Ts4 Dc G) G (ST (XL H Ta4) G ?_));refine ST (q02 Tu34 G Ts9 Dc G) G (ST (XL H Ta9) G ?_);refine ST (q1A G G) G (q09 (v' := .bool false) (Ex.neqBo Tu4 G G) (congrArg Value.bool (by rw[decide_eq_true hk7];rfl)) (q00 G) G G ?_);refine MV G G (SG (q02 Tu34 G Ts4 Dc G) G G G (SG (XL H Ta4) G G G ?_));refine q09 (v' := .bool false) (q0P G) (congrArg Value.bool (by rw[hk8];rfl)) (q04 G G G) G G ?_;refine SG (q01 G) G G G (q0d 4 G G (SG (q0o G G) G G G (PF G G G (NL ?_))));exact MN ⟨_,_,G,H,gM,gT,hp0_2,e5⟩
   rw[if_neg hk8] at e5;refine RG (ST (q02 Tu34 G Ts4 Dc G) G (ST (XL H Ta4) G ?_));refine ST (q02 Tu34 G Ts9 Dc G) G (ST (XL H Ta9) G ?_);refine ST (q1A G G) G (q09 (v' := .bool false) (Ex.neqBo Tu4 G G) (congrArg Value.bool (by rw[decide_eq_true hk7];rfl)) (q00 G) G G ?_);refine MV G G (SG (q02 Tu34 G Ts4 Dc G) G G G (SG (XL H Ta4) G G G ?_));refine q09 (v' := .bool true) (q0P G) (congrArg Value.bool (by rw[(l1h hk8)];rfl)) (q04 G G G) G G ?_;refine SG (q01 G) G G G (SG (q02 Tu34 G Ts30 Dc G) G G G (SG (XL H Ta30) G G G ?_));refine SG (q0U Tu30 hp0_2 G) G G G (SG (q1n G G) G G G (SG (q0p G G) G G G (PF G G G (NL ?_))));exact MN ⟨_,_,G,H,gM,gT,hp0_2,e5⟩
  rw[if_neg hk7] at e5;refine RG (ST (q02 Tu34 G Ts4 Dc G) G (ST (XL H Ta4) G ?_));refine ST (q02 Tu34 G Ts9 Dc G) G (ST (XL H Ta9) G ?_);refine ST (q1A G G) G (q09 (v' := .bool true) (Ex.neqBo Tu4 G G) (congrArg Value.bool (by rw[decide_eq_false hk7];rfl)) (q00 G) G G ?_);refine MV G G (q0d 9 G G (PT G G G (NL ?_)));exact MN ⟨_,_,G,H,gM,gT,hp0_2,e5⟩
 rintro e w ⟨b6,M,rfl,H,gM,gT,hp0_2,q9⟩;obtain rfl:=oI q9;refine TN ?_;refine q0m G (fun hk10=>?_) (fun hk10=>?_)
 ·
  subst hk10;rw[if_pos rfl] at h;refine SQ (RG (AS G G (NL (TN (RT ?_)))));obtain rfl:=oI h;exact q08 G G H.ext G
 subst hk10;rw[if_neg l06] at h;refine SK (TN (SQ (SQ (RG (ST (q02 Tu34 G Ts30 Dc G) G (ST (XL H Ta30) G ?_))))));refine ST (q0U Tu30 hp0_2 G) G (MV G G (NL (TN ?_)));obtain⟨o11,e12,h⟩:=bnd h;refine q0j (fun e w =>∃  (M:Mem),e=[]∧St w0 M0 M [] w∧GlF (fun w =>∃m,w.cell? ⟨2,0,none⟩=some (.int .i64 m)) M∧Tabs M∧some (.inl ())=some o11) [] ?_ ?_ (trivial)
 ·
  refine BL ?_;refine q0F (fun m e w =>∃(n13:Int) (M:Mem),e=[(31,vp0_2),(32,I (p0.2.2.length:Int)),(33,I n13)]∧St w0 M0 M [] w∧GlF (fun w =>∃m,w.cell? ⟨2,0,none⟩=some (.int .i64 m)) M∧Tabs M∧SlS M 3 xenc24 vp0_2 p0.2.2∧Y12 p0 m n13=some o11) FU [(31,_),(32,_),(33,_)] ⟨rfl,rfl,rfl,trivial⟩ ⟨_,_,rfl,(H.pick (L':=[]) Kp),gM,gT,hp0_2,e12⟩ ?_;rintro m14 e w ⟨n13,M,rfl,H,gM,gT,hp0_2,e12⟩;rcases m14 with _|m14
  · rw[Y12] at e12;cases e12
  rw[Y12] at e12;refine SQ (RG (ST (q0q G G) G (NL (TN (SQ ?_)))));refine CB (p:=n13<(p0.2.2.length:Int)) G (fun hk15=>?_) fun hk15=>?_
  ·
   rw[if_pos hk15] at e12;refine SK (TN (SQ (BL (SQ ?_))));obtain⟨a16,hxa16,e12⟩:=bnd e12;obtain⟨bk35,o35,ha35,hc35⟩:=hp0_2.atC hxa16;refine RG (ST (q0t ha35 Tu30 Ts24 G G) G (ST (q1j H G hc35 Ta24 Ts24 Kf) G ?_));refine q0k [_,_,_] H Tz24 G (q00 G) G ?_;intro bk5 w H;refine q0b [_,_,_] H G G G Ku Ts24 G Kf Kf (q00 G) ?_;intro w H;refine NL (TN (SQ ?_));obtain⟨⟨n17,n18⟩,hx19,e12⟩:=bnd e12;try dsimp only at e12
   refine RG (ST (q0n H G Km Ta24 Ts24 Kf) G ?_);refine q05 H (Y1g hx19) G ⟨gM,gT⟩ (q00 G) G ?_;intro v38 M w H hle hR;replace gM:=gM.mono hle;replace gT:=gT.mono hle;replace hp0_2:=hp0_2.mono hle;replace hc35:=hc35.mono hle;try dsimp only at hR
   obtain rfl:=hR;refine q0k [_,_] H Tz27 G (q00 G) G ?_;intro bk6 w H;refine q0b [_,_] H G G G Ku Ts27 G Kf Kf (q00 G) ?_;intro w H;refine NL (TN (SQ ?_));obtain⟨b20,hx21,e12⟩:=bnd e12;refine RG (ST (q0n H G Km Ta27 Ts27 Kf) G ?_);refine q05 H (Y22 hx21) G trivial (q00 G) G ?_;intro v40 M w H hle hR;replace gM:=gM.mono hle;replace gT:=gT.mono hle;replace hp0_2:=hp0_2.mono hle;replace hc35:=hc35.mono hle;obtain rfl:=hR;refine NL (TN ?_);refine q0m G (fun hk22=>?_) (fun hk22=>?_)
   ·
    subst hk22;rw[if_pos rfl] at e12;refine SQ (RG (ST (q02 Tu27 G Ts3 Dc G) G (ST (XL H Ta3) G ?_)));refine AS G G (NL (TN (RT ?_)));obtain rfl:=oI e12;try dsimp only at h
    obtain rfl:=oI h;exact q08 G G H.ext G
   subst hk22;rw[if_neg l06] at e12;refine SK (IB (TN ?_));obtain⟨n23,hxn23,e12⟩:=bnd e12;refine RG (ST (q0l G G hxn23) G (MV G G (NL ?_)));exact AG m14 ⟨_,_,G,(H.pick (L':=[]) Kp),gM,gT,hp0_2,e12⟩ (l0b _)
  rw[if_neg hk15] at e12;refine q0r (q06 (q06 (q0f ?_)));exact MN ⟨_,G,H,gM,gT,e12⟩
 rintro e w ⟨M,rfl,H,gM,gT,q24⟩;obtain rfl:=oI q24;try dsimp only at h
 refine TN (SQ (RG (AS G G (NL (TN (RT ?_))))));obtain rfl:=oI h;exact q08 G G H.ext G
end Go.Proofs.YtkmjdamkifbddaaGreatDoor
end
