/-
  Dct4, Dct5, AaD, AbD, AcD, AdD, RqD, AeD, B64Law, Wa, Wb, Wc, Wd, We, Wf: own texts of this repository (wip/tpl, wip/plans), merged and shaken by wip/tools/pack.py.
-/
import Derived.KernelRfl
import Derived.Lib.CountLaws
import Derived.Test.YtkmjdamkifbddaaGreatDoorE3e
set_option maxRecDepth 100000
set_option linter.unusedVariables false
set_option linter.unusedSimpArgs false
section
namespace Go.Proofs.YtkmjdamkifbddaaGreatDoor
open Go Go.RowKit Go.Ph Go.Ph.Pl Go.Ph.Pf
theorem Y0p {p0 : (List UInt8 × Int)} {bp0 : Nat} {r : (((List UInt8 × Bool × List (List UInt8 × List UInt8 × List UInt8)) × (List UInt8 × Int)) ⊕ Int)} (h : Y0j p0 = some r) : CtS Tryz.prog 47 [ptr bp0 0] [.blk bp0 (.cells #[S p0.1, I p0.2] 72)] (fun M => GlF (fun w => ∃ m, w.cell? ⟨2, 0, none⟩ = some (.int .i64 m)) M ∧ Tabs M) (fun x => fun v M its => ∃ x0_2, v = Value.agg #[S x.1.1, Value.bool x.1.2.1, x0_2] ∧ SlS M 3 xenc24 x0_2 x.1.2.2 ∧ its = [.blk bp0 (.cells #[S x.2.1, I x.2.2] 72)]) (fun n => Value.iface 69 (Value.agg #[I n])) r := by
 refine CtS.of Tryz.func47 (enters Tryz.func47 (by kernel_rfl) rfl) rfl rfl rfl ?_
 intro w0 M0 H hp
 obtain ⟨hg_maxl, hg_tabs⟩ := hp
 unfold Y0j at h
 refine SQ (RG (WR.alloc [_, _, _] H Tryz.zeroValue34 rfl (Wn.none rfl) rfl ?_))
 intro bk2 w H
 refine NL (TN (SQ ?_))
 obtain ⟨o4, hx3, h⟩ := bnd h
 rcases o4 with ⟨l1, o2⟩ | n5
 ·
  try dsimp only at h
  refine RG (MV rfl rfl ?_)
  refine WR.callX (A := [.blk bp0 (.cells #[S p0.1, I p0.2] 72)]) (B := [.blk bk2 (.cells #[S [], Value.bool false, Value.slice none 0 0] 34)]) (H.pick (L' := [.blk bp0 (.cells #[S p0.1, I p0.2] 72), .blk bk2 (.cells #[S [], Value.bool false, Value.slice none 0 0] 34)]) (by repeat first | exact kPn | refine kPc (by repeat first | exact .head | apply Rem.tail) ?_)) (Y09 hx3) (.left (Spl.all _)) rfl trivial (Wn.none rfl) rfl ?_
  intro v6 M w its H hle hR
  replace hg_maxl := hg_maxl.mono hle
  replace hg_tabs := hg_tabs.mono hle
  try dsimp only at hR
  obtain ⟨x6_0, rfl, f6_0, rfl⟩ := hR
  simp only [List.cons_append, List.nil_append] at H
  refine AS rfl rfl (NL (TN (SQ (SQ ?_))))
  obtain ⟨o9, hx8, h⟩ := bnd h
  rcases o9 with ⟨b6, o7⟩ | n10
  ·
   try dsimp only at h
   refine RG (MV rfl rfl ?_)
   refine WR.callX (A := [.blk bp0 (.cells #[S o2.1, I o2.2] 72)]) (B := [.blk bk2 (.cells #[S [], Value.bool false, Value.slice none 0 0] 34)]) (H.pick (L' := [.blk bp0 (.cells #[S o2.1, I o2.2] 72), .blk bk2 (.cells #[S [], Value.bool false, Value.slice none 0 0] 34)]) (by repeat first | exact kPn | refine kPc (by repeat first | exact .head | apply Rem.tail) ?_)) (Y0a hx8) (.left (Spl.all _)) rfl trivial (Wn.none rfl) rfl ?_
   intro v8 M w its H hle hR
   replace hg_maxl := hg_maxl.mono hle
   replace hg_tabs := hg_tabs.mono hle
   replace f6_0 := f6_0.mono hle
   try dsimp only at hR
   obtain ⟨rfl, rfl⟩ := hR
   simp only [List.cons_append, List.nil_append] at H
   refine ST (Ex.not rfl) rfl (NL (TN ?_))
   refine WC.condB rfl (fun hk11 => ?_) (fun hk11 => ?_)
   ·
    replace hk11 : b6 = false := by simpa using hk11
    subst hk11
    rw [if_neg Bool.false_ne_true] at h
    refine SQ ?_
    obtain ⟨o17, hx16, h⟩ := bnd h
    rcases o17 with ⟨⟨s12, s13, s14⟩, o15⟩ | n18
    ·
     try dsimp only at h
     refine RG (MV rfl rfl (MV rfl rfl ?_))
     refine WR.callX (A := [.blk bp0 (.cells #[S o7.1, I o7.2] 72)]) (B := [.blk bk2 (.cells #[S [], Value.bool false, Value.slice none 0 0] 34)]) (H.pick (L' := [.blk bp0 (.cells #[S o7.1, I o7.2] 72), .blk bk2 (.cells #[S [], Value.bool false, Value.slice none 0 0] 34)]) (by repeat first | exact kPn | refine kPc (by repeat first | exact .head | apply Rem.tail) ?_)) (Y0h hx16) (.left (Spl.all _)) rfl ⟨hg_maxl, hg_tabs, f6_0⟩ (Wn.none rfl) rfl ?_
     intro v12 M w its H hle hR
     replace hg_maxl := hg_maxl.mono hle
     replace hg_tabs := hg_tabs.mono hle
     replace f6_0 := f6_0.mono hle
     try dsimp only at hR
     obtain ⟨rfl, rfl⟩ := hR
     simp only [List.cons_append, List.nil_append] at H
     refine WR.litS (enc := xenc24) xty30 ([(s12, s13, s14)] : List (List UInt8 × List UInt8 × List UInt8)) H (fun _ => rfl) rfl (by kernel_rfl) rfl rfl rfl (Wn.none rfl) rfl ?_
     intro v13 M w H hle hs13
     replace hg_maxl := hg_maxl.mono hle
     replace hg_tabs := hg_tabs.mono hle
     replace f6_0 := f6_0.mono hle
     refine ST (Ex.build [S [], Value.bool false, v13] Tryz.underlying34 Tryz.zeroValue34 (xplaces34 Tryz.underlying34) rfl (by obtain ⟨_, _, _, hv, -⟩ := hs13; rw [hv]; clear hv; rfl)) rfl ?_
     refine WR.store [_, _, _] H rfl rfl rfl (by repeat first | exact .head | apply Upd.tail) Tryz.sizeOf34 rfl (by rfl) (by simp only [List.all_cons, List.all_nil, (hs13).one.2]; rfl) (Wn.none rfl) ?_
     intro w H
     refine NL (TN (RT ?_))
     obtain rfl := oI h
     exact WQ.retX1 (its := [.blk bp0 (.cells #[S o15.1, I o15.2] 72)]) rfl ⟨_, rfl, H.loadAgg (by repeat first | exact kMh | apply kMt) Tryz.isAgg34 Tryz.sizeOf34 (by rfl)⟩ H (by repeat first | exact kPn | refine kPc (by repeat first | exact .head | apply Rem.tail) ?_) ⟨_, rfl, hs13, rfl⟩
    ·
     try dsimp only at h
     obtain rfl := oI h
     refine RG (MV rfl rfl (MV rfl rfl ?_))
     refine WR.callPan (A := [.blk bp0 (.cells #[S o7.1, I o7.2] 72)]) (B := [.blk bk2 (.cells #[S [], Value.bool false, Value.slice none 0 0] 34)]) (H.pick (L' := [.blk bp0 (.cells #[S o7.1, I o7.2] 72), .blk bk2 (.cells #[S [], Value.bool false, Value.slice none 0 0] 34)]) (by repeat first | exact kPn | refine kPc (by repeat first | exact .head | apply Rem.tail) ?_)) (Y0h hx16) (.left (Spl.all _)) rfl ⟨hg_maxl, hg_tabs, f6_0⟩ (Wn.none rfl) ?_
     intro M w H hle
     (repeat (first | refine WQ.pThen ?_ | refine WQ.pIn ?_ | refine WQ.pCut ?_ | refine WQ.pSc ?_))
     exact WQ.pBody H
   ·
    replace hk11 : b6 = true := by simpa using hk11
    subst hk11
    rw [if_pos rfl] at h
    refine SK (TN (SQ ?_))
    obtain ⟨s19, hx20, h⟩ := bnd h
    refine RG (MV rfl rfl (WR.call H (Y3E hx20) rfl ⟨hg_maxl, f6_0⟩ (Wn.none rfl) rfl ?_))
    intro v16 M w H hle hR
    replace hg_maxl := hg_maxl.mono hle
    replace hg_tabs := hg_tabs.mono hle
    replace f6_0 := f6_0.mono hle
    obtain rfl := hR
    refine ST (Ex.build [S s19, Value.bool true, Value.slice none 0 0] Tryz.underlying34 Tryz.zeroValue34 (xplaces34 Tryz.underlying34) rfl rfl) rfl (WR.alloc [_, _, _] H Tryz.zeroValue34 rfl (Wn.none rfl) rfl ?_)
    intro bk4 w H
    refine WR.store [_, _, _] H rfl rfl rfl (by repeat first | exact .head | apply Upd.tail) Tryz.sizeOf34 rfl (by rfl) (by rfl) (Wn.none rfl) ?_
    intro w H
    refine NL (TN (SQ (SQ (RG (ST (Ex.fieldAddr Tryz.underlying34 rfl Tryz.sizeOf9 (by decide) rfl) rfl (ST (Ex.load1 H rfl (by repeat first | exact kMh | apply kMt) Tryz.isAgg9 (by rfl)) rfl ?_))))))
    refine ST (Ex.strEql rfl rfl) rfl (NL (TN ?_))
    obtain ⟨o21, e22, h⟩ := bnd h
    refine WC.cutX (fun e w => ∃ (s23 : List UInt8) (n24 : Int) (M : Mem), e = [(0, ptr bp0 0), (2, ptr bk2 0), (4, ptr bk4 0)] ∧ StX (feet [.blk bp0 (.cells #[S p0.1, I p0.2] 72)]) w0 M0 M [.blk bp0 (.cells #[S s23, I n24] 72), .blk bk2 (.cells #[S [], Value.bool false, Value.slice none 0 0] 34), .blk bk4 (.cells #[S s19, Value.bool true, Value.slice none 0 0] 34)] w ∧ GlF (fun w => ∃ m, w.cell? ⟨2, 0, none⟩ = some (.int .i64 m)) M ∧ Tabs M ∧ some (.inl (s23, n24)) = some o21) [] ?_ ?_ (trivial)
    ·
     refine WC.condB rfl (fun hk25 => ?_) (fun hk25 => ?_)
     ·
      replace hk25 : s19 = [] := of_decide_eq_true hk25
      rw [if_pos hk25] at e22
      obtain ⟨o28, hx27, e22⟩ := bnd e22
      rcases o28 with o26 | n29
      ·
       try dsimp only at e22
       refine RG (MV rfl rfl ?_)
       refine WR.callX (A := [.blk bp0 (.cells #[S o7.1, I o7.2] 72)]) (B := [.blk bk4 (.cells #[S s19, Value.bool true, Value.slice none 0 0] 34), .blk bk2 (.cells #[S [], Value.bool false, Value.slice none 0 0] 34)]) (H.pick (L' := [.blk bp0 (.cells #[S o7.1, I o7.2] 72), .blk bk4 (.cells #[S s19, Value.bool true, Value.slice none 0 0] 34), .blk bk2 (.cells #[S [], Value.bool false, Value.slice none 0 0] 34)]) (by repeat first | exact kPn | refine kPc (by repeat first | exact .head | apply Rem.tail) ?_)) (Y03 hx27) (.left (Spl.all _)) rfl trivial (Wn.none rfl) rfl ?_
       intro v22 M w its H hle hR
       replace hg_maxl := hg_maxl.mono hle
       replace hg_tabs := hg_tabs.mono hle
       replace f6_0 := f6_0.mono hle
       try dsimp only at hR
       obtain ⟨rfl, rfl⟩ := hR
       simp only [List.cons_append, List.nil_append] at H
       refine NL ?_
       exact WQ.meetN [(0, _), (2, _), (4, _)] ⟨rfl, rfl, rfl, trivial⟩ ⟨_, _, _, rfl, (H.pick (L' := [.blk bp0 (.cells #[S o26.1, I o26.2] 72), .blk bk2 (.cells #[S [], Value.bool false, Value.slice none 0 0] 34), .blk bk4 (.cells #[S s19, Value.bool true, Value.slice none 0 0] 34)]) (by repeat first | exact kPn | refine kPc (by repeat first | exact .head | apply Rem.tail) ?_)), hg_maxl, hg_tabs, e22⟩
      ·
       try dsimp only at e22
       obtain rfl := oI e22
       try dsimp only at h
       obtain rfl := oI h
       refine RG (MV rfl rfl ?_)
       refine WR.callPan (A := [.blk bp0 (.cells #[S o7.1, I o7.2] 72)]) (B := [.blk bk4 (.cells #[S s19, Value.bool true, Value.slice none 0 0] 34), .blk bk2 (.cells #[S [], Value.bool false, Value.slice none 0 0] 34)]) (H.pick (L' := [.blk bp0 (.cells #[S o7.1, I o7.2] 72), .blk bk4 (.cells #[S s19, Value.bool true, Value.slice none 0 0] 34), .blk bk2 (.cells #[S [], Value.bool false, Value.slice none 0 0] 34)]) (by repeat first | exact kPn | refine kPc (by repeat first | exact .head | apply Rem.tail) ?_)) (Y03 hx27) (.left (Spl.all _)) rfl trivial (Wn.none rfl) ?_
       intro M w H hle
       (repeat (first | refine WQ.pThen ?_ | refine WQ.pIn ?_ | refine WQ.pCut ?_ | refine WQ.pSc ?_))
       exact WQ.pBody H
     ·
      replace hk25 : ¬ (s19 = []) := of_decide_eq_false hk25
      rw [if_neg hk25] at e22
      refine SK ?_
      exact WQ.meetN [(0, _), (2, _), (4, _)] ⟨rfl, rfl, rfl, trivial⟩ ⟨_, _, _, rfl, (H.pick (L' := [.blk bp0 (.cells #[S o7.1, I o7.2] 72), .blk bk2 (.cells #[S [], Value.bool false, Value.slice none 0 0] 34), .blk bk4 (.cells #[S s19, Value.bool true, Value.slice none 0 0] 34)]) (by repeat first | exact kPn | refine kPc (by repeat first | exact .head | apply Rem.tail) ?_)), hg_maxl, hg_tabs, e22⟩
    ·
     rintro e w ⟨s23, n24, M, rfl, H, hg_maxl, hg_tabs, q30⟩
     obtain rfl := oI q30
     try dsimp only at h
     refine TN (SQ (SQ ?_))
     obtain ⟨o34, hx33, h⟩ := bnd h
     rcases o34 with ⟨b31, o32⟩ | n35
     ·
      try dsimp only at h
      refine RG (MV rfl rfl ?_)
      refine WR.callX (A := [.blk bp0 (.cells #[S s23, I n24] 72)]) (B := [.blk bk2 (.cells #[S [], Value.bool false, Value.slice none 0 0] 34), .blk bk4 (.cells #[S s19, Value.bool true, Value.slice none 0 0] 34)]) (H.pick (L' := [.blk bp0 (.cells #[S s23, I n24] 72), .blk bk2 (.cells #[S [], Value.bool false, Value.slice none 0 0] 34), .blk bk4 (.cells #[S s19, Value.bool true, Value.slice none 0 0] 34)]) (by repeat first | exact kPn | refine kPc (by repeat first | exact .head | apply Rem.tail) ?_)) (Y0a hx33) (.left (Spl.all _)) rfl trivial (Wn.none rfl) rfl ?_
      intro v24 M w its H hle hR
      replace hg_maxl := hg_maxl.mono hle
      replace hg_tabs := hg_tabs.mono hle
      try dsimp only at hR
      obtain ⟨rfl, rfl⟩ := hR
      simp only [List.cons_append, List.nil_append] at H
      refine NL (TN ?_)
      refine WC.condB rfl (fun hk36 => ?_) (fun hk36 => ?_)
      ·
       subst hk36
       rw [if_pos rfl] at h
       refine SQ (RG (ST (Ex.loadAgg H rfl (by repeat first | exact kMh | apply kMt) Tryz.isAgg34 Tryz.sizeOf34 (by rfl)) rfl ?_))
       refine WR.store [_, _, _] H rfl rfl rfl (by repeat first | exact .head | apply Upd.tail) Tryz.sizeOf34 rfl (by rfl) (by rfl) (Wn.none rfl) ?_
       intro w H
       refine NL (TN (RT ?_))
       obtain rfl := oI h
       exact WQ.retX1 (its := [.blk bp0 (.cells #[S o32.1, I o32.2] 72)]) rfl ⟨_, rfl, H.loadAgg (by repeat first | exact kMh | apply kMt) Tryz.isAgg34 Tryz.sizeOf34 (by rfl)⟩ H (by repeat first | exact kPn | refine kPc (by repeat first | exact .head | apply Rem.tail) ?_) ⟨_, rfl, (SlS.nil _ _ (fun _ => rfl)), rfl⟩
      ·
       subst hk36
       rw [if_neg Bool.false_ne_true] at h
       refine SK (TN ?_)
       obtain ⟨o37, e38, h⟩ := bnd h
       refine BL ?_
       replace H := H.newRowS 24 3 xenc24
       refine WC.loopP (fun m e w => ∃ (s39 : List UInt8) (n40 : Int) (s41 : List UInt8) (b42 : Bool) (l43 : List (List UInt8 × List UInt8 × List UInt8)) (v44 : Value) (s46 : List UInt8) (b47 : Bool) (l49 : List (List UInt8 × List UInt8 × List UInt8)) (v50 : Value) (M : Mem), e = [(0, ptr bp0 0), (2, ptr bk2 0), (4, ptr bk4 0)] ∧ StX (feet [.blk bp0 (.cells #[S p0.1, I p0.2] 72)]) w0 M0 M [.blk bp0 (.cells #[S s39, I n40] 72), .blk bk2 (.cells #[S s41, Value.bool b42, v44] 34), .blk bk4 (.cells #[S s46, Value.bool b47, v50] 34), RowS 24 3 xenc24 v50 l49] w ∧ GlF (fun w => ∃ m, w.cell? ⟨2, 0, none⟩ = some (.int .i64 m)) M ∧ Tabs M ∧ SlS M 3 xenc24 v44 l43 ∧ Y0x  m s39 n40 s41 b42 l43 s46 b47 l49 = some o37) FU [(0, _), (2, _), (4, _)] ⟨rfl, rfl, rfl, trivial⟩ ⟨_, _, _, _, _, _, _, _, _, _, _, rfl, (H.pick (L' := [.blk bp0 (.cells #[S o32.1, I o32.2] 72), .blk bk2 (.cells #[S [], Value.bool false, Value.slice none 0 0] 34), .blk bk4 (.cells #[S s19, Value.bool true, (Value.slice none 0 0)] 34), RowS 24 3 xenc24 (Value.slice none 0 0) []]) (by repeat first | exact kPn | refine kPc (by repeat first | exact .head | apply Rem.tail) ?_)), hg_maxl, hg_tabs, (SlS.nil _ _ (fun _ => rfl)), e38⟩ ?_
       rintro m51 e w ⟨s39, n40, s41, b42, l43, v44, s46, b47, l49, v50, M, rfl, H, hg_maxl, hg_tabs, hs45, e38⟩
       rcases m51 with _ | m51
       · rw [Y0x] at e38; cases e38
       rw [Y0x] at e38
       refine BL (SQ ?_)
       obtain ⟨o56, hx55, e38⟩ := bnd e38
       rcases o56 with ⟨l53, o54⟩ | n57
       ·
        try dsimp only at e38
        obtain ⟨o63, hx62, e38⟩ := bnd e38
        rcases o63 with ⟨⟨s58, s59, s60⟩, o61⟩ | n64
        ·
         try dsimp only at e38
         obtain ⟨l65, hxl65, e38⟩ := bnd e38
         refine WC.cutP (fun e w => ∃ (v66 : Value) (M : Mem), e = [(0, ptr bp0 0), (2, ptr bk2 0), (4, ptr bk4 0)] ∧ StX (feet [.blk bp0 (.cells #[S p0.1, I p0.2] 72)]) w0 M0 M [.blk bp0 (.cells #[S o61.1, I o61.2] 72), .blk bk2 (.cells #[S s41, Value.bool b42, v44] 34), .blk bk4 (.cells #[S s46, Value.bool b47, v66] 34), RowS 24 3 xenc24 v66 l65] w ∧ GlF (fun w => ∃ m, w.cell? ⟨2, 0, none⟩ = some (.int .i64 m)) M ∧ Tabs M ∧ SlS M 3 xenc24 v44 l43) ?_ ?_
         ·
          refine WC.draw (m := 10) rfl rfl H ?_
          intro w H
          refine WA.take (i := 0) rfl (by kernel_rfl) (by kernel_rfl) (by kernel_rfl) (fun _ => Ex.fieldAddr Tryz.underlying34 rfl Tryz.sizeOf30 (by decide) rfl) (Wn.none rfl) rfl rfl (fun _ _ => rfl) (WA.take (i := 2) rfl (by kernel_rfl) (by kernel_rfl) (by kernel_rfl) (fun _ => Ex.move rfl) (Wn.none rfl) rfl rfl (fun _ _ => rfl) (WA.take (i := 3) rfl (by kernel_rfl) (by kernel_rfl) (by kernel_rfl) (fun _ => Ex.move rfl) (Wn.none rfl) rfl rfl (fun _ _ => rfl) ?_))
          refine WA.two (i := 1) (j := 4) (by kernel_rfl) rfl rfl ?_ ?_
          ·
           refine ST (Ex.load1 H rfl (by repeat first | exact kMh | apply kMt) Tryz.isAgg30 (by rfl)) rfl ?_
           refine NA (WA.seq (fuel := 0) [4, 5, 6, 7, 8, 9] rfl (by kernel_rfl) ?_)
           refine WR.callX (A := [.blk bp0 (.cells #[S s39, I n40] 72)]) (B := [.blk bk2 (.cells #[S s41, Value.bool b42, v44] 34), .blk bk4 (.cells #[S s46, Value.bool b47, v50] 34), RowS 24 3 xenc24 v50 l49]) (H.pick (L' := [.blk bp0 (.cells #[S s39, I n40] 72), .blk bk2 (.cells #[S s41, Value.bool b42, v44] 34), .blk bk4 (.cells #[S s46, Value.bool b47, v50] 34), RowS 24 3 xenc24 v50 l49]) (by repeat first | exact kPn | refine kPc (by repeat first | exact .head | apply Rem.tail) ?_)) (Y09 hx55) (.left (Spl.all _)) rfl trivial (Wn.none rfl) rfl ?_
           intro v30 M w its H hle hR
           replace hg_maxl := hg_maxl.mono hle
           replace hg_tabs := hg_tabs.mono hle
           replace hs45 := hs45.mono hle
           try dsimp only at hR
           obtain ⟨x30_0, rfl, f30_0, rfl⟩ := hR
           simp only [List.cons_append, List.nil_append] at H
           refine WR.callX (A := [.blk bp0 (.cells #[S o54.1, I o54.2] 72)]) (B := [.blk bk2 (.cells #[S s41, Value.bool b42, v44] 34), .blk bk4 (.cells #[S s46, Value.bool b47, v50] 34), RowS 24 3 xenc24 v50 l49]) (H.pick (L' := [.blk bp0 (.cells #[S o54.1, I o54.2] 72), .blk bk2 (.cells #[S s41, Value.bool b42, v44] 34), .blk bk4 (.cells #[S s46, Value.bool b47, v50] 34), RowS 24 3 xenc24 v50 l49]) (by repeat first | exact kPn | refine kPc (by repeat first | exact .head | apply Rem.tail) ?_)) (Y0h hx62) (.left (Spl.all _)) rfl ⟨hg_maxl, hg_tabs, f30_0⟩ (Wn.none rfl) rfl ?_
           intro v31 M w its H hle hR
           replace hg_maxl := hg_maxl.mono hle
           replace hg_tabs := hg_tabs.mono hle
           replace hs45 := hs45.mono hle
           replace f30_0 := f30_0.mono hle
           try dsimp only at hR
           obtain ⟨rfl, rfl⟩ := hR
           simp only [List.cons_append, List.nil_append] at H
           refine WR.litS (enc := xenc24) xty30 ([(s58, s59, s60)] : List (List UInt8 × List UInt8 × List UInt8)) H (fun _ => rfl) rfl (by kernel_rfl) rfl rfl rfl (Wn.none rfl) rfl ?_
           intro v32 M w H hle hs32
           replace hg_maxl := hg_maxl.mono hle
           replace hg_tabs := hg_tabs.mono hle
           replace hs45 := hs45.mono hle
           replace f30_0 := f30_0.mono hle
           refine WR.appSC (l := l49) xty30 rfl xone24 H rfl (fun _ => by repeat first | exact .head | apply Upd.tail) rfl (hs32) hxl65 (Wn.none rfl) rfl ?_
           intro v33 w H
           refine ST (Ex.fieldAddr Tryz.underlying34 rfl Tryz.sizeOf30 (by decide) rfl) rfl (WR.putV [_, _, _] H rfl rfl (H.rowOneS (by repeat first | exact kMh | apply kMt)) (by repeat first | exact .head | apply Upd.tail) (by rfl) Tryz.sizeOf30 (by first | decide | (simp; done) | (simp; omega)) (Wn.none rfl) ?_)
           intro w H
           refine NA (WA.done (by kernel_rfl) ?_)
           exact WQ.meetP [(0, _), (2, _), (4, _)] ⟨rfl, rfl, rfl, trivial⟩ ⟨_, _, rfl, H, hg_maxl, hg_tabs, hs45⟩
          ·
           refine WR.callX (A := [.blk bp0 (.cells #[S s39, I n40] 72)]) (B := [.blk bk2 (.cells #[S s41, Value.bool b42, v44] 34), .blk bk4 (.cells #[S s46, Value.bool b47, v50] 34), RowS 24 3 xenc24 v50 l49]) (H.pick (L' := [.blk bp0 (.cells #[S s39, I n40] 72), .blk bk2 (.cells #[S s41, Value.bool b42, v44] 34), .blk bk4 (.cells #[S s46, Value.bool b47, v50] 34), RowS 24 3 xenc24 v50 l49]) (by repeat first | exact kPn | refine kPc (by repeat first | exact .head | apply Rem.tail) ?_)) (Y09 hx55) (.left (Spl.all _)) rfl trivial (Wn.none rfl) rfl ?_
           intro v30 M w its H hle hR
           replace hg_maxl := hg_maxl.mono hle
           replace hg_tabs := hg_tabs.mono hle
           replace hs45 := hs45.mono hle
           try dsimp only at hR
           obtain ⟨x30_0, rfl, f30_0, rfl⟩ := hR
           simp only [List.cons_append, List.nil_append] at H
           refine NA ?_
           refine WA.two (i := 1) (j := 5) (by kernel_rfl) rfl rfl ?_ ?_
           ·
            refine ST (Ex.load1 H rfl (by repeat first | exact kMh | apply kMt) Tryz.isAgg30 (by rfl)) rfl ?_
            refine NA (WA.seq (fuel := 0) [5, 6, 7, 8, 9] rfl (by kernel_rfl) ?_)
            refine WR.callX (A := [.blk bp0 (.cells #[S o54.1, I o54.2] 72)]) (B := [.blk bk2 (.cells #[S s41, Value.bool b42, v44] 34), .blk bk4 (.cells #[S s46, Value.bool b47, v50] 34), RowS 24 3 xenc24 v50 l49]) (H.pick (L' := [.blk bp0 (.cells #[S o54.1, I o54.2] 72), .blk bk2 (.cells #[S s41, Value.bool b42, v44] 34), .blk bk4 (.cells #[S s46, Value.bool b47, v50] 34), RowS 24 3 xenc24 v50 l49]) (by repeat first | exact kPn | refine kPc (by repeat first | exact .head | apply Rem.tail) ?_)) (Y0h hx62) (.left (Spl.all _)) rfl ⟨hg_maxl, hg_tabs, f30_0⟩ (Wn.none rfl) rfl ?_
            intro v31 M w its H hle hR
            replace hg_maxl := hg_maxl.mono hle
            replace hg_tabs := hg_tabs.mono hle
            replace hs45 := hs45.mono hle
            replace f30_0 := f30_0.mono hle
            try dsimp only at hR
            obtain ⟨rfl, rfl⟩ := hR
            simp only [List.cons_append, List.nil_append] at H
            refine WR.litS (enc := xenc24) xty30 ([(s58, s59, s60)] : List (List UInt8 × List UInt8 × List UInt8)) H (fun _ => rfl) rfl (by kernel_rfl) rfl rfl rfl (Wn.none rfl) rfl ?_
            intro v32 M w H hle hs32
            replace hg_maxl := hg_maxl.mono hle
            replace hg_tabs := hg_tabs.mono hle
            replace hs45 := hs45.mono hle
            replace f30_0 := f30_0.mono hle
            refine WR.appSC (l := l49) xty30 rfl xone24 H rfl (fun _ => by repeat first | exact .head | apply Upd.tail) rfl (hs32) hxl65 (Wn.none rfl) rfl ?_
            intro v33 w H
            refine ST (Ex.fieldAddr Tryz.underlying34 rfl Tryz.sizeOf30 (by decide) rfl) rfl (WR.putV [_, _, _] H rfl rfl (H.rowOneS (by repeat first | exact kMh | apply kMt)) (by repeat first | exact .head | apply Upd.tail) (by rfl) Tryz.sizeOf30 (by first | decide | (simp; done) | (simp; omega)) (Wn.none rfl) ?_)
            intro w H
            refine NA (WA.done (by kernel_rfl) ?_)
            exact WQ.meetP [(0, _), (2, _), (4, _)] ⟨rfl, rfl, rfl, trivial⟩ ⟨_, _, rfl, H, hg_maxl, hg_tabs, hs45⟩
           ·
            refine WR.callX (A := [.blk bp0 (.cells #[S o54.1, I o54.2] 72)]) (B := [.blk bk2 (.cells #[S s41, Value.bool b42, v44] 34), .blk bk4 (.cells #[S s46, Value.bool b47, v50] 34), RowS 24 3 xenc24 v50 l49]) (H.pick (L' := [.blk bp0 (.cells #[S o54.1, I o54.2] 72), .blk bk2 (.cells #[S s41, Value.bool b42, v44] 34), .blk bk4 (.cells #[S s46, Value.bool b47, v50] 34), RowS 24 3 xenc24 v50 l49]) (by repeat first | exact kPn | refine kPc (by repeat first | exact .head | apply Rem.tail) ?_)) (Y0h hx62) (.left (Spl.all _)) rfl ⟨hg_maxl, hg_tabs, f30_0⟩ (Wn.none rfl) rfl ?_
            intro v31 M w its H hle hR
            replace hg_maxl := hg_maxl.mono hle
            replace hg_tabs := hg_tabs.mono hle
            replace hs45 := hs45.mono hle
            replace f30_0 := f30_0.mono hle
            try dsimp only at hR
            obtain ⟨rfl, rfl⟩ := hR
            simp only [List.cons_append, List.nil_append] at H
            refine NA ?_
            refine WA.two (i := 1) (j := 6) (by kernel_rfl) rfl rfl ?_ ?_
            ·
             refine ST (Ex.load1 H rfl (by repeat first | exact kMh | apply kMt) Tryz.isAgg30 (by rfl)) rfl ?_
             refine NA (WA.seq (fuel := 0) [6, 7, 8, 9] rfl (by kernel_rfl) (WR.litS (enc := xenc24) xty30 ([(s58, s59, s60)] : List (List UInt8 × List UInt8 × List UInt8)) H (fun _ => rfl) rfl (by kernel_rfl) rfl rfl rfl (Wn.none rfl) rfl ?_))
             intro v32 M w H hle hs32
             replace hg_maxl := hg_maxl.mono hle
             replace hg_tabs := hg_tabs.mono hle
             replace hs45 := hs45.mono hle
             replace f30_0 := f30_0.mono hle
             refine WR.appSC (l := l49) xty30 rfl xone24 H rfl (fun _ => by repeat first | exact .head | apply Upd.tail) rfl (hs32) hxl65 (Wn.none rfl) rfl ?_
             intro v33 w H
             refine ST (Ex.fieldAddr Tryz.underlying34 rfl Tryz.sizeOf30 (by decide) rfl) rfl (WR.putV [_, _, _] H rfl rfl (H.rowOneS (by repeat first | exact kMh | apply kMt)) (by repeat first | exact .head | apply Upd.tail) (by rfl) Tryz.sizeOf30 (by first | decide | (simp; done) | (simp; omega)) (Wn.none rfl) ?_)
             intro w H
             refine NA (WA.done (by kernel_rfl) ?_)
             exact WQ.meetP [(0, _), (2, _), (4, _)] ⟨rfl, rfl, rfl, trivial⟩ ⟨_, _, rfl, H, hg_maxl, hg_tabs, hs45⟩
            ·
             refine WR.litS (enc := xenc24) xty30 ([(s58, s59, s60)] : List (List UInt8 × List UInt8 × List UInt8)) H (fun _ => rfl) rfl (by kernel_rfl) rfl rfl rfl (Wn.none rfl) rfl ?_
             intro v32 M w H hle hs32
             replace hg_maxl := hg_maxl.mono hle
             replace hg_tabs := hg_tabs.mono hle
             replace hs45 := hs45.mono hle
             replace f30_0 := f30_0.mono hle
             refine NA (WA.seq (fuel := 0) [1, 7, 8, 9] rfl (by kernel_rfl) (ST (Ex.load1 H rfl (by repeat first | exact kMh | apply kMt) Tryz.isAgg30 (by rfl)) rfl ?_))
             refine WR.appSC (l := l49) xty30 rfl xone24 H rfl (fun _ => by repeat first | exact .head | apply Upd.tail) rfl (hs32) hxl65 (Wn.none rfl) rfl ?_
             intro v33 w H
             refine ST (Ex.fieldAddr Tryz.underlying34 rfl Tryz.sizeOf30 (by decide) rfl) rfl (WR.putV [_, _, _] H rfl rfl (H.rowOneS (by repeat first | exact kMh | apply kMt)) (by repeat first | exact .head | apply Upd.tail) (by rfl) Tryz.sizeOf30 (by first | decide | (simp; done) | (simp; omega)) (Wn.none rfl) ?_)
             intro w H
             refine NA (WA.done (by kernel_rfl) ?_)
             exact WQ.meetP [(0, _), (2, _), (4, _)] ⟨rfl, rfl, rfl, trivial⟩ ⟨_, _, rfl, H, hg_maxl, hg_tabs, hs45⟩
         ·
          rintro e w ⟨v66, M, rfl, H, hg_maxl, hg_tabs, hs45⟩
          refine TN (SQ (SQ ?_))
          obtain ⟨o70, hx69, e38⟩ := bnd e38
          rcases o70 with ⟨b67, o68⟩ | n71
          ·
           try dsimp only at e38
           refine RG (MV rfl rfl ?_)
           refine WR.callX (A := [.blk bp0 (.cells #[S o61.1, I o61.2] 72)]) (B := [.blk bk2 (.cells #[S s41, Value.bool b42, v44] 34), .blk bk4 (.cells #[S s46, Value.bool b47, v66] 34), RowS 24 3 xenc24 v66 l65]) (H.pick (L' := [.blk bp0 (.cells #[S o61.1, I o61.2] 72), .blk bk2 (.cells #[S s41, Value.bool b42, v44] 34), .blk bk4 (.cells #[S s46, Value.bool b47, v66] 34), RowS 24 3 xenc24 v66 l65]) (by repeat first | exact kPn | refine kPc (by repeat first | exact .head | apply Rem.tail) ?_)) (Y0a hx69) (.left (Spl.all _)) rfl trivial (Wn.none rfl) rfl ?_
           intro v36 M w its H hle hR
           replace hg_maxl := hg_maxl.mono hle
           replace hg_tabs := hg_tabs.mono hle
           replace hs45 := hs45.mono hle
           try dsimp only at hR
           obtain ⟨rfl, rfl⟩ := hR
           simp only [List.cons_append, List.nil_append] at H
           refine NL (TN ?_)
           refine WC.condB rfl (fun hk72 => ?_) (fun hk72 => ?_)
           ·
            subst hk72
            rw [if_pos rfl] at e38
            refine SQ (RG (ST (Ex.loadAgg H rfl (by repeat first | exact kMh | apply kMt) Tryz.isAgg34 Tryz.sizeOf34 (by rfl)) rfl ?_))
            refine WR.store [_, _, _] H rfl rfl rfl (by repeat first | exact .head | apply Upd.tail) Tryz.sizeOf34 rfl (by rfl) (by simp only [List.all_cons, List.all_nil, (H.rowOneS (by repeat first | exact kMh | apply kMt)).2]; rfl) (Wn.none rfl) ?_
            intro w H
            refine NL (TN (RT ?_))
            obtain ⟨M, hle, hs73, H⟩ := H.freezeRowSN (v := v66) (enc := xenc24) (t := 24) (by repeat first | exact .head | apply Rem.tail) (fun _ => rfl) ⟨⟨_, (by repeat first | exact kMh | apply kMt)⟩, trivial⟩
            replace hg_maxl := hg_maxl.mono hle
            replace hg_tabs := hg_tabs.mono hle
            obtain rfl := oI e38
            try dsimp only at h
            obtain rfl := oI h
            exact WQ.retX1 (its := [.blk bp0 (.cells #[S o68.1, I o68.2] 72)]) rfl ⟨_, rfl, H.loadAgg (by repeat first | exact kMh | apply kMt) Tryz.isAgg34 Tryz.sizeOf34 (by rfl)⟩ H (by repeat first | exact kPn | refine kPc (by repeat first | exact .head | apply Rem.tail) ?_) ⟨_, rfl, hs73, rfl⟩
           ·
            subst hk72
            rw [if_neg Bool.false_ne_true] at e38
            refine SK (TN ?_)
            obtain ⟨o76, hx75, e38⟩ := bnd e38
            rcases o76 with o74 | n77
            ·
             try dsimp only at e38
             refine RG (MV rfl rfl ?_)
             refine WR.callX (A := [.blk bp0 (.cells #[S o68.1, I o68.2] 72)]) (B := [.blk bk2 (.cells #[S s41, Value.bool b42, v44] 34), .blk bk4 (.cells #[S s46, Value.bool b47, v66] 34), RowS 24 3 xenc24 v66 l65]) (H.pick (L' := [.blk bp0 (.cells #[S o68.1, I o68.2] 72), .blk bk2 (.cells #[S s41, Value.bool b42, v44] 34), .blk bk4 (.cells #[S s46, Value.bool b47, v66] 34), RowS 24 3 xenc24 v66 l65]) (by repeat first | exact kPn | refine kPc (by repeat first | exact .head | apply Rem.tail) ?_)) (Y0H hx75) (.left (Spl.all _)) rfl trivial (Wn.none rfl) rfl ?_
             intro v39 M w its H hle hR
             replace hg_maxl := hg_maxl.mono hle
             replace hg_tabs := hg_tabs.mono hle
             replace hs45 := hs45.mono hle
             try dsimp only at hR
             obtain ⟨rfl, rfl⟩ := hR
             simp only [List.cons_append, List.nil_append] at H
             refine NL (IB ?_)
             exact WQ.againP m51 [(0, _), (2, _), (4, _)] ⟨rfl, rfl, rfl, trivial⟩ ⟨_, _, _, _, _, _, _, _, _, _, _, rfl, H, hg_maxl, hg_tabs, hs45, e38⟩ (Nat.lt_succ_self _)
            ·
             try dsimp only at e38
             obtain rfl := oI e38
             try dsimp only at h
             obtain rfl := oI h
             refine RG (MV rfl rfl ?_)
             refine WR.callPan (A := [.blk bp0 (.cells #[S o68.1, I o68.2] 72)]) (B := [.blk bk2 (.cells #[S s41, Value.bool b42, v44] 34), .blk bk4 (.cells #[S s46, Value.bool b47, v66] 34), RowS 24 3 xenc24 v66 l65]) (H.pick (L' := [.blk bp0 (.cells #[S o68.1, I o68.2] 72), .blk bk2 (.cells #[S s41, Value.bool b42, v44] 34), .blk bk4 (.cells #[S s46, Value.bool b47, v66] 34), RowS 24 3 xenc24 v66 l65]) (by repeat first | exact kPn | refine kPc (by repeat first | exact .head | apply Rem.tail) ?_)) (Y0H hx75) (.left (Spl.all _)) rfl trivial (Wn.none rfl) ?_
             intro M w H hle
             (repeat (first | refine WQ.pThen ?_ | refine WQ.pIn ?_ | refine WQ.pCut ?_ | refine WQ.pSc ?_))
             exact WQ.pBody H
          ·
           try dsimp only at e38
           obtain rfl := oI e38
           try dsimp only at h
           obtain rfl := oI h
           refine RG (MV rfl rfl ?_)
           refine WR.callPan (A := [.blk bp0 (.cells #[S o61.1, I o61.2] 72)]) (B := [.blk bk2 (.cells #[S s41, Value.bool b42, v44] 34), .blk bk4 (.cells #[S s46, Value.bool b47, v66] 34), RowS 24 3 xenc24 v66 l65]) (H.pick (L' := [.blk bp0 (.cells #[S o61.1, I o61.2] 72), .blk bk2 (.cells #[S s41, Value.bool b42, v44] 34), .blk bk4 (.cells #[S s46, Value.bool b47, v66] 34), RowS 24 3 xenc24 v66 l65]) (by repeat first | exact kPn | refine kPc (by repeat first | exact .head | apply Rem.tail) ?_)) (Y0a hx69) (.left (Spl.all _)) rfl trivial (Wn.none rfl) ?_
           intro M w H hle
           (repeat (first | refine WQ.pThen ?_ | refine WQ.pIn ?_ | refine WQ.pCut ?_ | refine WQ.pSc ?_))
           exact WQ.pBody H
        ·
         try dsimp only at e38
         obtain rfl := oI e38
         try dsimp only at h
         obtain rfl := oI h
         refine WC.draw (m := 10) rfl rfl H ?_
         intro w H
         refine WA.take (i := 0) rfl (by kernel_rfl) (by kernel_rfl) (by kernel_rfl) (fun _ => Ex.fieldAddr Tryz.underlying34 rfl Tryz.sizeOf30 (by decide) rfl) (Wn.none rfl) rfl rfl (fun _ _ => rfl) (WA.take (i := 2) rfl (by kernel_rfl) (by kernel_rfl) (by kernel_rfl) (fun _ => Ex.move rfl) (Wn.none rfl) rfl rfl (fun _ _ => rfl) (WA.take (i := 3) rfl (by kernel_rfl) (by kernel_rfl) (by kernel_rfl) (fun _ => Ex.move rfl) (Wn.none rfl) rfl rfl (fun _ _ => rfl) ?_))
         refine WA.two (i := 1) (j := 4) (by kernel_rfl) rfl rfl ?_ ?_
         ·
          refine ST (Ex.load1 H rfl (by repeat first | exact kMh | apply kMt) Tryz.isAgg30 (by rfl)) rfl ?_
          refine NA (WA.seq (fuel := 4) [4, 5] rfl (by kernel_rfl) ?_)
          refine WR.callX (A := [.blk bp0 (.cells #[S s39, I n40] 72)]) (B := [.blk bk2 (.cells #[S s41, Value.bool b42, v44] 34), .blk bk4 (.cells #[S s46, Value.bool b47, v50] 34), RowS 24 3 xenc24 v50 l49]) (H.pick (L' := [.blk bp0 (.cells #[S s39, I n40] 72), .blk bk2 (.cells #[S s41, Value.bool b42, v44] 34), .blk bk4 (.cells #[S s46, Value.bool b47, v50] 34), RowS 24 3 xenc24 v50 l49]) (by repeat first | exact kPn | refine kPc (by repeat first | exact .head | apply Rem.tail) ?_)) (Y09 hx55) (.left (Spl.all _)) rfl trivial (Wn.none rfl) rfl ?_
          intro v30 M w its H hle hR
          replace hg_maxl := hg_maxl.mono hle
          replace hg_tabs := hg_tabs.mono hle
          replace hs45 := hs45.mono hle
          try dsimp only at hR
          obtain ⟨x30_0, rfl, f30_0, rfl⟩ := hR
          simp only [List.cons_append, List.nil_append] at H
          refine WR.callPan (A := [.blk bp0 (.cells #[S o54.1, I o54.2] 72)]) (B := [.blk bk2 (.cells #[S s41, Value.bool b42, v44] 34), .blk bk4 (.cells #[S s46, Value.bool b47, v50] 34), RowS 24 3 xenc24 v50 l49]) (H.pick (L' := [.blk bp0 (.cells #[S o54.1, I o54.2] 72), .blk bk2 (.cells #[S s41, Value.bool b42, v44] 34), .blk bk4 (.cells #[S s46, Value.bool b47, v50] 34), RowS 24 3 xenc24 v50 l49]) (by repeat first | exact kPn | refine kPc (by repeat first | exact .head | apply Rem.tail) ?_)) (Y0h hx62) (.left (Spl.all _)) rfl ⟨hg_maxl, hg_tabs, f30_0⟩ (Wn.none rfl) ?_
          intro M w H hle
          refine WQ.pAny (e' := []) trivial (by kernel_rfl) ?_
          (repeat (first | refine WQ.pThen ?_ | refine WQ.pIn ?_ | refine WQ.pCut ?_ | refine WQ.pSc ?_))
          exact WQ.pBody H
         ·
          refine WR.callX (A := [.blk bp0 (.cells #[S s39, I n40] 72)]) (B := [.blk bk2 (.cells #[S s41, Value.bool b42, v44] 34), .blk bk4 (.cells #[S s46, Value.bool b47, v50] 34), RowS 24 3 xenc24 v50 l49]) (H.pick (L' := [.blk bp0 (.cells #[S s39, I n40] 72), .blk bk2 (.cells #[S s41, Value.bool b42, v44] 34), .blk bk4 (.cells #[S s46, Value.bool b47, v50] 34), RowS 24 3 xenc24 v50 l49]) (by repeat first | exact kPn | refine kPc (by repeat first | exact .head | apply Rem.tail) ?_)) (Y09 hx55) (.left (Spl.all _)) rfl trivial (Wn.none rfl) rfl ?_
          intro v30 M w its H hle hR
          replace hg_maxl := hg_maxl.mono hle
          replace hg_tabs := hg_tabs.mono hle
          replace hs45 := hs45.mono hle
          try dsimp only at hR
          obtain ⟨x30_0, rfl, f30_0, rfl⟩ := hR
          simp only [List.cons_append, List.nil_append] at H
          refine NA ?_
          refine WA.two (i := 1) (j := 5) (by kernel_rfl) rfl rfl ?_ ?_
          ·
           refine ST (Ex.load1 H rfl (by repeat first | exact kMh | apply kMt) Tryz.isAgg30 (by rfl)) rfl ?_
           refine NA (ON 5 (by kernel_rfl) rfl ?_)
           refine WR.callPan (A := [.blk bp0 (.cells #[S o54.1, I o54.2] 72)]) (B := [.blk bk2 (.cells #[S s41, Value.bool b42, v44] 34), .blk bk4 (.cells #[S s46, Value.bool b47, v50] 34), RowS 24 3 xenc24 v50 l49]) (H.pick (L' := [.blk bp0 (.cells #[S o54.1, I o54.2] 72), .blk bk2 (.cells #[S s41, Value.bool b42, v44] 34), .blk bk4 (.cells #[S s46, Value.bool b47, v50] 34), RowS 24 3 xenc24 v50 l49]) (by repeat first | exact kPn | refine kPc (by repeat first | exact .head | apply Rem.tail) ?_)) (Y0h hx62) (.left (Spl.all _)) rfl ⟨hg_maxl, hg_tabs, f30_0⟩ (Wn.none rfl) ?_
           intro M w H hle
           refine WQ.pAny (e' := []) trivial (by kernel_rfl) ?_
           (repeat (first | refine WQ.pThen ?_ | refine WQ.pIn ?_ | refine WQ.pCut ?_ | refine WQ.pSc ?_))
           exact WQ.pBody H
          ·
           refine WR.callPan (A := [.blk bp0 (.cells #[S o54.1, I o54.2] 72)]) (B := [.blk bk2 (.cells #[S s41, Value.bool b42, v44] 34), .blk bk4 (.cells #[S s46, Value.bool b47, v50] 34), RowS 24 3 xenc24 v50 l49]) (H.pick (L' := [.blk bp0 (.cells #[S o54.1, I o54.2] 72), .blk bk2 (.cells #[S s41, Value.bool b42, v44] 34), .blk bk4 (.cells #[S s46, Value.bool b47, v50] 34), RowS 24 3 xenc24 v50 l49]) (by repeat first | exact kPn | refine kPc (by repeat first | exact .head | apply Rem.tail) ?_)) (Y0h hx62) (.left (Spl.all _)) rfl ⟨hg_maxl, hg_tabs, f30_0⟩ (Wn.none rfl) ?_
           intro M w H hle
           refine WQ.pAny (e' := []) trivial (by kernel_rfl) ?_
           (repeat (first | refine WQ.pThen ?_ | refine WQ.pIn ?_ | refine WQ.pCut ?_ | refine WQ.pSc ?_))
           exact WQ.pBody H
       ·
        try dsimp only at e38
        obtain rfl := oI e38
        try dsimp only at h
        obtain rfl := oI h
        refine WC.draw (m := 10) rfl rfl H ?_
        intro w H
        refine WA.take (i := 0) rfl (by kernel_rfl) (by kernel_rfl) (by kernel_rfl) (fun _ => Ex.fieldAddr Tryz.underlying34 rfl Tryz.sizeOf30 (by decide) rfl) (Wn.none rfl) rfl rfl (fun _ _ => rfl) (WA.take (i := 2) rfl (by kernel_rfl) (by kernel_rfl) (by kernel_rfl) (fun _ => Ex.move rfl) (Wn.none rfl) rfl rfl (fun _ _ => rfl) (WA.take (i := 3) rfl (by kernel_rfl) (by kernel_rfl) (by kernel_rfl) (fun _ => Ex.move rfl) (Wn.none rfl) rfl rfl (fun _ _ => rfl) ?_))
        refine WA.two (i := 1) (j := 4) (by kernel_rfl) rfl rfl ?_ ?_
        ·
         refine ST (Ex.load1 H rfl (by repeat first | exact kMh | apply kMt) Tryz.isAgg30 (by rfl)) rfl ?_
         refine NA (ON 4 (by kernel_rfl) rfl ?_)
         refine WR.callPan (A := [.blk bp0 (.cells #[S s39, I n40] 72)]) (B := [.blk bk2 (.cells #[S s41, Value.bool b42, v44] 34), .blk bk4 (.cells #[S s46, Value.bool b47, v50] 34), RowS 24 3 xenc24 v50 l49]) (H.pick (L' := [.blk bp0 (.cells #[S s39, I n40] 72), .blk bk2 (.cells #[S s41, Value.bool b42, v44] 34), .blk bk4 (.cells #[S s46, Value.bool b47, v50] 34), RowS 24 3 xenc24 v50 l49]) (by repeat first | exact kPn | refine kPc (by repeat first | exact .head | apply Rem.tail) ?_)) (Y09 hx55) (.left (Spl.all _)) rfl trivial (Wn.none rfl) ?_
         intro M w H hle
         refine WQ.pAny (e' := []) trivial (by kernel_rfl) ?_
         (repeat (first | refine WQ.pThen ?_ | refine WQ.pIn ?_ | refine WQ.pCut ?_ | refine WQ.pSc ?_))
         exact WQ.pBody H
        ·
         refine WR.callPan (A := [.blk bp0 (.cells #[S s39, I n40] 72)]) (B := [.blk bk2 (.cells #[S s41, Value.bool b42, v44] 34), .blk bk4 (.cells #[S s46, Value.bool b47, v50] 34), RowS 24 3 xenc24 v50 l49]) (H.pick (L' := [.blk bp0 (.cells #[S s39, I n40] 72), .blk bk2 (.cells #[S s41, Value.bool b42, v44] 34), .blk bk4 (.cells #[S s46, Value.bool b47, v50] 34), RowS 24 3 xenc24 v50 l49]) (by repeat first | exact kPn | refine kPc (by repeat first | exact .head | apply Rem.tail) ?_)) (Y09 hx55) (.left (Spl.all _)) rfl trivial (Wn.none rfl) ?_
         intro M w H hle
         refine WQ.pAny (e' := []) trivial (by kernel_rfl) ?_
         (repeat (first | refine WQ.pThen ?_ | refine WQ.pIn ?_ | refine WQ.pCut ?_ | refine WQ.pSc ?_))
         exact WQ.pBody H
     ·
      try dsimp only at h
      obtain rfl := oI h
      refine RG (MV rfl rfl ?_)
      refine WR.callPan (A := [.blk bp0 (.cells #[S s23, I n24] 72)]) (B := [.blk bk2 (.cells #[S [], Value.bool false, Value.slice none 0 0] 34), .blk bk4 (.cells #[S s19, Value.bool true, Value.slice none 0 0] 34)]) (H.pick (L' := [.blk bp0 (.cells #[S s23, I n24] 72), .blk bk2 (.cells #[S [], Value.bool false, Value.slice none 0 0] 34), .blk bk4 (.cells #[S s19, Value.bool true, Value.slice none 0 0] 34)]) (by repeat first | exact kPn | refine kPc (by repeat first | exact .head | apply Rem.tail) ?_)) (Y0a hx33) (.left (Spl.all _)) rfl trivial (Wn.none rfl) ?_
      intro M w H hle
      (repeat (first | refine WQ.pThen ?_ | refine WQ.pIn ?_ | refine WQ.pCut ?_ | refine WQ.pSc ?_))
      exact WQ.pBody H
  ·
   try dsimp only at h
   obtain rfl := oI h
   refine RG (MV rfl rfl ?_)
   refine WR.callPan (A := [.blk bp0 (.cells #[S o2.1, I o2.2] 72)]) (B := [.blk bk2 (.cells #[S [], Value.bool false, Value.slice none 0 0] 34)]) (H.pick (L' := [.blk bp0 (.cells #[S o2.1, I o2.2] 72), .blk bk2 (.cells #[S [], Value.bool false, Value.slice none 0 0] 34)]) (by repeat first | exact kPn | refine kPc (by repeat first | exact .head | apply Rem.tail) ?_)) (Y0a hx8) (.left (Spl.all _)) rfl trivial (Wn.none rfl) ?_
   intro M w H hle
   (repeat (first | refine WQ.pThen ?_ | refine WQ.pIn ?_ | refine WQ.pCut ?_ | refine WQ.pSc ?_))
   exact WQ.pBody H
 ·
  try dsimp only at h
  obtain rfl := oI h
  refine RG (MV rfl rfl ?_)
  refine WR.callPan (A := [.blk bp0 (.cells #[S p0.1, I p0.2] 72)]) (B := [.blk bk2 (.cells #[S [], Value.bool false, Value.slice none 0 0] 34)]) (H.pick (L' := [.blk bp0 (.cells #[S p0.1, I p0.2] 72), .blk bk2 (.cells #[S [], Value.bool false, Value.slice none 0 0] 34)]) (by repeat first | exact kPn | refine kPc (by repeat first | exact .head | apply Rem.tail) ?_)) (Y09 hx3) (.left (Spl.all _)) rfl trivial (Wn.none rfl) ?_
  intro M w H hle
  (repeat (first | refine WQ.pThen ?_ | refine WQ.pIn ?_ | refine WQ.pCut ?_ | refine WQ.pSc ?_))
  exact WQ.pBody H
set_option maxHeartbeats 4000000 in
theorem Y2n {p0 : List UInt8} {r : (List (List UInt8 × Bool × List (List UInt8 × List UInt8 × List UInt8)) × (Int × Int))} (h : Y0U p0 = some r) : Ct Tryz.prog 19 [S p0] (fun M => GlF (fun w => ∃ m, w.cell? ⟨2, 0, none⟩ = some (.int .i64 m)) M ∧ Tabs M) (fun v M => ∃ x0, v = Value.tuple #[x0, Value.agg #[I r.2.1, I r.2.2]] ∧ SlR xrl34 M x0 r.1) := by
 refine Ct.ofD Tryz.func19 (enters Tryz.func19 (by kernel_rfl) rfl) rfl rfl rfl ?_
 intro w0 M0 H hp
 obtain ⟨hg_maxl, hg_tabs⟩ := hp
 unfold Y0U at h
 refine SQ (RG (WR.box [_] H rfl rfl (Wn.none rfl) rfl ?_))
 intro bk1 w H
 refine WR.alloc [_] H Tryz.zeroValue22 rfl (Wn.none rfl) rfl ?_
 intro bk2 w H
 refine WR.alloc [_, _] H Tryz.zeroValue27 rfl (Wn.none rfl) rfl ?_
 intro bk3 w H
 refine NL (TN (SQ (SQ (RG (ST (Ex.load1 H rfl (by repeat first | exact kMh | apply kMt) Tryz.isAgg9 (by rfl)) rfl ?_)))))
 refine ST (Ex.lenStr Tryz.underlying9 rfl) rfl (ST (Ex.gtr rfl rfl) rfl (NL (TN ?_)))
 refine WC.condB rfl (fun hk1 => ?_) (fun hk1 => ?_)
 ·
  replace hk1 : (4000 : Int) < (p0.length : Int) := of_decide_eq_true hk1
  rw [if_pos hk1] at h
  refine SQ ?_
  obtain ⟨⟨n2, n3⟩, hx4, h⟩ := bnd h
  try dsimp only at h
  refine RG (WR.call H (Y0D hx4) rfl trivial (Wn.none rfl) rfl ?_)
  intro v9 M w H hle hR
  replace hg_maxl := hg_maxl.mono hle
  replace hg_tabs := hg_tabs.mono hle
  try dsimp only at hR
  obtain rfl := hR
  refine WR.putV [_] H rfl rfl (One.slice _ _ _) (by repeat first | exact .head | apply Upd.tail) (by rfl) Tryz.sizeOf22 (by first | decide | (simp; done) | (simp; omega)) (Wn.none rfl) ?_
  intro w H
  refine WR.store [_, _] H rfl rfl rfl (by repeat first | exact .head | apply Upd.tail) Tryz.sizeOf27 rfl (by rfl) (by rfl) (Wn.none rfl) ?_
  intro w H
  refine NL (TN (RT ?_))
  obtain rfl := oI h
  exact WQ.dret2 rfl ⟨_, rfl, H.load1 (by repeat first | exact kMh | apply kMt) Tryz.isAgg22 (by rfl)⟩ ⟨_, rfl, H.loadAgg (by repeat first | exact kMh | apply kMt) Tryz.isAgg27 Tryz.sizeOf27 (by rfl)⟩ H.ext (⟨_, rfl, SlR.nil⟩)
 ·
  replace hk1 : ¬ ((4000 : Int) < (p0.length : Int)) := of_decide_eq_false hk1
  rw [if_neg hk1] at h
  refine SK (TN (SQ (RG ?_)))
  obtain ⟨M, hle, hb5, H⟩ := H.freezeVar (b := bk1) (by repeat first | exact .head | apply Rem.tail)
  replace hg_maxl := hg_maxl.mono hle
  replace hg_tabs := hg_tabs.mono hle
  refine ST (Ex.makeFunc rfl) rfl (WR.deferS (cap := [ptr bk1 0, ptr bk2 0, ptr bk3 0]) rfl (Wn.none rfl) (NL (TN (SQ (RG (ST (Ex.loadM H rfl (hb5.cell (j := 0) rfl) Tryz.isAgg9) rfl (ST (Ex.build [S p0, I 0] Tryz.underlying72 Tryz.zeroValue72 (xplaces72 Tryz.underlying72) rfl rfl) rfl (WR.box [_, _] H rfl rfl (Wn.none rfl) rfl ?_))))))))
  intro bk13 w H
  refine AS rfl rfl (NL (TN (SQ (SQ ?_))))
  obtain ⟨o9, hx8, h⟩ := bnd h
  rcases o9 with ⟨n6, o7⟩ | n10
  ·
   try dsimp only at h
   refine RG (MV rfl rfl ?_)
   refine WR.callX (A := [.blk bk13 (.cells #[S p0, I 0] 72)]) (B := [.blk bk3 (.cells #[I 0, I 0] 27), .blk bk2 (.cells #[Value.slice none 0 0] 22)]) (H.pick (L' := [.blk bk13 (.cells #[S p0, I 0] 72), .blk bk3 (.cells #[I 0, I 0] 27), .blk bk2 (.cells #[Value.slice none 0 0] 22)]) (by repeat first | exact kPn | refine kPc (by repeat first | exact .head | apply Rem.tail) ?_)) (Y0o hx8) (.left (Spl.all _)) rfl trivial (Wn.none rfl) rfl ?_
   intro v15 M w its H hle hR
   replace hg_maxl := hg_maxl.mono hle
   replace hg_tabs := hg_tabs.mono hle
   replace hb5 := hb5.mono hle
   try dsimp only at hR
   obtain ⟨rfl, rfl⟩ := hR
   simp only [List.cons_append, List.nil_append] at H
   refine ST (Ex.neqAnyNil Tryz.underlying20 rfl) rfl (NL (TN ?_))
   obtain ⟨o11, e12, h⟩ := bnd h
   refine WC.cutX (fun e w => ∃ (l14 : List (List UInt8 × Bool × List (List UInt8 × List UInt8 × List UInt8))) (v15 : Value) (g16 : List (List UInt8 × Bool × Hd)) (M : Mem), e = [(1, ptr bk1 0), (2, ptr bk2 0), (3, ptr bk3 0)] ∧ St w0 M0 M [.blk bk2 (.cells #[v15] 22), RowS 34 xrl34.k xrl34.enc v15 g16, .blk bk3 (.cells #[I 0, I 0] 27)] w ∧ GlF (fun w => ∃ m, w.cell? ⟨2, 0, none⟩ = some (.int .i64 m)) M ∧ Tabs M ∧ PtM M bk1 (.cells #[S p0] 9) ∧ RelL xrl34 M g16 l14 ∧ some (.inl l14) = some o11) [] ?_ ?_ (trivial)
   ·
    refine WC.condB rfl (fun hk18 => ?_) (fun hk18 => ?_)
    ·
     replace hk18 : ¬ (n6 = none) := of_not_decide hk18
     rw [if_neg hk18] at e12
     refine SQ ?_
     obtain ⟨o24, hx23, e12⟩ := bnd e12
     rcases o24 with ⟨⟨s19, b20, l21⟩, o22⟩ | n25
     ·
      try dsimp only at e12
      obtain ⟨l29, hxl29, e12⟩ := bnd e12
      refine WC.cutP (fun e w => ∃ (v30 : Value) (b31 : List (List UInt8 × Bool × Hd)) (M : Mem), e = [(1, ptr bk1 0), (2, ptr bk2 0), (3, ptr bk3 0), (4, ptr bk13 0)] ∧ St w0 M0 M [.blk bk2 (.cells #[v30] 22), RowS 34 xrl34.k xrl34.enc v30 b31, .blk bk3 (.cells #[I 0, I 0] 27), .blk bk13 (.cells #[S o22.1, I o22.2] 72)] w ∧ GlF (fun w => ∃ m, w.cell? ⟨2, 0, none⟩ = some (.int .i64 m)) M ∧ Tabs M ∧ PtM M bk1 (.cells #[S p0] 9) ∧ RelL xrl34 M b31 l29) ?_ ?_
      ·
       refine WC.draw (m := 6) rfl rfl H ?_
       intro w H
       refine WA.take (i := 1) rfl (by kernel_rfl) (by kernel_rfl) (by kernel_rfl) (fun _ => Ex.move rfl) (Wn.none rfl) rfl rfl (fun _ _ => rfl) ?_
       refine WA.two (i := 0) (j := 2) (by kernel_rfl) rfl rfl ?_ ?_
       ·
        refine ST (Ex.load1 H rfl (by repeat first | exact kMh | apply kMt) Tryz.isAgg22 (by rfl)) rfl ?_
        refine NA (WA.seq (fuel := 0) [2, 3, 4, 5] rfl (by kernel_rfl) ?_)
        refine WR.callX (A := [.blk bk13 (.cells #[S o7.1, I o7.2] 72)]) (B := [.blk bk3 (.cells #[I 0, I 0] 27), .blk bk2 (.cells #[Value.slice none 0 0] 22)]) (H.pick (L' := [.blk bk13 (.cells #[S o7.1, I o7.2] 72), .blk bk3 (.cells #[I 0, I 0] 27), .blk bk2 (.cells #[Value.slice none 0 0] 22)]) (by repeat first | exact kPn | refine kPc (by repeat first | exact .head | apply Rem.tail) ?_)) (Y0p hx23) (.left (Spl.all _)) rfl ⟨hg_maxl, hg_tabs⟩ (Wn.none rfl) rfl ?_
        intro v19 M w its H hle hR
        replace hg_maxl := hg_maxl.mono hle
        replace hg_tabs := hg_tabs.mono hle
        replace hb5 := hb5.mono hle
        try dsimp only at hR
        obtain ⟨x19_0_2, rfl, f19_0_2, rfl⟩ := hR
        simp only [List.cons_append, List.nil_append] at H
        obtain ⟨q26, rfl⟩ := f19_0_2.hd
        refine WR.litS (enc := xrl34.enc) xty22 ([(s19, b20, q26)] : List (List UInt8 × Bool × Hd)) H (fun _ => rfl) rfl (by kernel_rfl) rfl rfl rfl (Wn.none rfl) rfl ?_
        intro v20 M w H hle hs20
        replace hg_maxl := hg_maxl.mono hle
        replace hg_tabs := hg_tabs.mono hle
        replace hb5 := hb5.mono hle
        replace f19_0_2 := f19_0_2.mono hle
        replace hs20 := SlR.of (R := xrl34) (l := ([(s19, b20, l21)] : List (List UInt8 × Bool × List (List UInt8 × List UInt8 × List UInt8)))) hs20 ⟨⟨rfl, rfl, f19_0_2⟩, trivial⟩
        replace H := H.newRowS 34 xrl34.k xrl34.enc
        have hr28 : RelL xrl34 M [] [] := RelL.nil
        refine WR.appRC (R := xrl34) (l := []) xty22 rfl H hr28 rfl (fun _ => by repeat first | exact .head | apply Upd.tail) rfl (hs20) hxl29 (Wn.none rfl) rfl ?_
        intro v21 g21 w hr21 H
        refine WR.putV [_] H rfl rfl (H.rowOneS (by repeat first | exact kMh | apply kMt)) (by repeat first | exact .head | apply Upd.tail) (by rfl) Tryz.sizeOf22 (by first | decide | (simp; done) | (simp; omega)) (Wn.none rfl) ?_
        intro w H
        refine NA (WA.done (by kernel_rfl) ?_)
        exact WQ.meetP [(1, _), (2, _), (3, _), (4, _)] ⟨rfl, rfl, rfl, rfl, trivial⟩ ⟨_, _, _, rfl, (H.pick (L' := [.blk bk2 (.cells #[v21] 22), RowS 34 xrl34.k xrl34.enc v21 g21, .blk bk3 (.cells #[I 0, I 0] 27), .blk bk13 (.cells #[S o22.1, I o22.2] 72)]) (by repeat first | exact kPn | refine kPc (by repeat first | exact .head | apply Rem.tail) ?_)), hg_maxl, hg_tabs, hb5, hr21⟩
       ·
        refine WR.callX (A := [.blk bk13 (.cells #[S o7.1, I o7.2] 72)]) (B := [.blk bk3 (.cells #[I 0, I 0] 27), .blk bk2 (.cells #[Value.slice none 0 0] 22)]) (H.pick (L' := [.blk bk13 (.cells #[S o7.1, I o7.2] 72), .blk bk3 (.cells #[I 0, I 0] 27), .blk bk2 (.cells #[Value.slice none 0 0] 22)]) (by repeat first | exact kPn | refine kPc (by repeat first | exact .head | apply Rem.tail) ?_)) (Y0p hx23) (.left (Spl.all _)) rfl ⟨hg_maxl, hg_tabs⟩ (Wn.none rfl) rfl ?_
        intro v19 M w its H hle hR
        replace hg_maxl := hg_maxl.mono hle
        replace hg_tabs := hg_tabs.mono hle
        replace hb5 := hb5.mono hle
        try dsimp only at hR
        obtain ⟨x19_0_2, rfl, f19_0_2, rfl⟩ := hR
        simp only [List.cons_append, List.nil_append] at H
        refine NA ?_
        refine WA.two (i := 0) (j := 3) (by kernel_rfl) rfl rfl ?_ ?_
        ·
         refine ST (Ex.load1 H rfl (by repeat first | exact kMh | apply kMt) Tryz.isAgg22 (by rfl)) rfl ?_
         refine NA (WA.seq (fuel := 0) [3, 4, 5] rfl (by kernel_rfl) ?_)
         obtain ⟨q26, rfl⟩ := f19_0_2.hd
         refine WR.litS (enc := xrl34.enc) xty22 ([(s19, b20, q26)] : List (List UInt8 × Bool × Hd)) H (fun _ => rfl) rfl (by kernel_rfl) rfl rfl rfl (Wn.none rfl) rfl ?_
         intro v20 M w H hle hs20
         replace hg_maxl := hg_maxl.mono hle
         replace hg_tabs := hg_tabs.mono hle
         replace hb5 := hb5.mono hle
         replace f19_0_2 := f19_0_2.mono hle
         replace hs20 := SlR.of (R := xrl34) (l := ([(s19, b20, l21)] : List (List UInt8 × Bool × List (List UInt8 × List UInt8 × List UInt8)))) hs20 ⟨⟨rfl, rfl, f19_0_2⟩, trivial⟩
         replace H := H.newRowS 34 xrl34.k xrl34.enc
         have hr28 : RelL xrl34 M [] [] := RelL.nil
         refine WR.appRC (R := xrl34) (l := []) xty22 rfl H hr28 rfl (fun _ => by repeat first | exact .head | apply Upd.tail) rfl (hs20) hxl29 (Wn.none rfl) rfl ?_
         intro v21 g21 w hr21 H
         refine WR.putV [_] H rfl rfl (H.rowOneS (by repeat first | exact kMh | apply kMt)) (by repeat first | exact .head | apply Upd.tail) (by rfl) Tryz.sizeOf22 (by first | decide | (simp; done) | (simp; omega)) (Wn.none rfl) ?_
         intro w H
         refine NA (WA.done (by kernel_rfl) ?_)
         exact WQ.meetP [(1, _), (2, _), (3, _), (4, _)] ⟨rfl, rfl, rfl, rfl, trivial⟩ ⟨_, _, _, rfl, (H.pick (L' := [.blk bk2 (.cells #[v21] 22), RowS 34 xrl34.k xrl34.enc v21 g21, .blk bk3 (.cells #[I 0, I 0] 27), .blk bk13 (.cells #[S o22.1, I o22.2] 72)]) (by repeat first | exact kPn | refine kPc (by repeat first | exact .head | apply Rem.tail) ?_)), hg_maxl, hg_tabs, hb5, hr21⟩
        ·
         obtain ⟨q26, rfl⟩ := f19_0_2.hd
         refine WR.litS (enc := xrl34.enc) xty22 ([(s19, b20, q26)] : List (List UInt8 × Bool × Hd)) H (fun _ => rfl) rfl (by kernel_rfl) rfl rfl rfl (Wn.none rfl) rfl ?_
         intro v20 M w H hle hs20
         replace hg_maxl := hg_maxl.mono hle
         replace hg_tabs := hg_tabs.mono hle
         replace hb5 := hb5.mono hle
         replace f19_0_2 := f19_0_2.mono hle
         replace hs20 := SlR.of (R := xrl34) (l := ([(s19, b20, l21)] : List (List UInt8 × Bool × List (List UInt8 × List UInt8 × List UInt8)))) hs20 ⟨⟨rfl, rfl, f19_0_2⟩, trivial⟩
         refine NA (WA.seq (fuel := 0) [0, 4, 5] rfl (by kernel_rfl) (ST (Ex.load1 H rfl (by repeat first | exact kMh | apply kMt) Tryz.isAgg22 (by rfl)) rfl ?_))
         replace H := H.newRowS 34 xrl34.k xrl34.enc
         have hr28 : RelL xrl34 M [] [] := RelL.nil
         refine WR.appRC (R := xrl34) (l := []) xty22 rfl H hr28 rfl (fun _ => by repeat first | exact .head | apply Upd.tail) rfl (hs20) hxl29 (Wn.none rfl) rfl ?_
         intro v21 g21 w hr21 H
         refine WR.putV [_] H rfl rfl (H.rowOneS (by repeat first | exact kMh | apply kMt)) (by repeat first | exact .head | apply Upd.tail) (by rfl) Tryz.sizeOf22 (by first | decide | (simp; done) | (simp; omega)) (Wn.none rfl) ?_
         intro w H
         refine NA (WA.done (by kernel_rfl) ?_)
         exact WQ.meetP [(1, _), (2, _), (3, _), (4, _)] ⟨rfl, rfl, rfl, rfl, trivial⟩ ⟨_, _, _, rfl, (H.pick (L' := [.blk bk2 (.cells #[v21] 22), RowS 34 xrl34.k xrl34.enc v21 g21, .blk bk3 (.cells #[I 0, I 0] 27), .blk bk13 (.cells #[S o22.1, I o22.2] 72)]) (by repeat first | exact kPn | refine kPc (by repeat first | exact .head | apply Rem.tail) ?_)), hg_maxl, hg_tabs, hb5, hr21⟩
      ·
       rintro e w ⟨v30, b31, M, rfl, H, hg_maxl, hg_tabs, hb5, hr32⟩
       refine TN (SQ ?_)
       obtain ⟨o33, e34, e12⟩ := bnd e12
       refine WC.cutX (fun e w => ∃ (l36 : List (List UInt8 × Bool × List (List UInt8 × List UInt8 × List UInt8))) (v37 : Value) (g38 : List (List UInt8 × Bool × Hd)) (s40 : List UInt8) (n41 : Int) (M : Mem), e = [(1, ptr bk1 0), (2, ptr bk2 0), (3, ptr bk3 0), (4, ptr bk13 0)] ∧ St w0 M0 M [.blk bk2 (.cells #[v37] 22), RowS 34 xrl34.k xrl34.enc v37 g38, .blk bk3 (.cells #[I 0, I 0] 27), .blk bk13 (.cells #[S s40, I n41] 72)] w ∧ GlF (fun w => ∃ m, w.cell? ⟨2, 0, none⟩ = some (.int .i64 m)) M ∧ Tabs M ∧ PtM M bk1 (.cells #[S p0] 9) ∧ RelL xrl34 M g38 l36 ∧ some (.inl (l36, s40, n41)) = some o33) [] ?_ ?_ (trivial)
       ·
        refine BL (WC.loopP (fun m e w => ∃ (l43 : List (List UInt8 × Bool × List (List UInt8 × List UInt8 × List UInt8))) (v44 : Value) (g45 : List (List UInt8 × Bool × Hd)) (s47 : List UInt8) (n48 : Int) (M : Mem), e = [(1, ptr bk1 0), (2, ptr bk2 0), (3, ptr bk3 0), (4, ptr bk13 0)] ∧ St w0 M0 M [.blk bk2 (.cells #[v44] 22), RowS 34 xrl34.k xrl34.enc v44 g45, .blk bk3 (.cells #[I 0, I 0] 27), .blk bk13 (.cells #[S s47, I n48] 72)] w ∧ GlF (fun w => ∃ m, w.cell? ⟨2, 0, none⟩ = some (.int .i64 m)) M ∧ Tabs M ∧ PtM M bk1 (.cells #[S p0] 9) ∧ RelL xrl34 M g45 l43 ∧ Y0X p0 m l43 s47 n48 = some o33) FU [(1, _), (2, _), (3, _), (4, _)] ⟨rfl, rfl, rfl, rfl, trivial⟩ ⟨_, _, _, _, _, _, rfl, H, hg_maxl, hg_tabs, hb5, hr32, e34⟩ ?_)
        rintro m49 e w ⟨l43, v44, g45, s47, n48, M, rfl, H, hg_maxl, hg_tabs, hb5, hs46, e34⟩
        rcases m49 with _ | m49
        · rw [Y0X] at e34; cases e34
        rw [Y0X] at e34
        refine SQ (SQ ?_)
        obtain ⟨o53, hx52, e34⟩ := bnd e34
        rcases o53 with ⟨b50, o51⟩ | n54
        ·
         try dsimp only at e34
         refine RG (MV rfl rfl ?_)
         refine WR.callX (A := [.blk bk13 (.cells #[S s47, I n48] 72)]) (B := [.blk bk2 (.cells #[v44] 22), RowS 34 xrl34.k xrl34.enc v44 g45, .blk bk3 (.cells #[I 0, I 0] 27)]) (H.pick (L' := [.blk bk13 (.cells #[S s47, I n48] 72), .blk bk2 (.cells #[v44] 22), RowS 34 xrl34.k xrl34.enc v44 g45, .blk bk3 (.cells #[I 0, I 0] 27)]) (by repeat first | exact kPn | refine kPc (by repeat first | exact .head | apply Rem.tail) ?_)) (Y0a hx52) (.left (Spl.all _)) rfl trivial (Wn.none rfl) rfl ?_
         intro v23 M w its H hle hR
         replace hg_maxl := hg_maxl.mono hle
         replace hg_tabs := hg_tabs.mono hle
         replace hs46 := hs46.mono hle
         replace hb5 := hb5.mono hle
         try dsimp only at hR
         obtain ⟨rfl, rfl⟩ := hR
         simp only [List.cons_append, List.nil_append] at H
         refine NL (TN ?_)
         refine WC.condB rfl (fun hk55 => ?_) (fun hk55 => ?_)
         ·
          subst hk55
          rw [if_pos rfl] at e34
          refine SK (TN (BL ?_))
          obtain ⟨o61, hx60, e34⟩ := bnd e34
          rcases o61 with ⟨⟨s56, b57, l58⟩, o59⟩ | n62
          ·
           try dsimp only at e34
           obtain ⟨l64, hxl64, e34⟩ := bnd e34
           refine WC.cutP (fun e w => ∃ (v65 : Value) (b66 : List (List UInt8 × Bool × Hd)) (M : Mem), e = [(1, ptr bk1 0), (2, ptr bk2 0), (3, ptr bk3 0), (4, ptr bk13 0)] ∧ St w0 M0 M [.blk bk2 (.cells #[v65] 22), RowS 34 xrl34.k xrl34.enc v65 b66, .blk bk3 (.cells #[I 0, I 0] 27), .blk bk13 (.cells #[S o59.1, I o59.2] 72)] w ∧ GlF (fun w => ∃ m, w.cell? ⟨2, 0, none⟩ = some (.int .i64 m)) M ∧ Tabs M ∧ PtM M bk1 (.cells #[S p0] 9) ∧ RelL xrl34 M b66 l64) ?_ ?_
           ·
            refine WC.draw (m := 6) rfl rfl H ?_
            intro w H
            refine WA.take (i := 1) rfl (by kernel_rfl) (by kernel_rfl) (by kernel_rfl) (fun _ => Ex.move rfl) (Wn.none rfl) rfl rfl (fun _ _ => rfl) ?_
            refine WA.two (i := 0) (j := 2) (by kernel_rfl) rfl rfl ?_ ?_
            ·
             refine ST (Ex.load1 H rfl (by repeat first | exact kMh | apply kMt) Tryz.isAgg22 (by rfl)) rfl ?_
             refine NA (WA.seq (fuel := 0) [2, 3, 4, 5] rfl (by kernel_rfl) ?_)
             refine WR.callX (A := [.blk bk13 (.cells #[S o51.1, I o51.2] 72)]) (B := [.blk bk2 (.cells #[v44] 22), RowS 34 xrl34.k xrl34.enc v44 g45, .blk bk3 (.cells #[I 0, I 0] 27)]) (H.pick (L' := [.blk bk13 (.cells #[S o51.1, I o51.2] 72), .blk bk2 (.cells #[v44] 22), RowS 34 xrl34.k xrl34.enc v44 g45, .blk bk3 (.cells #[I 0, I 0] 27)]) (by repeat first | exact kPn | refine kPc (by repeat first | exact .head | apply Rem.tail) ?_)) (Y0p hx60) (.left (Spl.all _)) rfl ⟨hg_maxl, hg_tabs⟩ (Wn.none rfl) rfl ?_
             intro v26 M w its H hle hR
             replace hg_maxl := hg_maxl.mono hle
             replace hg_tabs := hg_tabs.mono hle
             replace hs46 := hs46.mono hle
             replace hb5 := hb5.mono hle
             try dsimp only at hR
             obtain ⟨x26_0_2, rfl, f26_0_2, rfl⟩ := hR
             simp only [List.cons_append, List.nil_append] at H
             obtain ⟨q63, rfl⟩ := f26_0_2.hd
             refine WR.litS (enc := xrl34.enc) xty22 ([(s56, b57, q63)] : List (List UInt8 × Bool × Hd)) H (fun _ => rfl) rfl (by kernel_rfl) rfl rfl rfl (Wn.none rfl) rfl ?_
             intro v27 M w H hle hs27
             replace hg_maxl := hg_maxl.mono hle
             replace hg_tabs := hg_tabs.mono hle
             replace hs46 := hs46.mono hle
             replace hb5 := hb5.mono hle
             replace f26_0_2 := f26_0_2.mono hle
             replace hs27 := SlR.of (R := xrl34) (l := ([(s56, b57, l58)] : List (List UInt8 × Bool × List (List UInt8 × List UInt8 × List UInt8)))) hs27 ⟨⟨rfl, rfl, f26_0_2⟩, trivial⟩
             refine WR.appRC (R := xrl34) (l := l43) xty22 rfl H hs46 rfl (fun _ => by repeat first | exact .head | apply Upd.tail) rfl (hs27) hxl64 (Wn.none rfl) rfl ?_
             intro v28 g28 w hr28 H
             refine WR.putV [_] H rfl rfl (H.rowOneS (by repeat first | exact kMh | apply kMt)) (by repeat first | exact .head | apply Upd.tail) (by rfl) Tryz.sizeOf22 (by first | decide | (simp; done) | (simp; omega)) (Wn.none rfl) ?_
             intro w H
             refine NA (WA.done (by kernel_rfl) ?_)
             exact WQ.meetP [(1, _), (2, _), (3, _), (4, _)] ⟨rfl, rfl, rfl, rfl, trivial⟩ ⟨_, _, _, rfl, (H.pick (L' := [.blk bk2 (.cells #[v28] 22), RowS 34 xrl34.k xrl34.enc v28 g28, .blk bk3 (.cells #[I 0, I 0] 27), .blk bk13 (.cells #[S o59.1, I o59.2] 72)]) (by repeat first | exact kPn | refine kPc (by repeat first | exact .head | apply Rem.tail) ?_)), hg_maxl, hg_tabs, hb5, hr28⟩
            ·
             refine WR.callX (A := [.blk bk13 (.cells #[S o51.1, I o51.2] 72)]) (B := [.blk bk2 (.cells #[v44] 22), RowS 34 xrl34.k xrl34.enc v44 g45, .blk bk3 (.cells #[I 0, I 0] 27)]) (H.pick (L' := [.blk bk13 (.cells #[S o51.1, I o51.2] 72), .blk bk2 (.cells #[v44] 22), RowS 34 xrl34.k xrl34.enc v44 g45, .blk bk3 (.cells #[I 0, I 0] 27)]) (by repeat first | exact kPn | refine kPc (by repeat first | exact .head | apply Rem.tail) ?_)) (Y0p hx60) (.left (Spl.all _)) rfl ⟨hg_maxl, hg_tabs⟩ (Wn.none rfl) rfl ?_
             intro v26 M w its H hle hR
             replace hg_maxl := hg_maxl.mono hle
             replace hg_tabs := hg_tabs.mono hle
             replace hs46 := hs46.mono hle
             replace hb5 := hb5.mono hle
             try dsimp only at hR
             obtain ⟨x26_0_2, rfl, f26_0_2, rfl⟩ := hR
             simp only [List.cons_append, List.nil_append] at H
             refine NA ?_
             refine WA.two (i := 0) (j := 3) (by kernel_rfl) rfl rfl ?_ ?_
             ·
              refine ST (Ex.load1 H rfl (by repeat first | exact kMh | apply kMt) Tryz.isAgg22 (by rfl)) rfl ?_
              refine NA (WA.seq (fuel := 0) [3, 4, 5] rfl (by kernel_rfl) ?_)
              obtain ⟨q63, rfl⟩ := f26_0_2.hd
              refine WR.litS (enc := xrl34.enc) xty22 ([(s56, b57, q63)] : List (List UInt8 × Bool × Hd)) H (fun _ => rfl) rfl (by kernel_rfl) rfl rfl rfl (Wn.none rfl) rfl ?_
              intro v27 M w H hle hs27
              replace hg_maxl := hg_maxl.mono hle
              replace hg_tabs := hg_tabs.mono hle
              replace hs46 := hs46.mono hle
              replace hb5 := hb5.mono hle
              replace f26_0_2 := f26_0_2.mono hle
              replace hs27 := SlR.of (R := xrl34) (l := ([(s56, b57, l58)] : List (List UInt8 × Bool × List (List UInt8 × List UInt8 × List UInt8)))) hs27 ⟨⟨rfl, rfl, f26_0_2⟩, trivial⟩
              refine WR.appRC (R := xrl34) (l := l43) xty22 rfl H hs46 rfl (fun _ => by repeat first | exact .head | apply Upd.tail) rfl (hs27) hxl64 (Wn.none rfl) rfl ?_
              intro v28 g28 w hr28 H
              refine WR.putV [_] H rfl rfl (H.rowOneS (by repeat first | exact kMh | apply kMt)) (by repeat first | exact .head | apply Upd.tail) (by rfl) Tryz.sizeOf22 (by first | decide | (simp; done) | (simp; omega)) (Wn.none rfl) ?_
              intro w H
              refine NA (WA.done (by kernel_rfl) ?_)
              exact WQ.meetP [(1, _), (2, _), (3, _), (4, _)] ⟨rfl, rfl, rfl, rfl, trivial⟩ ⟨_, _, _, rfl, (H.pick (L' := [.blk bk2 (.cells #[v28] 22), RowS 34 xrl34.k xrl34.enc v28 g28, .blk bk3 (.cells #[I 0, I 0] 27), .blk bk13 (.cells #[S o59.1, I o59.2] 72)]) (by repeat first | exact kPn | refine kPc (by repeat first | exact .head | apply Rem.tail) ?_)), hg_maxl, hg_tabs, hb5, hr28⟩
             ·
              obtain ⟨q63, rfl⟩ := f26_0_2.hd
              refine WR.litS (enc := xrl34.enc) xty22 ([(s56, b57, q63)] : List (List UInt8 × Bool × Hd)) H (fun _ => rfl) rfl (by kernel_rfl) rfl rfl rfl (Wn.none rfl) rfl ?_
              intro v27 M w H hle hs27
              replace hg_maxl := hg_maxl.mono hle
              replace hg_tabs := hg_tabs.mono hle
              replace hs46 := hs46.mono hle
              replace hb5 := hb5.mono hle
              replace f26_0_2 := f26_0_2.mono hle
              replace hs27 := SlR.of (R := xrl34) (l := ([(s56, b57, l58)] : List (List UInt8 × Bool × List (List UInt8 × List UInt8 × List UInt8)))) hs27 ⟨⟨rfl, rfl, f26_0_2⟩, trivial⟩
              refine NA (WA.seq (fuel := 0) [0, 4, 5] rfl (by kernel_rfl) (ST (Ex.load1 H rfl (by repeat first | exact kMh | apply kMt) Tryz.isAgg22 (by rfl)) rfl ?_))
              refine WR.appRC (R := xrl34) (l := l43) xty22 rfl H hs46 rfl (fun _ => by repeat first | exact .head | apply Upd.tail) rfl (hs27) hxl64 (Wn.none rfl) rfl ?_
              intro v28 g28 w hr28 H
              refine WR.putV [_] H rfl rfl (H.rowOneS (by repeat first | exact kMh | apply kMt)) (by repeat first | exact .head | apply Upd.tail) (by rfl) Tryz.sizeOf22 (by first | decide | (simp; done) | (simp; omega)) (Wn.none rfl) ?_
              intro w H
              refine NA (WA.done (by kernel_rfl) ?_)
              exact WQ.meetP [(1, _), (2, _), (3, _), (4, _)] ⟨rfl, rfl, rfl, rfl, trivial⟩ ⟨_, _, _, rfl, (H.pick (L' := [.blk bk2 (.cells #[v28] 22), RowS 34 xrl34.k xrl34.enc v28 g28, .blk bk3 (.cells #[I 0, I 0] 27), .blk bk13 (.cells #[S o59.1, I o59.2] 72)]) (by repeat first | exact kPn | refine kPc (by repeat first | exact .head | apply Rem.tail) ?_)), hg_maxl, hg_tabs, hb5, hr28⟩
           ·
            rintro e w ⟨v65, b66, M, rfl, H, hg_maxl, hg_tabs, hb5, hr67⟩
            refine IB ?_
            exact WQ.againP m49 [(1, _), (2, _), (3, _), (4, _)] ⟨rfl, rfl, rfl, rfl, trivial⟩ ⟨_, _, _, _, _, _, rfl, H, hg_maxl, hg_tabs, hb5, hr67, e34⟩ (Nat.lt_succ_self _)
          ·
           try dsimp only at e34
           obtain rfl := oI e34
           try dsimp only at e12
           obtain rfl := oI e12
           try dsimp only at h
           obtain rfl := oI h
           refine WC.draw (m := 6) rfl rfl H ?_
           intro w H
           refine WA.take (i := 1) rfl (by kernel_rfl) (by kernel_rfl) (by kernel_rfl) (fun _ => Ex.move rfl) (Wn.none rfl) rfl rfl (fun _ _ => rfl) ?_
           refine WA.two (i := 0) (j := 2) (by kernel_rfl) rfl rfl ?_ ?_
           ·
            refine ST (Ex.load1 H rfl (by repeat first | exact kMh | apply kMt) Tryz.isAgg22 (by rfl)) rfl ?_
            refine NA (ON 2 (by kernel_rfl) rfl ?_)
            refine WR.callPan (A := [.blk bk13 (.cells #[S o51.1, I o51.2] 72)]) (B := [.blk bk2 (.cells #[v44] 22), RowS 34 xrl34.k xrl34.enc v44 g45, .blk bk3 (.cells #[I 0, I 0] 27)]) (H.pick (L' := [.blk bk13 (.cells #[S o51.1, I o51.2] 72), .blk bk2 (.cells #[v44] 22), RowS 34 xrl34.k xrl34.enc v44 g45, .blk bk3 (.cells #[I 0, I 0] 27)]) (by repeat first | exact kPn | refine kPc (by repeat first | exact .head | apply Rem.tail) ?_)) (Y0p hx60) (.left (Spl.all _)) rfl ⟨hg_maxl, hg_tabs⟩ (Wn.none rfl) ?_
            intro M w H hle
            refine WQ.pAny (e' := [(2, ptr bk2 0), (3, ptr bk3 0)]) ⟨rfl, rfl, trivial⟩ (by kernel_rfl) ?_
            (repeat (first | refine WQ.pThen ?_ | refine WQ.pIn ?_ | refine WQ.pCut ?_ | refine WQ.pSc ?_))
            exact parse_pan (s := p0) (n := n62) H (by repeat first | exact kPn | refine kPc (by repeat first | exact .head | apply Rem.tail) ?_) (hb5.mono hle) rfl rfl (fun M => ⟨_, rfl, SlR.nil⟩)
           ·
            refine WR.callPan (A := [.blk bk13 (.cells #[S o51.1, I o51.2] 72)]) (B := [.blk bk2 (.cells #[v44] 22), RowS 34 xrl34.k xrl34.enc v44 g45, .blk bk3 (.cells #[I 0, I 0] 27)]) (H.pick (L' := [.blk bk13 (.cells #[S o51.1, I o51.2] 72), .blk bk2 (.cells #[v44] 22), RowS 34 xrl34.k xrl34.enc v44 g45, .blk bk3 (.cells #[I 0, I 0] 27)]) (by repeat first | exact kPn | refine kPc (by repeat first | exact .head | apply Rem.tail) ?_)) (Y0p hx60) (.left (Spl.all _)) rfl ⟨hg_maxl, hg_tabs⟩ (Wn.none rfl) ?_
            intro M w H hle
            refine WQ.pAny (e' := [(2, ptr bk2 0), (3, ptr bk3 0)]) ⟨rfl, rfl, trivial⟩ (by kernel_rfl) ?_
            (repeat (first | refine WQ.pThen ?_ | refine WQ.pIn ?_ | refine WQ.pCut ?_ | refine WQ.pSc ?_))
            exact parse_pan (s := p0) (n := n62) H (by repeat first | exact kPn | refine kPc (by repeat first | exact .head | apply Rem.tail) ?_) (hb5.mono hle) rfl rfl (fun M => ⟨_, rfl, SlR.nil⟩)
         ·
          subst hk55
          rw [if_neg Bool.false_ne_true] at e34
          refine WC.exit (WQ.thenExit (WQ.thenExit (WQ.exitHere ?_)))
          exact WQ.meetN [(1, _), (2, _), (3, _), (4, _)] ⟨rfl, rfl, rfl, rfl, trivial⟩ ⟨_, _, _, _, _, _, rfl, (H.pick (L' := [.blk bk2 (.cells #[v44] 22), RowS 34 xrl34.k xrl34.enc v44 g45, .blk bk3 (.cells #[I 0, I 0] 27), .blk bk13 (.cells #[S o51.1, I o51.2] 72)]) (by repeat first | exact kPn | refine kPc (by repeat first | exact .head | apply Rem.tail) ?_)), hg_maxl, hg_tabs, hb5, hs46, e34⟩
        ·
         try dsimp only at e34
         obtain rfl := oI e34
         try dsimp only at e12
         obtain rfl := oI e12
         try dsimp only at h
         obtain rfl := oI h
         refine RG (MV rfl rfl ?_)
         refine WR.callPan (A := [.blk bk13 (.cells #[S s47, I n48] 72)]) (B := [.blk bk2 (.cells #[v44] 22), RowS 34 xrl34.k xrl34.enc v44 g45, .blk bk3 (.cells #[I 0, I 0] 27)]) (H.pick (L' := [.blk bk13 (.cells #[S s47, I n48] 72), .blk bk2 (.cells #[v44] 22), RowS 34 xrl34.k xrl34.enc v44 g45, .blk bk3 (.cells #[I 0, I 0] 27)]) (by repeat first | exact kPn | refine kPc (by repeat first | exact .head | apply Rem.tail) ?_)) (Y0a hx52) (.left (Spl.all _)) rfl trivial (Wn.none rfl) ?_
         intro M w H hle
         (repeat (first | refine WQ.pThen ?_ | refine WQ.pIn ?_ | refine WQ.pCut ?_ | refine WQ.pSc ?_))
         exact parse_pan (s := p0) (n := n54) H (by repeat first | exact kPn | refine kPc (by repeat first | exact .head | apply Rem.tail) ?_) (hb5.mono hle) rfl rfl (fun M => ⟨_, rfl, SlR.nil⟩)
       ·
        rintro e w ⟨l36, v37, g38, s40, n41, M, rfl, H, hg_maxl, hg_tabs, hb5, hs39, q68⟩
        obtain rfl := oI q68
        try dsimp only at e12
        refine TN (SQ ?_)
        obtain ⟨o72, hx71, e12⟩ := bnd e12
        rcases o72 with ⟨n69, o70⟩ | n73
        ·
         try dsimp only at e12
         refine RG (MV rfl rfl ?_)
         refine WR.callX (A := [.blk bk13 (.cells #[S s40, I n41] 72)]) (B := [.blk bk2 (.cells #[v37] 22), RowS 34 xrl34.k xrl34.enc v37 g38, .blk bk3 (.cells #[I 0, I 0] 27)]) (H.pick (L' := [.blk bk13 (.cells #[S s40, I n41] 72), .blk bk2 (.cells #[v37] 22), RowS 34 xrl34.k xrl34.enc v37 g38, .blk bk3 (.cells #[I 0, I 0] 27)]) (by repeat first | exact kPn | refine kPc (by repeat first | exact .head | apply Rem.tail) ?_)) (Y0o hx71) (.left (Spl.all _)) rfl trivial (Wn.none rfl) rfl ?_
         intro v30 M w its H hle hR
         replace hg_maxl := hg_maxl.mono hle
         replace hg_tabs := hg_tabs.mono hle
         replace hs39 := hs39.mono hle
         replace hb5 := hb5.mono hle
         try dsimp only at hR
         obtain ⟨rfl, rfl⟩ := hR
         simp only [List.cons_append, List.nil_append] at H
         refine ST (Ex.neqAnyNil Tryz.underlying20 rfl) rfl (NL (TN ?_))
         refine WC.condB rfl (fun hk74 => ?_) (fun hk74 => ?_)
         ·
          replace hk74 : ¬ (n69 = none) := of_not_decide hk74
          rw [if_neg hk74] at e12
          obtain ⟨o77, hx76, e12⟩ := bnd e12
          rcases o77 with o75 | n78
          ·
           try dsimp only at e12
           refine RG (MV rfl rfl ?_)
           refine WR.callX (A := [.blk bk13 (.cells #[S o70.1, I o70.2] 72)]) (B := [.blk bk2 (.cells #[v37] 22), RowS 34 xrl34.k xrl34.enc v37 g38, .blk bk3 (.cells #[I 0, I 0] 27)]) (H.pick (L' := [.blk bk13 (.cells #[S o70.1, I o70.2] 72), .blk bk2 (.cells #[v37] 22), RowS 34 xrl34.k xrl34.enc v37 g38, .blk bk3 (.cells #[I 0, I 0] 27)]) (by repeat first | exact kPn | refine kPc (by repeat first | exact .head | apply Rem.tail) ?_)) (Y03 hx76) (.left (Spl.all _)) rfl trivial (Wn.none rfl) rfl ?_
           intro v33 M w its H hle hR
           replace hg_maxl := hg_maxl.mono hle
           replace hg_tabs := hg_tabs.mono hle
           replace hs39 := hs39.mono hle
           replace hb5 := hb5.mono hle
           try dsimp only at hR
           obtain ⟨rfl, rfl⟩ := hR
           simp only [List.cons_append, List.nil_append] at H
           refine NL ?_
           exact WQ.meetN [(1, _), (2, _), (3, _)] ⟨rfl, rfl, rfl, trivial⟩ ⟨_, _, _, _, rfl, (H.pick (L' := [.blk bk2 (.cells #[v37] 22), RowS 34 xrl34.k xrl34.enc v37 g38, .blk bk3 (.cells #[I 0, I 0] 27)]) (by repeat first | exact kPn | refine kPc (by repeat first | exact .head | apply Rem.tail) ?_)), hg_maxl, hg_tabs, hb5, hs39, e12⟩
          ·
           try dsimp only at e12
           obtain rfl := oI e12
           try dsimp only at h
           obtain rfl := oI h
           refine RG (MV rfl rfl ?_)
           refine WR.callPan (A := [.blk bk13 (.cells #[S o70.1, I o70.2] 72)]) (B := [.blk bk2 (.cells #[v37] 22), RowS 34 xrl34.k xrl34.enc v37 g38, .blk bk3 (.cells #[I 0, I 0] 27)]) (H.pick (L' := [.blk bk13 (.cells #[S o70.1, I o70.2] 72), .blk bk2 (.cells #[v37] 22), RowS 34 xrl34.k xrl34.enc v37 g38, .blk bk3 (.cells #[I 0, I 0] 27)]) (by repeat first | exact kPn | refine kPc (by repeat first | exact .head | apply Rem.tail) ?_)) (Y03 hx76) (.left (Spl.all _)) rfl trivial (Wn.none rfl) ?_
           intro M w H hle
           (repeat (first | refine WQ.pThen ?_ | refine WQ.pIn ?_ | refine WQ.pCut ?_ | refine WQ.pSc ?_))
           exact parse_pan (s := p0) (n := n78) H (by repeat first | exact kPn | refine kPc (by repeat first | exact .head | apply Rem.tail) ?_) (hb5.mono hle) rfl rfl (fun M => ⟨_, rfl, SlR.nil⟩)
         ·
          replace hk74 : n69 = none := of_not_decide' hk74
          rw [if_pos hk74] at e12
          refine SK ?_
          exact WQ.meetN [(1, _), (2, _), (3, _)] ⟨rfl, rfl, rfl, trivial⟩ ⟨_, _, _, _, rfl, (H.pick (L' := [.blk bk2 (.cells #[v37] 22), RowS 34 xrl34.k xrl34.enc v37 g38, .blk bk3 (.cells #[I 0, I 0] 27)]) (by repeat first | exact kPn | refine kPc (by repeat first | exact .head | apply Rem.tail) ?_)), hg_maxl, hg_tabs, hb5, hs39, e12⟩
        ·
         try dsimp only at e12
         obtain rfl := oI e12
         try dsimp only at h
         obtain rfl := oI h
         refine RG (MV rfl rfl ?_)
         refine WR.callPan (A := [.blk bk13 (.cells #[S s40, I n41] 72)]) (B := [.blk bk2 (.cells #[v37] 22), RowS 34 xrl34.k xrl34.enc v37 g38, .blk bk3 (.cells #[I 0, I 0] 27)]) (H.pick (L' := [.blk bk13 (.cells #[S s40, I n41] 72), .blk bk2 (.cells #[v37] 22), RowS 34 xrl34.k xrl34.enc v37 g38, .blk bk3 (.cells #[I 0, I 0] 27)]) (by repeat first | exact kPn | refine kPc (by repeat first | exact .head | apply Rem.tail) ?_)) (Y0o hx71) (.left (Spl.all _)) rfl trivial (Wn.none rfl) ?_
         intro M w H hle
         (repeat (first | refine WQ.pThen ?_ | refine WQ.pIn ?_ | refine WQ.pCut ?_ | refine WQ.pSc ?_))
         exact parse_pan (s := p0) (n := n73) H (by repeat first | exact kPn | refine kPc (by repeat first | exact .head | apply Rem.tail) ?_) (hb5.mono hle) rfl rfl (fun M => ⟨_, rfl, SlR.nil⟩)
     ·
      try dsimp only at e12
      obtain rfl := oI e12
      try dsimp only at h
      obtain rfl := oI h
      refine WC.draw (m := 6) rfl rfl H ?_
      intro w H
      refine WA.take (i := 1) rfl (by kernel_rfl) (by kernel_rfl) (by kernel_rfl) (fun _ => Ex.move rfl) (Wn.none rfl) rfl rfl (fun _ _ => rfl) ?_
      refine WA.two (i := 0) (j := 2) (by kernel_rfl) rfl rfl ?_ ?_
      ·
       refine ST (Ex.load1 H rfl (by repeat first | exact kMh | apply kMt) Tryz.isAgg22 (by rfl)) rfl ?_
       refine NA (ON 2 (by kernel_rfl) rfl ?_)
       refine WR.callPan (A := [.blk bk13 (.cells #[S o7.1, I o7.2] 72)]) (B := [.blk bk3 (.cells #[I 0, I 0] 27), .blk bk2 (.cells #[Value.slice none 0 0] 22)]) (H.pick (L' := [.blk bk13 (.cells #[S o7.1, I o7.2] 72), .blk bk3 (.cells #[I 0, I 0] 27), .blk bk2 (.cells #[Value.slice none 0 0] 22)]) (by repeat first | exact kPn | refine kPc (by repeat first | exact .head | apply Rem.tail) ?_)) (Y0p hx23) (.left (Spl.all _)) rfl ⟨hg_maxl, hg_tabs⟩ (Wn.none rfl) ?_
       intro M w H hle
       refine WQ.pAny (e' := [(2, ptr bk2 0), (3, ptr bk3 0)]) ⟨rfl, rfl, trivial⟩ (by kernel_rfl) ?_
       (repeat (first | refine WQ.pThen ?_ | refine WQ.pIn ?_ | refine WQ.pCut ?_ | refine WQ.pSc ?_))
       exact parse_pan (s := p0) (n := n25) H (by repeat first | exact kPn | refine kPc (by repeat first | exact .head | apply Rem.tail) ?_) (hb5.mono hle) rfl rfl (fun M => ⟨_, rfl, SlR.nil⟩)
      ·
       refine WR.callPan (A := [.blk bk13 (.cells #[S o7.1, I o7.2] 72)]) (B := [.blk bk3 (.cells #[I 0, I 0] 27), .blk bk2 (.cells #[Value.slice none 0 0] 22)]) (H.pick (L' := [.blk bk13 (.cells #[S o7.1, I o7.2] 72), .blk bk3 (.cells #[I 0, I 0] 27), .blk bk2 (.cells #[Value.slice none 0 0] 22)]) (by repeat first | exact kPn | refine kPc (by repeat first | exact .head | apply Rem.tail) ?_)) (Y0p hx23) (.left (Spl.all _)) rfl ⟨hg_maxl, hg_tabs⟩ (Wn.none rfl) ?_
       intro M w H hle
       refine WQ.pAny (e' := [(2, ptr bk2 0), (3, ptr bk3 0)]) ⟨rfl, rfl, trivial⟩ (by kernel_rfl) ?_
       (repeat (first | refine WQ.pThen ?_ | refine WQ.pIn ?_ | refine WQ.pCut ?_ | refine WQ.pSc ?_))
       exact parse_pan (s := p0) (n := n25) H (by repeat first | exact kPn | refine kPc (by repeat first | exact .head | apply Rem.tail) ?_) (hb5.mono hle) rfl rfl (fun M => ⟨_, rfl, SlR.nil⟩)
    ·
     replace hk18 : n6 = none := of_not_decide' hk18
     rw [if_pos hk18] at e12
     refine SK ?_
     replace H := H.newRowS 34 xrl34.k xrl34.enc
     have hr82 : RelL xrl34 M [] [] := RelL.nil
     exact WQ.meetN [(1, _), (2, _), (3, _)] ⟨rfl, rfl, rfl, trivial⟩ ⟨_, _, _, _, rfl, (H.pick (L' := [.blk bk2 (.cells #[(Value.slice none 0 0)] 22), RowS 34 xrl34.k xrl34.enc (Value.slice none 0 0) ([] : List (List UInt8 × Bool × Hd)), .blk bk3 (.cells #[I 0, I 0] 27)]) (by repeat first | exact kPn | refine kPc (by repeat first | exact .head | apply Rem.tail) ?_)), hg_maxl, hg_tabs, hb5, hr82, e12⟩
   ·
    rintro e w ⟨l14, v15, g16, M, rfl, H, hg_maxl, hg_tabs, hb5, hs17, q83⟩
    obtain rfl := oI q83
    try dsimp only at h
    refine TN (SQ (SQ ?_))
    obtain ⟨⟨n85, n86⟩, hx87, h⟩ := bnd h
    try dsimp only at h
    refine RG (ST (Ex.load1 H rfl (by repeat first | exact kMh | apply kMt) Tryz.isAgg22 (by rfl)) rfl ?_)
    obtain ⟨M, hle, hs84, H⟩ := H.freezeRowS (v := v15) (enc := xrl34.enc) (t := 34) (by repeat first | exact .head | apply Rem.tail) (fun _ => rfl)
    replace hg_maxl := hg_maxl.mono hle
    replace hg_tabs := hg_tabs.mono hle
    replace hs17 := hs17.mono hle
    replace hb5 := hb5.mono hle
    replace hs84 := SlR.of (R := xrl34) hs84 hs17
    refine WR.call H (Y1X hx87) rfl ⟨hg_maxl, hg_tabs, hs84⟩ (Wn.none rfl) rfl ?_
    intro v35 M w H hle hR
    replace hg_maxl := hg_maxl.mono hle
    replace hg_tabs := hg_tabs.mono hle
    replace hs17 := hs17.mono hle
    replace hb5 := hb5.mono hle
    replace hs84 := hs84.mono hle
    try dsimp only at hR
    obtain rfl := hR
    refine WR.alloc [_, _] H Tryz.zeroValue27 rfl (Wn.none rfl) rfl ?_
    intro bk5 w H
    refine WR.store [_, _] H rfl rfl rfl (by repeat first | exact .head | apply Upd.tail) Tryz.sizeOf27 rfl (by rfl) (by rfl) (Wn.none rfl) ?_
    intro w H
    refine NL (TN (SQ ?_))
    obtain ⟨b88, hx89, h⟩ := bnd h
    refine RG (ST (Ex.loadAgg H rfl (by repeat first | exact kMh | apply kMt) Tryz.isAgg27 Tryz.sizeOf27 (by rfl)) rfl ?_)
    refine WR.call H (Y1O hx89) rfl trivial (Wn.none rfl) rfl ?_
    intro v37 M w H hle hR
    replace hg_maxl := hg_maxl.mono hle
    replace hg_tabs := hg_tabs.mono hle
    replace hs84 := hs84.mono hle
    replace hb5 := hb5.mono hle
    obtain rfl := hR
    refine NL (TN ?_)
    refine WC.condB rfl (fun hk90 => ?_) (fun hk90 => ?_)
    ·
     subst hk90
     rw [if_pos rfl] at h
     refine SQ ?_
     obtain ⟨⟨n91, n92⟩, hx93, h⟩ := bnd h
     try dsimp only at h
     refine RG (ST (Ex.fieldAddr Tryz.underlying27 rfl Tryz.sizeOf3 (by decide) rfl) rfl (ST (Ex.load1 H rfl (by repeat first | exact kMh | apply kMt) Tryz.isAgg3 (by rfl)) rfl ?_))
     refine WR.call H (Y0D hx93) rfl trivial (Wn.none rfl) rfl ?_
     intro v40 M w H hle hR
     replace hg_maxl := hg_maxl.mono hle
     replace hg_tabs := hg_tabs.mono hle
     replace hs84 := hs84.mono hle
     replace hb5 := hb5.mono hle
     try dsimp only at hR
     obtain rfl := hR
     refine WR.putV [_] H rfl rfl (One.slice _ _ _) (by repeat first | exact .head | apply Upd.tail) (by rfl) Tryz.sizeOf22 (by first | decide | (simp; done) | (simp; omega)) (Wn.none rfl) ?_
     intro w H
     refine WR.store [_, _] H rfl rfl rfl (by repeat first | exact .head | apply Upd.tail) Tryz.sizeOf27 rfl (by rfl) (by rfl) (Wn.none rfl) ?_
     intro w H
     refine NL (TN (RT ?_))
     obtain rfl := oI h
     exact WQ.dretD2 rfl ⟨_, rfl, H.load1 (by repeat first | exact kMh | apply kMt) Tryz.isAgg22 (by rfl)⟩ ⟨_, rfl, H.loadAgg (by repeat first | exact kMh | apply kMt) Tryz.isAgg27 Tryz.sizeOf27 (by rfl)⟩ H.ext (fun _ hK => parse_ret hK) (⟨_, rfl, SlR.nil⟩)
    ·
     subst hk90
     rw [if_neg Bool.false_ne_true] at h
     refine SK (TN (SQ ?_))
     obtain ⟨⟨n94, n95⟩, hx96, h⟩ := bnd h
     try dsimp only at h
     refine WC.cutP (fun e w => ∃  (M : Mem), e = [(1, ptr bk1 0), (2, ptr bk2 0), (3, ptr bk3 0)] ∧ St w0 M0 M [.blk bk2 (.cells #[v15] 22), .blk bk3 (.cells #[I n94, I n95] 27)] w ∧ GlF (fun w => ∃ m, w.cell? ⟨2, 0, none⟩ = some (.int .i64 m)) M ∧ Tabs M ∧ PtM M bk1 (.cells #[S p0] 9) ∧ SlR xrl34 M v15 l14) ?_ ?_
     ·
      refine WC.draw (m := 4) rfl rfl H ?_
      intro w H
      refine WA.two (i := 0) (j := 1) (by kernel_rfl) rfl rfl ?_ ?_
      ·
       refine ST (Ex.load1 H rfl (by repeat first | exact kMh | apply kMt) Tryz.isAgg22 (by rfl)) rfl ?_
       refine NA (WA.seq (fuel := 0) [1, 2, 3] rfl (by kernel_rfl) (WR.call H (Y1m hx96) rfl trivial (Wn.none rfl) rfl ?_))
       intro v42 M w H hle hR
       replace hg_maxl := hg_maxl.mono hle
       replace hg_tabs := hg_tabs.mono hle
       replace hs84 := hs84.mono hle
       replace hb5 := hb5.mono hle
       try dsimp only at hR
       obtain rfl := hR
       refine WR.putV [_] H rfl rfl (hs84.one) (by repeat first | exact .head | apply Upd.tail) (by rfl) Tryz.sizeOf22 (by first | decide | (simp; done) | (simp; omega)) (Wn.none rfl) ?_
       intro w H
       refine WR.store [_, _] H rfl rfl rfl (by repeat first | exact .head | apply Upd.tail) Tryz.sizeOf27 rfl (by rfl) (by rfl) (Wn.none rfl) ?_
       intro w H
       refine NA (WA.done (by kernel_rfl) ?_)
       exact WQ.meetP [(1, _), (2, _), (3, _)] ⟨rfl, rfl, rfl, trivial⟩ ⟨_, rfl, (H.pick (L' := [.blk bk2 (.cells #[v15] 22), .blk bk3 (.cells #[I n94, I n95] 27)]) (by repeat first | exact kPn | refine kPc (by repeat first | exact .head | apply Rem.tail) ?_)), hg_maxl, hg_tabs, hb5, hs84⟩
      ·
       refine WR.call H (Y1m hx96) rfl trivial (Wn.none rfl) rfl ?_
       intro v42 M w H hle hR
       replace hg_maxl := hg_maxl.mono hle
       replace hg_tabs := hg_tabs.mono hle
       replace hs84 := hs84.mono hle
       replace hb5 := hb5.mono hle
       try dsimp only at hR
       obtain rfl := hR
       refine NA (WA.seq (fuel := 0) [0, 2, 3] rfl (by kernel_rfl) (ST (Ex.load1 H rfl (by repeat first | exact kMh | apply kMt) Tryz.isAgg22 (by rfl)) rfl ?_))
       refine WR.putV [_] H rfl rfl (hs84.one) (by repeat first | exact .head | apply Upd.tail) (by rfl) Tryz.sizeOf22 (by first | decide | (simp; done) | (simp; omega)) (Wn.none rfl) ?_
       intro w H
       refine WR.store [_, _] H rfl rfl rfl (by repeat first | exact .head | apply Upd.tail) Tryz.sizeOf27 rfl (by rfl) (by rfl) (Wn.none rfl) ?_
       intro w H
       refine NA (WA.done (by kernel_rfl) ?_)
       exact WQ.meetP [(1, _), (2, _), (3, _)] ⟨rfl, rfl, rfl, trivial⟩ ⟨_, rfl, (H.pick (L' := [.blk bk2 (.cells #[v15] 22), .blk bk3 (.cells #[I n94, I n95] 27)]) (by repeat first | exact kPn | refine kPc (by repeat first | exact .head | apply Rem.tail) ?_)), hg_maxl, hg_tabs, hb5, hs84⟩
     ·
      rintro e w ⟨M, rfl, H, hg_maxl, hg_tabs, hb5, hs84⟩
      refine TN (RT ?_)
      obtain rfl := oI h
      exact WQ.dretD2 rfl ⟨_, rfl, H.load1 (by repeat first | exact kMh | apply kMt) Tryz.isAgg22 (by rfl)⟩ ⟨_, rfl, H.loadAgg (by repeat first | exact kMh | apply kMt) Tryz.isAgg27 Tryz.sizeOf27 (by rfl)⟩ H.ext (fun _ hK => parse_ret hK) (⟨_, rfl, hs84⟩)
  ·
   try dsimp only at h
   obtain rfl := oI h
   refine RG (MV rfl rfl ?_)
   refine WR.callPan (A := [.blk bk13 (.cells #[S p0, I 0] 72)]) (B := [.blk bk3 (.cells #[I 0, I 0] 27), .blk bk2 (.cells #[Value.slice none 0 0] 22)]) (H.pick (L' := [.blk bk13 (.cells #[S p0, I 0] 72), .blk bk3 (.cells #[I 0, I 0] 27), .blk bk2 (.cells #[Value.slice none 0 0] 22)]) (by repeat first | exact kPn | refine kPc (by repeat first | exact .head | apply Rem.tail) ?_)) (Y0o hx8) (.left (Spl.all _)) rfl trivial (Wn.none rfl) ?_
   intro M w H hle
   (repeat (first | refine WQ.pThen ?_ | refine WQ.pIn ?_ | refine WQ.pCut ?_ | refine WQ.pSc ?_))
   exact parse_pan (s := p0) (n := n10) H (by repeat first | exact kPn | refine kPc (by repeat first | exact .head | apply Rem.tail) ?_) (hb5.mono hle) rfl rfl (fun M => ⟨_, rfl, SlR.nil⟩)
theorem Y3x {p0 : (List UInt8 × List UInt8 × List UInt8)} {r : (List UInt8 × (Int × Int))} (h : Y2k p0 = some r) : Ct Tryz.prog 23 [Value.agg #[S p0.1, S p0.2.1, S p0.2.2]] (fun M => GlF (fun w => ∃ m, w.cell? ⟨2, 0, none⟩ = some (.int .i64 m)) M ∧ Tabs M) (fun v M => v = Value.tuple #[S r.1, Value.agg #[I r.2.1, I r.2.2]]) := by
 refine Ct.of Tryz.func23 (enters Tryz.func23 (by kernel_rfl) rfl) rfl rfl rfl ?_
 intro w0 M0 H hp
 obtain ⟨hg_maxl, hg_tabs⟩ := hp
 unfold Y2k at h
 refine SQ (RG (WR.box [_, _, _] H rfl rfl (Wn.none rfl) rfl ?_))
 intro bk1 w H
 refine AS rfl rfl (WR.alloc [_, _] H Tryz.zeroValue27 rfl (Wn.none rfl) rfl ?_)
 intro bk3 w H
 refine NL (TN (SQ (SQ ?_)))
 obtain ⟨⟨n1, n2⟩, hx3, h⟩ := bnd h
 try dsimp only at h
 refine RG (ST (Ex.loadAgg H rfl (by repeat first | exact kMh | apply kMt) Tryz.isAgg24 Tryz.sizeOf24 (by rfl)) rfl ?_)
 refine WR.call H (Y16 hx3) rfl ⟨hg_maxl, hg_tabs⟩ (Wn.none rfl) rfl ?_
 intro v6 M w H hle hR
 replace hg_maxl := hg_maxl.mono hle
 replace hg_tabs := hg_tabs.mono hle
 try dsimp only at hR
 obtain rfl := hR
 refine WR.alloc [_, _] H Tryz.zeroValue27 rfl (Wn.none rfl) rfl ?_
 intro bk4 w H
 refine WR.store [_, _] H rfl rfl rfl (by repeat first | exact .head | apply Upd.tail) Tryz.sizeOf27 rfl (by rfl) (by rfl) (Wn.none rfl) ?_
 intro w H
 refine NL (TN (SQ ?_))
 obtain ⟨b4, hx5, h⟩ := bnd h
 refine RG (ST (Ex.loadAgg H rfl (by repeat first | exact kMh | apply kMt) Tryz.isAgg27 Tryz.sizeOf27 (by rfl)) rfl ?_)
 refine WR.call H (Y1O hx5) rfl trivial (Wn.none rfl) rfl ?_
 intro v8 M w H hle hR
 replace hg_maxl := hg_maxl.mono hle
 replace hg_tabs := hg_tabs.mono hle
 obtain rfl := hR
 refine NL (TN ?_)
 refine WC.condB rfl (fun hk6 => ?_) (fun hk6 => ?_)
 ·
  subst hk6
  rw [if_pos rfl] at h
  refine SQ (WC.draw (m := 3) rfl rfl H ?_)
  intro w H
  refine WA.take (i := 1) rfl (by kernel_rfl) (by kernel_rfl) (by kernel_rfl) (fun _ => Ex.assign rfl) (Wn.none rfl) rfl rfl (fun _ _ => rfl) (WA.seq (fuel := 0) [0, 2] rfl (by kernel_rfl) (ST (Ex.loadAgg H rfl (by repeat first | exact kMh | apply kMt) Tryz.isAgg27 Tryz.sizeOf27 (by rfl)) rfl ?_))
  refine WR.store [_, _] H rfl rfl rfl (by repeat first | exact .head | apply Upd.tail) Tryz.sizeOf27 rfl (by rfl) (by rfl) (Wn.none rfl) ?_
  intro w H
  refine NA (WA.done (by kernel_rfl) (TN (RT ?_)))
  obtain rfl := oI h
  exact WQ.ret2 rfl rfl ⟨_, rfl, H.loadAgg (by repeat first | exact kMh | apply kMt) Tryz.isAgg27 Tryz.sizeOf27 (by rfl)⟩ H.ext rfl
 ·
  subst hk6
  rw [if_neg Bool.false_ne_true] at h
  refine SK (TN (SQ ?_))
  obtain ⟨s7, hx8, h⟩ := bnd h
  refine RG (ST (Ex.fieldAddr Tryz.underlying24 rfl Tryz.sizeOf9 (by decide) rfl) rfl (ST (Ex.load1 H rfl (by repeat first | exact kMh | apply kMt) Tryz.isAgg9 (by rfl)) rfl ?_))
  refine WR.call H (Y4t hx8) rfl trivial (Wn.none rfl) rfl ?_
  intro v12 M w H hle hR
  replace hg_maxl := hg_maxl.mono hle
  replace hg_tabs := hg_tabs.mono hle
  obtain rfl := hR
  refine ST (Ex.fieldAddr Tryz.underlying24 rfl Tryz.sizeOf9 (by decide) rfl) rfl (WR.store1 [_, _, _] H rfl rfl (by repeat first | exact .head | apply Upd.tail) (by rfl) Tryz.sizeOf9 (by first | decide | (simp; done) | (simp; omega)) (by rfl) (by rfl) (Wn.none rfl) ?_)
  intro w H
  refine NL (TN (SQ ?_))
  obtain ⟨s9, hx10, h⟩ := bnd h
  obtain ⟨⟨n11, n12⟩, hx13, h⟩ := bnd h
  try dsimp only at h
  refine RG (ST (Ex.loadAgg H rfl (by repeat first | exact kMh | apply kMt) Tryz.isAgg24 Tryz.sizeOf24 (by rfl)) rfl ?_)
  refine WR.call H (Y1e hx10) rfl ⟨hg_maxl, hg_tabs⟩ (Wn.none rfl) rfl ?_
  intro v15 M w H hle hR
  replace hg_maxl := hg_maxl.mono hle
  replace hg_tabs := hg_tabs.mono hle
  obtain rfl := hR
  refine WR.call H (Y1m hx13) rfl trivial (Wn.none rfl) rfl ?_
  intro v16 M w H hle hR
  replace hg_maxl := hg_maxl.mono hle
  replace hg_tabs := hg_tabs.mono hle
  try dsimp only at hR
  obtain rfl := hR
  refine AS rfl rfl (WR.store [_, _] H rfl rfl rfl (by repeat first | exact .head | apply Upd.tail) Tryz.sizeOf27 rfl (by rfl) (by rfl) (Wn.none rfl) ?_)
  intro w H
  refine NL (TN (RT ?_))
  obtain rfl := oI h
  exact WQ.ret2 rfl rfl ⟨_, rfl, H.loadAgg (by repeat first | exact kMh | apply kMt) Tryz.isAgg27 Tryz.sizeOf27 (by rfl)⟩ H.ext rfl
theorem Y3V {p0 : List (List UInt8 × Bool × List (List UInt8 × List UInt8 × List UInt8))} {vp0 : Value} {r : (List (List UInt8 × List UInt8 × List UInt8) × (Int × Int))} (h : Y2L p0 = some r) : Ct Tryz.prog 14 [vp0] (fun M => GlF (fun w => ∃ m, w.cell? ⟨2, 0, none⟩ = some (.int .i64 m)) M ∧ Tabs M ∧ SlR xrl34 M vp0 p0) (fun v M => ∃ x0, v = Value.tuple #[x0, Value.agg #[I r.2.1, I r.2.2]] ∧ SlS M 3 xenc24 x0 r.1) := by
 refine Ct.of Tryz.func14 (enters Tryz.func14 (by kernel_rfl) rfl) rfl rfl rfl ?_
 intro w0 M0 H hp
 obtain ⟨hg_maxl, hg_tabs, hp0⟩ := hp
 unfold Y2L at h
 refine SQ (RG (AS rfl rfl (WR.alloc [_, _] H Tryz.zeroValue27 rfl (Wn.none rfl) rfl ?_)))
 intro bk3 w H
 refine NL (TN (SQ (SQ ?_)))
 obtain ⟨⟨n1, n2⟩, hx3, h⟩ := bnd h
 try dsimp only at h
 refine RG (MV rfl rfl (WR.call H (Y1X hx3) rfl ⟨hg_maxl, hg_tabs, hp0⟩ (Wn.none rfl) rfl ?_))
 intro v9 M w H hle hR
 replace hg_maxl := hg_maxl.mono hle
 replace hg_tabs := hg_tabs.mono hle
 replace hp0 := hp0.mono hle
 try dsimp only at hR
 obtain rfl := hR
 refine WR.alloc [_, _] H Tryz.zeroValue27 rfl (Wn.none rfl) rfl ?_
 intro bk4 w H
 refine WR.store [_, _] H rfl rfl rfl (by repeat first | exact .head | apply Upd.tail) Tryz.sizeOf27 rfl (by rfl) (by rfl) (Wn.none rfl) ?_
 intro w H
 refine NL (TN (SQ ?_))
 obtain ⟨b4, hx5, h⟩ := bnd h
 refine RG (ST (Ex.loadAgg H rfl (by repeat first | exact kMh | apply kMt) Tryz.isAgg27 Tryz.sizeOf27 (by rfl)) rfl ?_)
 refine WR.call H (Y1O hx5) rfl trivial (Wn.none rfl) rfl ?_
 intro v11 M w H hle hR
 replace hg_maxl := hg_maxl.mono hle
 replace hg_tabs := hg_tabs.mono hle
 replace hp0 := hp0.mono hle
 obtain rfl := hR
 refine NL (TN ?_)
 refine WC.condB rfl (fun hk6 => ?_) (fun hk6 => ?_)
 ·
  subst hk6
  rw [if_pos rfl] at h
  refine SQ (WC.draw (m := 3) rfl rfl H ?_)
  intro w H
  refine WA.take (i := 1) rfl (by kernel_rfl) (by kernel_rfl) (by kernel_rfl) (fun _ => Ex.assign rfl) (Wn.none rfl) rfl rfl (fun _ _ => rfl) (WA.seq (fuel := 0) [0, 2] rfl (by kernel_rfl) (ST (Ex.loadAgg H rfl (by repeat first | exact kMh | apply kMt) Tryz.isAgg27 Tryz.sizeOf27 (by rfl)) rfl ?_))
  refine WR.store [_, _] H rfl rfl rfl (by repeat first | exact .head | apply Upd.tail) Tryz.sizeOf27 rfl (by rfl) (by rfl) (Wn.none rfl) ?_
  intro w H
  refine NA (WA.done (by kernel_rfl) (TN (RT ?_)))
  obtain rfl := oI h
  exact WQ.ret2 rfl rfl ⟨_, rfl, H.loadAgg (by repeat first | exact kMh | apply kMt) Tryz.isAgg27 Tryz.sizeOf27 (by rfl)⟩ H.ext (⟨_, rfl, (SlS.nil _ _ (fun _ => rfl))⟩)
 ·
  subst hk6
  rw [if_neg Bool.false_ne_true] at h
  refine SK (TN (SQ (RG (AS rfl rfl (NL (TN (SQ (SQ (RG (MV rfl rfl (ST (Ex.lenSlR Tryz.underlying22 hp0 rfl) rfl (MV rfl rfl (NL (TN ?_))))))))))))))
  obtain ⟨o7, e8, h⟩ := bnd h
  refine WC.cutX (fun e w => ∃ (l10 : List (List UInt8 × List UInt8 × List UInt8)) (v11 : Value) (M : Mem), e = [(3, ptr bk3 0), (5, v11)] ∧ St w0 M0 M [.blk bk3 (.cells #[I 0, I 0] 27), RowS 24 3 xenc24 v11 l10] w ∧ GlF (fun w => ∃ m, w.cell? ⟨2, 0, none⟩ = some (.int .i64 m)) M ∧ Tabs M ∧ some l10 = some o7) [] ?_ ?_ (trivial)
  ·
   refine BL ?_
   replace H := H.newRowS 24 3 xenc24
   refine WC.loopP (fun m e w => ∃ (l13 : List (List UInt8 × List UInt8 × List UInt8)) (v14 : Value) (n15 : Int) (M : Mem), e = [(3, ptr bk3 0), (5, v14), (13, vp0), (14, I (p0.length : Int)), (15, I n15)] ∧ St w0 M0 M [.blk bk3 (.cells #[I 0, I 0] 27), RowS 24 3 xenc24 v14 l13] w ∧ GlF (fun w => ∃ m, w.cell? ⟨2, 0, none⟩ = some (.int .i64 m)) M ∧ Tabs M ∧ SlR xrl34 M vp0 p0 ∧ Y1p p0 m l13 n15 = some o7) FU [(3, _), (5, _), (13, _), (14, _), (15, _)] ⟨rfl, rfl, rfl, rfl, rfl, trivial⟩ ⟨_, _, _, _, rfl, (H.pick (L' := [.blk bk3 (.cells #[I 0, I 0] 27), RowS 24 3 xenc24 (Value.slice none 0 0) []]) (by repeat first | exact kPn | refine kPc (by repeat first | exact .head | apply Rem.tail) ?_)), hg_maxl, hg_tabs, hp0, e8⟩ ?_
   rintro m16 e w ⟨l13, v14, n15, M, rfl, H, hg_maxl, hg_tabs, hp0, e8⟩
   rcases m16 with _ | m16
   · rw [Y1p] at e8; cases e8
   rw [Y1p] at e8
   refine SQ (RG (ST (Ex.lss rfl rfl) rfl (NL (TN (SQ ?_)))))
   refine WC.condB rfl (fun hk18 => ?_) (fun hk18 => ?_)
   ·
    replace hk18 : n15 < (p0.length : Int) := of_decide_eq_true hk18
    rw [if_pos hk18] at e8
    refine SK (TN (SQ (BL (SQ ?_))))
    obtain ⟨a19, hxa19, e8⟩ := bnd e8
    obtain ⟨bk17, o17, fq17, ha17, hc17, hr17⟩ := hp0.atC hxa19
    obtain ⟨f17_0, f17_1, q17_2⟩ := fq17
    replace hr17 : f17_0 = a19.1 ∧ f17_1 = a19.2.1 ∧ SlS M 3 xenc24 (hv q17_2) a19.2.2 := hr17
    obtain ⟨rfl, rfl, hs17_2⟩ := hr17
    refine RG (ST (Ex.idxAt ha17 Tryz.underlying22 Tryz.sizeOf34 rfl rfl) rfl (ST (Ex.loadAggM H rfl hc17 Tryz.isAgg34 Tryz.sizeOf34 (by rfl)) rfl ?_))
    refine WR.alloc [_, _, _] H Tryz.zeroValue34 rfl (Wn.none rfl) rfl ?_
    intro bk7 w H
    refine WR.store [_, _, _] H rfl rfl rfl (by repeat first | exact .head | apply Upd.tail) Tryz.sizeOf34 rfl (by rfl) (by simp only [List.all_cons, List.all_nil, (hs17_2).one.2]; rfl) (Wn.none rfl) ?_
    intro w H
    refine NL (TN ?_)
    obtain ⟨l20, hx21, e8⟩ := bnd e8
    obtain ⟨l22, hxl22, e8⟩ := bnd e8
    refine RG (MV rfl rfl (ST (Ex.fieldAddr Tryz.underlying34 rfl Tryz.sizeOf30 (by decide) rfl) rfl (ST (Ex.load1 H rfl (by repeat first | exact kMh | apply kMt) Tryz.isAgg30 (by rfl)) rfl ?_)))
    refine WR.call H (Y3B hx21) rfl (hs17_2) (Wn.none rfl) rfl ?_
    intro v22 M w H hle hR
    replace hg_maxl := hg_maxl.mono hle
    replace hg_tabs := hg_tabs.mono hle
    replace hp0 := hp0.mono hle
    replace hc17 := hc17.mono hle
    replace hs17_2 := hs17_2.mono hle
    have f22_0 := hR
    refine WR.appSC (l := l13) xty30 rfl xone24 H rfl (fun _ => by repeat first | exact .head | apply Upd.tail) rfl (f22_0) hxl22 (Wn.none rfl) rfl ?_
    intro v23 w H
    refine AS rfl rfl (NL (IB (TN ?_)))
    obtain ⟨n23, hxn23, e8⟩ := bnd e8
    refine RG (ST (Ex.addC rfl rfl hxn23) rfl (MV rfl rfl (NL ?_)))
    exact WQ.againP m16 [(3, _), (5, _), (13, _), (14, _), (15, _)] ⟨rfl, rfl, rfl, rfl, rfl, trivial⟩ ⟨_, _, _, _, rfl, (H.pick (L' := [.blk bk3 (.cells #[I 0, I 0] 27), RowS 24 3 xenc24 v23 l22]) (by repeat first | exact kPn | refine kPc (by repeat first | exact .head | apply Rem.tail) ?_)), hg_maxl, hg_tabs, hp0, e8⟩ (Nat.lt_succ_self _)
   ·
    replace hk18 : ¬ (n15 < (p0.length : Int)) := of_decide_eq_false hk18
    rw [if_neg hk18] at e8
    refine WC.exit (WQ.thenExit (WQ.thenExit (WQ.exitHere ?_)))
    exact WQ.meetN [(3, _), (5, _)] ⟨rfl, rfl, trivial⟩ ⟨_, _, _, rfl, H, hg_maxl, hg_tabs, e8⟩
  ·
   rintro e w ⟨l10, v11, M, rfl, H, hg_maxl, hg_tabs, q24⟩
   obtain rfl := oI q24
   refine TN (SQ ?_)
   obtain ⟨⟨n25, n26⟩, hx27, h⟩ := bnd h
   try dsimp only at h
   refine RG (MV rfl rfl (WR.call H (Y1m hx27) rfl trivial (Wn.none rfl) rfl ?_))
   intro v26 M w H hle hR
   replace hg_maxl := hg_maxl.mono hle
   replace hg_tabs := hg_tabs.mono hle
   try dsimp only at hR
   obtain rfl := hR
   refine AS rfl rfl (WR.store [_, _] H rfl rfl rfl (by repeat first | exact .head | apply Upd.tail) Tryz.sizeOf27 rfl (by rfl) (by rfl) (Wn.none rfl) ?_)
   intro w H
   refine NL (TN (RT ?_))
   obtain ⟨M, hle, hs28, H⟩ := H.freezeRowS (v := v11) (enc := xenc24) (t := 24) (by repeat first | exact .head | apply Rem.tail) (fun _ => rfl)
   replace hg_maxl := hg_maxl.mono hle
   replace hg_tabs := hg_tabs.mono hle
   obtain rfl := oI h
   exact WQ.ret2 rfl rfl ⟨_, rfl, H.loadAgg (by repeat first | exact kMh | apply kMt) Tryz.isAgg27 Tryz.sizeOf27 (by rfl)⟩ H.ext (⟨_, rfl, hs28⟩)
set_option maxHeartbeats 4000000 in
theorem Y2q  {r : Bool} (h : Y0N = some r) : Ct Tryz.prog 9 [] (fun M => GlF (fun w => ∃ m, w.cell? ⟨2, 0, none⟩ = some (.int .i64 m)) M ∧ Tabs M) (fun v M => v = Value.bool r) := by
 refine Ct.of Tryz.func9 (enters Tryz.func9 (by kernel_rfl) rfl) rfl rfl rfl ?_
 intro w0 M0 H hp
 obtain ⟨hg_maxl, hg_tabs⟩ := hp
 unfold Y0N at h
 refine SQ (RG (AS rfl rfl (NL (TN (SQ ?_)))))
 obtain ⟨⟨s2, ⟨n3, n4⟩⟩, hx5, h⟩ := bnd h
 try dsimp only at h
 refine RG (ST (Ex.build [S [65, 46, 32, 66], S [97], S [120]] Tryz.underlying24 Tryz.zeroValue24 (xplaces24 Tryz.underlying24) rfl rfl) rfl (WR.litS (enc := xenc24) xty30 ([([65, 46, 32, 66], [97], [120])] : List (List UInt8 × List UInt8 × List UInt8)) H (fun _ => rfl) rfl (by kernel_rfl) rfl rfl rfl (Wn.none rfl) rfl ?_))
 intro v11 M w H hle hs11
 replace hg_maxl := hg_maxl.mono hle
 replace hg_tabs := hg_tabs.mono hle
 refine ST (Ex.build [S [], Value.bool false, v11] Tryz.underlying34 Tryz.zeroValue34 (xplaces34 Tryz.underlying34) rfl (by obtain ⟨_, _, _, hv, -⟩ := hs11; rw [hv]; clear hv; rfl)) rfl ?_
 obtain ⟨q1, rfl⟩ := hs11.hd
 refine WR.litS (enc := xrl34.enc) xty22 ([([], false, q1)] : List (List UInt8 × Bool × Hd)) H (fun _ => rfl) rfl (by kernel_rfl) rfl rfl rfl (Wn.none rfl) rfl ?_
 intro v13 M w H hle hs13
 replace hg_maxl := hg_maxl.mono hle
 replace hg_tabs := hg_tabs.mono hle
 replace hs11 := hs11.mono hle
 replace hs13 := SlR.of (R := xrl34) (l := ([([], false, ([([65, 46, 32, 66], [97], [120])] : List (List UInt8 × List UInt8 × List UInt8)))] : List (List UInt8 × Bool × List (List UInt8 × List UInt8 × List UInt8)))) hs13 ⟨⟨rfl, rfl, hs11⟩, trivial⟩
 refine WR.call H (Y4j hx5) rfl ⟨hg_maxl, hg_tabs, hs13⟩ (Wn.none rfl) rfl ?_
 intro v14 M w H hle hR
 replace hg_maxl := hg_maxl.mono hle
 replace hg_tabs := hg_tabs.mono hle
 replace hs11 := hs11.mono hle
 replace hs13 := hs13.mono hle
 try dsimp only at hR
 obtain rfl := hR
 refine MV rfl rfl (ST (Ex.extract rfl rfl) rfl (ST (Ex.extract rfl rfl) rfl (WR.alloc [_, _] H Tryz.zeroValue27 rfl (Wn.none rfl) rfl ?_)))
 intro bk2 w H
 refine AS rfl rfl (WR.store [_, _] H rfl rfl rfl (by repeat first | exact .head | apply Upd.tail) Tryz.sizeOf27 rfl (by rfl) (by rfl) (Wn.none rfl) ?_)
 intro w H
 refine NL (TN (SQ ?_))
 obtain ⟨⟨l6, ⟨n7, n8⟩⟩, hx9, h⟩ := bnd h
 try dsimp only at h
 refine RG (WR.call H (Y2n hx9) rfl ⟨hg_maxl, hg_tabs⟩ (Wn.none rfl) rfl ?_)
 intro v18 M w H hle hR
 replace hg_maxl := hg_maxl.mono hle
 replace hg_tabs := hg_tabs.mono hle
 replace hs11 := hs11.mono hle
 replace hs13 := hs13.mono hle
 try dsimp only at hR
 obtain ⟨x18_0, rfl, f18_0⟩ := hR
 refine MV rfl rfl (ST (Ex.extract rfl rfl) rfl (ST (Ex.extract rfl rfl) rfl (WR.alloc [_, _] H Tryz.zeroValue27 rfl (Wn.none rfl) rfl ?_)))
 intro bk4 w H
 refine AS rfl rfl (WR.store [_, _] H rfl rfl rfl (by repeat first | exact .head | apply Upd.tail) Tryz.sizeOf27 rfl (by rfl) (by rfl) (Wn.none rfl) ?_)
 intro w H
 refine NL (TN (SQ ?_))
 obtain ⟨⟨s10, ⟨n11, n12⟩⟩, hx13, h⟩ := bnd h
 try dsimp only at h
 refine RG (ST (Ex.build [S [], S [65], S [88, 46, 69, 120, 97, 109, 112, 108, 101]] Tryz.underlying24 Tryz.zeroValue24 (xplaces24 Tryz.underlying24) rfl rfl) rfl (WR.call H (Y3x hx13) rfl ⟨hg_maxl, hg_tabs⟩ (Wn.none rfl) rfl ?_))
 intro v23 M w H hle hR
 replace hg_maxl := hg_maxl.mono hle
 replace hg_tabs := hg_tabs.mono hle
 replace hs11 := hs11.mono hle
 replace hs13 := hs13.mono hle
 replace f18_0 := f18_0.mono hle
 try dsimp only at hR
 obtain rfl := hR
 refine MV rfl rfl (ST (Ex.extract rfl rfl) rfl (ST (Ex.extract rfl rfl) rfl (WR.alloc [_, _] H Tryz.zeroValue27 rfl (Wn.none rfl) rfl ?_)))
 intro bk6 w H
 refine AS rfl rfl (WR.store [_, _] H rfl rfl rfl (by repeat first | exact .head | apply Upd.tail) Tryz.sizeOf27 rfl (by rfl) (by rfl) (Wn.none rfl) ?_)
 intro w H
 refine NL (TN (SQ ?_))
 obtain ⟨⟨l14, ⟨n15, n16⟩⟩, hx17, h⟩ := bnd h
 try dsimp only at h
 refine RG (MV rfl rfl (WR.call H (Y3V hx17) rfl ⟨hg_maxl, hg_tabs, f18_0⟩ (Wn.none rfl) rfl ?_))
 intro v28 M w H hle hR
 replace hg_maxl := hg_maxl.mono hle
 replace hg_tabs := hg_tabs.mono hle
 replace hs11 := hs11.mono hle
 replace hs13 := hs13.mono hle
 replace f18_0 := f18_0.mono hle
 try dsimp only at hR
 obtain ⟨x28_0, rfl, f28_0⟩ := hR
 refine MV rfl rfl (ST (Ex.extract rfl rfl) rfl (ST (Ex.extract rfl rfl) rfl (WR.alloc [_, _] H Tryz.zeroValue27 rfl (Wn.none rfl) rfl ?_)))
 intro bk8 w H
 refine AS rfl rfl (WR.store [_, _] H rfl rfl rfl (by repeat first | exact .head | apply Upd.tail) Tryz.sizeOf27 rfl (by rfl) (by rfl) (Wn.none rfl) ?_)
 intro w H
 refine NL (TN (SQ ?_))
 obtain ⟨o18, e19, h⟩ := bnd h
 refine WC.cutX (fun e w => ∃ (b20 : Bool) (M : Mem), e = [(0, Value.bool b20)] ∧ St w0 M0 M [] w ∧ GlF (fun w => ∃ m, w.cell? ⟨2, 0, none⟩ = some (.int .i64 m)) M ∧ Tabs M ∧ some b20 = some o18) [] ?_ ?_ (trivial)
 ·
  refine RG (ST (Ex.fieldAddr Tryz.underlying27 rfl Tryz.sizeOf3 (by decide) rfl) rfl (ST (Ex.load1 H rfl (by repeat first | exact kMh | apply kMt) Tryz.isAgg3 (by rfl)) rfl ?_))
  by_cases hk21 : n3 = (0 : Int)
  ·
   rw [if_pos hk21] at e19
   by_cases hk22 : n7 = (0 : Int)
   ·
    rw [if_pos hk22] at e19
    by_cases hk23 : n11 = (0 : Int)
    ·
     rw [if_pos hk23] at e19
     by_cases hk24 : n15 = (0 : Int)
     ·
      rw [if_pos hk24] at e19
      by_cases hk25 : s2 = [34, 65, 46, 32, 66, 34, 32, 60, 97, 64, 120, 62]
      ·
       rw [if_pos hk25] at e19
       by_cases hk26 : (l6.length : Int) = (1 : Int)
       ·
        rw [if_pos hk26] at e19
        obtain ⟨a27, hxa27, e19⟩ := bnd e19
        obtain ⟨bk60, o60, fq60, ha60, hc60, hr60⟩ := f18_0.atC hxa27
        obtain ⟨f60_0, f60_1, q60_2⟩ := fq60
        replace hr60 : f60_0 = a27.1 ∧ f60_1 = a27.2.1 ∧ SlS M 3 xenc24 (hv q60_2) a27.2.2 := hr60
        obtain ⟨rfl, rfl, hs60_2⟩ := hr60
        by_cases hk28 : a27.2.1 = true
        ·
         rw [if_pos hk28] at e19
         obtain ⟨a29, hxa29, e19⟩ := bnd e19
         obtain ⟨bk66, o66, fq66, ha66, hc66, hr66⟩ := f18_0.atC hxa29
         obtain ⟨f66_0, f66_1, q66_2⟩ := fq66
         replace hr66 : f66_0 = a29.1 ∧ f66_1 = a29.2.1 ∧ SlS M 3 xenc24 (hv q66_2) a29.2.2 := hr66
         obtain ⟨rfl, rfl, hs66_2⟩ := hr66
         by_cases hk30 : a29.1 = [103]
         ·
          rw [if_pos hk30] at e19
          by_cases hk31 : s10 = [65, 64, 120, 46, 101, 120, 97, 109, 112, 108, 101]
          ·
           rw [if_pos hk31] at e19
           by_cases hk32 : (l14.length : Int) = (2 : Int)
           ·
            rw [if_pos hk32] at e19
            obtain ⟨a33, hxa33, e19⟩ := bnd e19
            obtain ⟨bk82, o82, ha82, hc82⟩ := f28_0.atC hxa33
            refine WR.stepE (v' := .bool true) (Ex.eql rfl rfl) (congrArg Value.bool (decide_eq_true hk21)) (Wn.none rfl) rfl rfl (MV rfl rfl (SG (Ex.fieldAddr Tryz.underlying27 rfl Tryz.sizeOf3 (by decide) rfl) rfl rfl rfl (SG (Ex.load1 H rfl (by repeat first | exact kMh | apply kMt) Tryz.isAgg3 (by rfl)) rfl rfl rfl ?_)))
            refine WR.stepE (v' := .bool true) (Ex.eql rfl rfl) (congrArg Value.bool (decide_eq_true hk22)) (Wn.some rfl rfl rfl) rfl rfl (PT rfl rfl rfl (MV rfl rfl (SG (Ex.fieldAddr Tryz.underlying27 rfl Tryz.sizeOf3 (by decide) rfl) rfl rfl rfl (SG (Ex.load1 H rfl (by repeat first | exact kMh | apply kMt) Tryz.isAgg3 (by rfl)) rfl rfl rfl ?_))))
            refine WR.stepE (v' := .bool true) (Ex.eql rfl rfl) (congrArg Value.bool (decide_eq_true hk23)) (Wn.some rfl rfl rfl) rfl rfl (PT rfl rfl rfl (MV rfl rfl (SG (Ex.fieldAddr Tryz.underlying27 rfl Tryz.sizeOf3 (by decide) rfl) rfl rfl rfl (SG (Ex.load1 H rfl (by repeat first | exact kMh | apply kMt) Tryz.isAgg3 (by rfl)) rfl rfl rfl ?_))))
            refine WR.stepE (v' := .bool true) (Ex.eql rfl rfl) (congrArg Value.bool (decide_eq_true hk24)) (Wn.some rfl rfl rfl) rfl rfl (PT rfl rfl rfl (MV rfl rfl (SG (Ex.move rfl) rfl rfl rfl (WR.stepE (v' := .bool true) (Ex.strEql rfl rfl) (congrArg Value.bool (decide_eq_true hk25)) (Wn.some rfl rfl rfl) rfl rfl (PT rfl rfl rfl (MV rfl rfl (SG (Ex.move rfl) rfl rfl rfl (SG (Ex.lenSlR Tryz.underlying22 f18_0 rfl) rfl rfl rfl (WR.stepE (v' := .bool true) (Ex.eql rfl rfl) (congrArg Value.bool (decide_eq_true hk26)) (Wn.some rfl rfl rfl) rfl rfl (PT rfl rfl rfl (MV rfl rfl (SG (Ex.move rfl) rfl rfl rfl (SG (Ex.idxAt ha60 Tryz.underlying22 Tryz.sizeOf34 rfl rfl) rfl rfl rfl (SG (Ex.fieldAddr Tryz.underlying34 rfl Tryz.sizeOf4 (by decide) rfl) rfl rfl rfl (WR.stepE (v' := .bool true) (Ex.loadM H rfl (hc60.at (j := 1) rfl) Tryz.isAgg4) (congrArg Value.bool hk28) (Wn.some rfl rfl rfl) rfl rfl (PT rfl rfl rfl ?_))))))))))))))))
            refine MV rfl rfl (SG (Ex.move rfl) rfl rfl rfl (SG (Ex.idxAt ha66 Tryz.underlying22 Tryz.sizeOf34 rfl rfl) rfl rfl rfl (SG (Ex.fieldAddr Tryz.underlying34 rfl Tryz.sizeOf9 (by decide) rfl) rfl rfl rfl (SG (Ex.loadM H rfl (hc66.at (j := 0) rfl) Tryz.isAgg9) rfl rfl rfl (WR.stepE (v' := .bool true) (Ex.strEql rfl rfl) (congrArg Value.bool (decide_eq_true hk30)) (Wn.some rfl rfl rfl) rfl rfl (PT rfl rfl rfl (MV rfl rfl (SG (Ex.move rfl) rfl rfl rfl (WR.stepE (v' := .bool true) (Ex.strEql rfl rfl) (congrArg Value.bool (decide_eq_true hk31)) (Wn.some rfl rfl rfl) rfl rfl (PT rfl rfl rfl (MV rfl rfl (SG (Ex.move rfl) rfl rfl rfl (SG (Ex.lenSlS Tryz.underlying30 f28_0 rfl) rfl rfl rfl (WR.stepE (v' := .bool true) (Ex.eql rfl rfl) (congrArg Value.bool (decide_eq_true hk32)) (Wn.some rfl rfl rfl) rfl rfl (PT rfl rfl rfl (MV rfl rfl (SG (Ex.move rfl) rfl rfl rfl (SG (Ex.idxAt ha82 Tryz.underlying30 Tryz.sizeOf24 rfl rfl) rfl rfl rfl ?_))))))))))))))))))
            refine SG (Ex.fieldAddr Tryz.underlying24 rfl Tryz.sizeOf9 (by decide) rfl) rfl rfl rfl (SG (Ex.loadM H rfl (hc82.at (j := 1) rfl) Tryz.isAgg9) rfl rfl rfl (SG (Ex.strEql rfl rfl) rfl rfl rfl (PT rfl rfl rfl (AS rfl rfl (NL ?_)))))
            exact WQ.meetN [(0, _)] ⟨rfl, trivial⟩ ⟨_, _, rfl, (H.pick (L' := []) (by repeat first | exact kPn | refine kPc (by repeat first | exact .head | apply Rem.tail) ?_)), hg_maxl, hg_tabs, e19⟩
           ·
            rw [if_neg hk32] at e19
            refine WR.stepE (v' := .bool true) (Ex.eql rfl rfl) (congrArg Value.bool (decide_eq_true hk21)) (Wn.none rfl) rfl rfl (MV rfl rfl (SG (Ex.fieldAddr Tryz.underlying27 rfl Tryz.sizeOf3 (by decide) rfl) rfl rfl rfl (SG (Ex.load1 H rfl (by repeat first | exact kMh | apply kMt) Tryz.isAgg3 (by rfl)) rfl rfl rfl ?_)))
            refine WR.stepE (v' := .bool true) (Ex.eql rfl rfl) (congrArg Value.bool (decide_eq_true hk22)) (Wn.some rfl rfl rfl) rfl rfl (PT rfl rfl rfl (MV rfl rfl (SG (Ex.fieldAddr Tryz.underlying27 rfl Tryz.sizeOf3 (by decide) rfl) rfl rfl rfl (SG (Ex.load1 H rfl (by repeat first | exact kMh | apply kMt) Tryz.isAgg3 (by rfl)) rfl rfl rfl ?_))))
            refine WR.stepE (v' := .bool true) (Ex.eql rfl rfl) (congrArg Value.bool (decide_eq_true hk23)) (Wn.some rfl rfl rfl) rfl rfl (PT rfl rfl rfl (MV rfl rfl (SG (Ex.fieldAddr Tryz.underlying27 rfl Tryz.sizeOf3 (by decide) rfl) rfl rfl rfl (SG (Ex.load1 H rfl (by repeat first | exact kMh | apply kMt) Tryz.isAgg3 (by rfl)) rfl rfl rfl ?_))))
            refine WR.stepE (v' := .bool true) (Ex.eql rfl rfl) (congrArg Value.bool (decide_eq_true hk24)) (Wn.some rfl rfl rfl) rfl rfl (PT rfl rfl rfl (MV rfl rfl (SG (Ex.move rfl) rfl rfl rfl (WR.stepE (v' := .bool true) (Ex.strEql rfl rfl) (congrArg Value.bool (decide_eq_true hk25)) (Wn.some rfl rfl rfl) rfl rfl (PT rfl rfl rfl (MV rfl rfl (SG (Ex.move rfl) rfl rfl rfl (SG (Ex.lenSlR Tryz.underlying22 f18_0 rfl) rfl rfl rfl (WR.stepE (v' := .bool true) (Ex.eql rfl rfl) (congrArg Value.bool (decide_eq_true hk26)) (Wn.some rfl rfl rfl) rfl rfl (PT rfl rfl rfl (MV rfl rfl (SG (Ex.move rfl) rfl rfl rfl (SG (Ex.idxAt ha60 Tryz.underlying22 Tryz.sizeOf34 rfl rfl) rfl rfl rfl (SG (Ex.fieldAddr Tryz.underlying34 rfl Tryz.sizeOf4 (by decide) rfl) rfl rfl rfl (WR.stepE (v' := .bool true) (Ex.loadM H rfl (hc60.at (j := 1) rfl) Tryz.isAgg4) (congrArg Value.bool hk28) (Wn.some rfl rfl rfl) rfl rfl (PT rfl rfl rfl ?_))))))))))))))))
            refine MV rfl rfl (SG (Ex.move rfl) rfl rfl rfl (SG (Ex.idxAt ha66 Tryz.underlying22 Tryz.sizeOf34 rfl rfl) rfl rfl rfl (SG (Ex.fieldAddr Tryz.underlying34 rfl Tryz.sizeOf9 (by decide) rfl) rfl rfl rfl (SG (Ex.loadM H rfl (hc66.at (j := 0) rfl) Tryz.isAgg9) rfl rfl rfl (WR.stepE (v' := .bool true) (Ex.strEql rfl rfl) (congrArg Value.bool (decide_eq_true hk30)) (Wn.some rfl rfl rfl) rfl rfl (PT rfl rfl rfl (MV rfl rfl (SG (Ex.move rfl) rfl rfl rfl (WR.stepE (v' := .bool true) (Ex.strEql rfl rfl) (congrArg Value.bool (decide_eq_true hk31)) (Wn.some rfl rfl rfl) rfl rfl (PT rfl rfl rfl (MV rfl rfl (SG (Ex.move rfl) rfl rfl rfl (SG (Ex.lenSlS Tryz.underlying30 f28_0 rfl) rfl rfl rfl (WR.stepE (v' := .bool false) (Ex.eql rfl rfl) (congrArg Value.bool (decide_eq_false hk32)) (Wn.some rfl rfl rfl) rfl rfl (PT rfl rfl rfl (MV rfl rfl (WR.skipN 5 rfl rfl (PF rfl rfl rfl (AS rfl rfl (NL ?_))))))))))))))))))))
            exact WQ.meetN [(0, _)] ⟨rfl, trivial⟩ ⟨_, _, rfl, (H.pick (L' := []) (by repeat first | exact kPn | refine kPc (by repeat first | exact .head | apply Rem.tail) ?_)), hg_maxl, hg_tabs, e19⟩
          ·
           rw [if_neg hk31] at e19
           refine WR.stepE (v' := .bool true) (Ex.eql rfl rfl) (congrArg Value.bool (decide_eq_true hk21)) (Wn.none rfl) rfl rfl (MV rfl rfl (SG (Ex.fieldAddr Tryz.underlying27 rfl Tryz.sizeOf3 (by decide) rfl) rfl rfl rfl (SG (Ex.load1 H rfl (by repeat first | exact kMh | apply kMt) Tryz.isAgg3 (by rfl)) rfl rfl rfl ?_)))
           refine WR.stepE (v' := .bool true) (Ex.eql rfl rfl) (congrArg Value.bool (decide_eq_true hk22)) (Wn.some rfl rfl rfl) rfl rfl (PT rfl rfl rfl (MV rfl rfl (SG (Ex.fieldAddr Tryz.underlying27 rfl Tryz.sizeOf3 (by decide) rfl) rfl rfl rfl (SG (Ex.load1 H rfl (by repeat first | exact kMh | apply kMt) Tryz.isAgg3 (by rfl)) rfl rfl rfl ?_))))
           refine WR.stepE (v' := .bool true) (Ex.eql rfl rfl) (congrArg Value.bool (decide_eq_true hk23)) (Wn.some rfl rfl rfl) rfl rfl (PT rfl rfl rfl (MV rfl rfl (SG (Ex.fieldAddr Tryz.underlying27 rfl Tryz.sizeOf3 (by decide) rfl) rfl rfl rfl (SG (Ex.load1 H rfl (by repeat first | exact kMh | apply kMt) Tryz.isAgg3 (by rfl)) rfl rfl rfl ?_))))
           refine WR.stepE (v' := .bool true) (Ex.eql rfl rfl) (congrArg Value.bool (decide_eq_true hk24)) (Wn.some rfl rfl rfl) rfl rfl (PT rfl rfl rfl (MV rfl rfl (SG (Ex.move rfl) rfl rfl rfl (WR.stepE (v' := .bool true) (Ex.strEql rfl rfl) (congrArg Value.bool (decide_eq_true hk25)) (Wn.some rfl rfl rfl) rfl rfl (PT rfl rfl rfl (MV rfl rfl (SG (Ex.move rfl) rfl rfl rfl (SG (Ex.lenSlR Tryz.underlying22 f18_0 rfl) rfl rfl rfl (WR.stepE (v' := .bool true) (Ex.eql rfl rfl) (congrArg Value.bool (decide_eq_true hk26)) (Wn.some rfl rfl rfl) rfl rfl (PT rfl rfl rfl (MV rfl rfl (SG (Ex.move rfl) rfl rfl rfl (SG (Ex.idxAt ha60 Tryz.underlying22 Tryz.sizeOf34 rfl rfl) rfl rfl rfl (SG (Ex.fieldAddr Tryz.underlying34 rfl Tryz.sizeOf4 (by decide) rfl) rfl rfl rfl (WR.stepE (v' := .bool true) (Ex.loadM H rfl (hc60.at (j := 1) rfl) Tryz.isAgg4) (congrArg Value.bool hk28) (Wn.some rfl rfl rfl) rfl rfl (PT rfl rfl rfl ?_))))))))))))))))
           refine MV rfl rfl (SG (Ex.move rfl) rfl rfl rfl (SG (Ex.idxAt ha66 Tryz.underlying22 Tryz.sizeOf34 rfl rfl) rfl rfl rfl (SG (Ex.fieldAddr Tryz.underlying34 rfl Tryz.sizeOf9 (by decide) rfl) rfl rfl rfl (SG (Ex.loadM H rfl (hc66.at (j := 0) rfl) Tryz.isAgg9) rfl rfl rfl (WR.stepE (v' := .bool true) (Ex.strEql rfl rfl) (congrArg Value.bool (decide_eq_true hk30)) (Wn.some rfl rfl rfl) rfl rfl (PT rfl rfl rfl (MV rfl rfl (SG (Ex.move rfl) rfl rfl rfl (WR.stepE (v' := .bool false) (Ex.strEql rfl rfl) (congrArg Value.bool (decide_eq_false hk31)) (Wn.some rfl rfl rfl) rfl rfl (PT rfl rfl rfl (MV rfl rfl (WR.skipN 3 rfl rfl (PF rfl rfl rfl (MV rfl rfl (WR.skipN 5 rfl rfl (PF rfl rfl rfl (AS rfl rfl (NL ?_))))))))))))))))))
           exact WQ.meetN [(0, _)] ⟨rfl, trivial⟩ ⟨_, _, rfl, (H.pick (L' := []) (by repeat first | exact kPn | refine kPc (by repeat first | exact .head | apply Rem.tail) ?_)), hg_maxl, hg_tabs, e19⟩
         ·
          rw [if_neg hk30] at e19
          refine WR.stepE (v' := .bool true) (Ex.eql rfl rfl) (congrArg Value.bool (decide_eq_true hk21)) (Wn.none rfl) rfl rfl (MV rfl rfl (SG (Ex.fieldAddr Tryz.underlying27 rfl Tryz.sizeOf3 (by decide) rfl) rfl rfl rfl (SG (Ex.load1 H rfl (by repeat first | exact kMh | apply kMt) Tryz.isAgg3 (by rfl)) rfl rfl rfl ?_)))
          refine WR.stepE (v' := .bool true) (Ex.eql rfl rfl) (congrArg Value.bool (decide_eq_true hk22)) (Wn.some rfl rfl rfl) rfl rfl (PT rfl rfl rfl (MV rfl rfl (SG (Ex.fieldAddr Tryz.underlying27 rfl Tryz.sizeOf3 (by decide) rfl) rfl rfl rfl (SG (Ex.load1 H rfl (by repeat first | exact kMh | apply kMt) Tryz.isAgg3 (by rfl)) rfl rfl rfl ?_))))
          refine WR.stepE (v' := .bool true) (Ex.eql rfl rfl) (congrArg Value.bool (decide_eq_true hk23)) (Wn.some rfl rfl rfl) rfl rfl (PT rfl rfl rfl (MV rfl rfl (SG (Ex.fieldAddr Tryz.underlying27 rfl Tryz.sizeOf3 (by decide) rfl) rfl rfl rfl (SG (Ex.load1 H rfl (by repeat first | exact kMh | apply kMt) Tryz.isAgg3 (by rfl)) rfl rfl rfl ?_))))
          refine WR.stepE (v' := .bool true) (Ex.eql rfl rfl) (congrArg Value.bool (decide_eq_true hk24)) (Wn.some rfl rfl rfl) rfl rfl (PT rfl rfl rfl (MV rfl rfl (SG (Ex.move rfl) rfl rfl rfl (WR.stepE (v' := .bool true) (Ex.strEql rfl rfl) (congrArg Value.bool (decide_eq_true hk25)) (Wn.some rfl rfl rfl) rfl rfl (PT rfl rfl rfl (MV rfl rfl (SG (Ex.move rfl) rfl rfl rfl (SG (Ex.lenSlR Tryz.underlying22 f18_0 rfl) rfl rfl rfl (WR.stepE (v' := .bool true) (Ex.eql rfl rfl) (congrArg Value.bool (decide_eq_true hk26)) (Wn.some rfl rfl rfl) rfl rfl (PT rfl rfl rfl (MV rfl rfl (SG (Ex.move rfl) rfl rfl rfl (SG (Ex.idxAt ha60 Tryz.underlying22 Tryz.sizeOf34 rfl rfl) rfl rfl rfl (SG (Ex.fieldAddr Tryz.underlying34 rfl Tryz.sizeOf4 (by decide) rfl) rfl rfl rfl (WR.stepE (v' := .bool true) (Ex.loadM H rfl (hc60.at (j := 1) rfl) Tryz.isAgg4) (congrArg Value.bool hk28) (Wn.some rfl rfl rfl) rfl rfl (PT rfl rfl rfl ?_))))))))))))))))
          refine MV rfl rfl (SG (Ex.move rfl) rfl rfl rfl (SG (Ex.idxAt ha66 Tryz.underlying22 Tryz.sizeOf34 rfl rfl) rfl rfl rfl (SG (Ex.fieldAddr Tryz.underlying34 rfl Tryz.sizeOf9 (by decide) rfl) rfl rfl rfl (SG (Ex.loadM H rfl (hc66.at (j := 0) rfl) Tryz.isAgg9) rfl rfl rfl (WR.stepE (v' := .bool false) (Ex.strEql rfl rfl) (congrArg Value.bool (decide_eq_false hk30)) (Wn.some rfl rfl rfl) rfl rfl (PT rfl rfl rfl (MV rfl rfl (GF rfl rfl rfl (GF rfl rfl rfl (PF rfl rfl rfl (MV rfl rfl (WR.skipN 3 rfl rfl (PF rfl rfl rfl (MV rfl rfl (WR.skipN 5 rfl rfl (PF rfl rfl rfl (AS rfl rfl (NL ?_))))))))))))))))))
          exact WQ.meetN [(0, _)] ⟨rfl, trivial⟩ ⟨_, _, rfl, (H.pick (L' := []) (by repeat first | exact kPn | refine kPc (by repeat first | exact .head | apply Rem.tail) ?_)), hg_maxl, hg_tabs, e19⟩
        ·
         rw [if_neg hk28] at e19
         refine WR.stepE (v' := .bool true) (Ex.eql rfl rfl) (congrArg Value.bool (decide_eq_true hk21)) (Wn.none rfl) rfl rfl (MV rfl rfl (SG (Ex.fieldAddr Tryz.underlying27 rfl Tryz.sizeOf3 (by decide) rfl) rfl rfl rfl (SG (Ex.load1 H rfl (by repeat first | exact kMh | apply kMt) Tryz.isAgg3 (by rfl)) rfl rfl rfl ?_)))
         refine WR.stepE (v' := .bool true) (Ex.eql rfl rfl) (congrArg Value.bool (decide_eq_true hk22)) (Wn.some rfl rfl rfl) rfl rfl (PT rfl rfl rfl (MV rfl rfl (SG (Ex.fieldAddr Tryz.underlying27 rfl Tryz.sizeOf3 (by decide) rfl) rfl rfl rfl (SG (Ex.load1 H rfl (by repeat first | exact kMh | apply kMt) Tryz.isAgg3 (by rfl)) rfl rfl rfl ?_))))
         refine WR.stepE (v' := .bool true) (Ex.eql rfl rfl) (congrArg Value.bool (decide_eq_true hk23)) (Wn.some rfl rfl rfl) rfl rfl (PT rfl rfl rfl (MV rfl rfl (SG (Ex.fieldAddr Tryz.underlying27 rfl Tryz.sizeOf3 (by decide) rfl) rfl rfl rfl (SG (Ex.load1 H rfl (by repeat first | exact kMh | apply kMt) Tryz.isAgg3 (by rfl)) rfl rfl rfl ?_))))
         refine WR.stepE (v' := .bool true) (Ex.eql rfl rfl) (congrArg Value.bool (decide_eq_true hk24)) (Wn.some rfl rfl rfl) rfl rfl (PT rfl rfl rfl (MV rfl rfl (SG (Ex.move rfl) rfl rfl rfl (WR.stepE (v' := .bool true) (Ex.strEql rfl rfl) (congrArg Value.bool (decide_eq_true hk25)) (Wn.some rfl rfl rfl) rfl rfl (PT rfl rfl rfl (MV rfl rfl (SG (Ex.move rfl) rfl rfl rfl (SG (Ex.lenSlR Tryz.underlying22 f18_0 rfl) rfl rfl rfl (WR.stepE (v' := .bool true) (Ex.eql rfl rfl) (congrArg Value.bool (decide_eq_true hk26)) (Wn.some rfl rfl rfl) rfl rfl (PT rfl rfl rfl (MV rfl rfl (SG (Ex.move rfl) rfl rfl rfl (SG (Ex.idxAt ha60 Tryz.underlying22 Tryz.sizeOf34 rfl rfl) rfl rfl rfl (SG (Ex.fieldAddr Tryz.underlying34 rfl Tryz.sizeOf4 (by decide) rfl) rfl rfl rfl (WR.stepE (v' := .bool false) (Ex.loadM H rfl (hc60.at (j := 1) rfl) Tryz.isAgg4) (congrArg Value.bool (Bool.of_not_eq_true hk28)) (Wn.some rfl rfl rfl) rfl rfl ?_)))))))))))))))
         refine PT rfl rfl rfl (MV rfl rfl (WR.skipN 5 rfl rfl (PF rfl rfl rfl (MV rfl rfl (GF rfl rfl rfl (GF rfl rfl rfl (PF rfl rfl rfl (MV rfl rfl (WR.skipN 3 rfl rfl (PF rfl rfl rfl (MV rfl rfl (WR.skipN 5 rfl rfl (PF rfl rfl rfl (AS rfl rfl (NL ?_)))))))))))))))
         exact WQ.meetN [(0, _)] ⟨rfl, trivial⟩ ⟨_, _, rfl, (H.pick (L' := []) (by repeat first | exact kPn | refine kPc (by repeat first | exact .head | apply Rem.tail) ?_)), hg_maxl, hg_tabs, e19⟩
       ·
        rw [if_neg hk26] at e19
        refine WR.stepE (v' := .bool true) (Ex.eql rfl rfl) (congrArg Value.bool (decide_eq_true hk21)) (Wn.none rfl) rfl rfl (MV rfl rfl (SG (Ex.fieldAddr Tryz.underlying27 rfl Tryz.sizeOf3 (by decide) rfl) rfl rfl rfl (SG (Ex.load1 H rfl (by repeat first | exact kMh | apply kMt) Tryz.isAgg3 (by rfl)) rfl rfl rfl ?_)))
        refine WR.stepE (v' := .bool true) (Ex.eql rfl rfl) (congrArg Value.bool (decide_eq_true hk22)) (Wn.some rfl rfl rfl) rfl rfl (PT rfl rfl rfl (MV rfl rfl (SG (Ex.fieldAddr Tryz.underlying27 rfl Tryz.sizeOf3 (by decide) rfl) rfl rfl rfl (SG (Ex.load1 H rfl (by repeat first | exact kMh | apply kMt) Tryz.isAgg3 (by rfl)) rfl rfl rfl ?_))))
        refine WR.stepE (v' := .bool true) (Ex.eql rfl rfl) (congrArg Value.bool (decide_eq_true hk23)) (Wn.some rfl rfl rfl) rfl rfl (PT rfl rfl rfl (MV rfl rfl (SG (Ex.fieldAddr Tryz.underlying27 rfl Tryz.sizeOf3 (by decide) rfl) rfl rfl rfl (SG (Ex.load1 H rfl (by repeat first | exact kMh | apply kMt) Tryz.isAgg3 (by rfl)) rfl rfl rfl ?_))))
        refine WR.stepE (v' := .bool true) (Ex.eql rfl rfl) (congrArg Value.bool (decide_eq_true hk24)) (Wn.some rfl rfl rfl) rfl rfl (PT rfl rfl rfl (MV rfl rfl (SG (Ex.move rfl) rfl rfl rfl (WR.stepE (v' := .bool true) (Ex.strEql rfl rfl) (congrArg Value.bool (decide_eq_true hk25)) (Wn.some rfl rfl rfl) rfl rfl (PT rfl rfl rfl (MV rfl rfl (SG (Ex.move rfl) rfl rfl rfl (SG (Ex.lenSlR Tryz.underlying22 f18_0 rfl) rfl rfl rfl (WR.stepE (v' := .bool false) (Ex.eql rfl rfl) (congrArg Value.bool (decide_eq_false hk26)) (Wn.some rfl rfl rfl) rfl rfl (PT rfl rfl rfl (MV rfl rfl (WR.skipN 4 rfl rfl (PF rfl rfl rfl (MV rfl rfl (WR.skipN 5 rfl rfl (PF rfl rfl rfl (MV rfl rfl (GF rfl rfl rfl (GF rfl rfl rfl (PF rfl rfl rfl (MV rfl rfl (WR.skipN 3 rfl rfl (PF rfl rfl rfl (MV rfl rfl (WR.skipN 5 rfl rfl (PF rfl rfl rfl (AS rfl rfl (NL ?_))))))))))))))))))))))))))))
        exact WQ.meetN [(0, _)] ⟨rfl, trivial⟩ ⟨_, _, rfl, (H.pick (L' := []) (by repeat first | exact kPn | refine kPc (by repeat first | exact .head | apply Rem.tail) ?_)), hg_maxl, hg_tabs, e19⟩
      ·
       rw [if_neg hk25] at e19
       refine WR.stepE (v' := .bool true) (Ex.eql rfl rfl) (congrArg Value.bool (decide_eq_true hk21)) (Wn.none rfl) rfl rfl (MV rfl rfl (SG (Ex.fieldAddr Tryz.underlying27 rfl Tryz.sizeOf3 (by decide) rfl) rfl rfl rfl (SG (Ex.load1 H rfl (by repeat first | exact kMh | apply kMt) Tryz.isAgg3 (by rfl)) rfl rfl rfl ?_)))
       refine WR.stepE (v' := .bool true) (Ex.eql rfl rfl) (congrArg Value.bool (decide_eq_true hk22)) (Wn.some rfl rfl rfl) rfl rfl (PT rfl rfl rfl (MV rfl rfl (SG (Ex.fieldAddr Tryz.underlying27 rfl Tryz.sizeOf3 (by decide) rfl) rfl rfl rfl (SG (Ex.load1 H rfl (by repeat first | exact kMh | apply kMt) Tryz.isAgg3 (by rfl)) rfl rfl rfl ?_))))
       refine WR.stepE (v' := .bool true) (Ex.eql rfl rfl) (congrArg Value.bool (decide_eq_true hk23)) (Wn.some rfl rfl rfl) rfl rfl (PT rfl rfl rfl (MV rfl rfl (SG (Ex.fieldAddr Tryz.underlying27 rfl Tryz.sizeOf3 (by decide) rfl) rfl rfl rfl (SG (Ex.load1 H rfl (by repeat first | exact kMh | apply kMt) Tryz.isAgg3 (by rfl)) rfl rfl rfl ?_))))
       refine WR.stepE (v' := .bool true) (Ex.eql rfl rfl) (congrArg Value.bool (decide_eq_true hk24)) (Wn.some rfl rfl rfl) rfl rfl (PT rfl rfl rfl (MV rfl rfl (SG (Ex.move rfl) rfl rfl rfl (WR.stepE (v' := .bool false) (Ex.strEql rfl rfl) (congrArg Value.bool (decide_eq_false hk25)) (Wn.some rfl rfl rfl) rfl rfl (PT rfl rfl rfl (MV rfl rfl (WR.skipN 3 rfl rfl (PF rfl rfl rfl (MV rfl rfl (WR.skipN 4 rfl rfl (PF rfl rfl rfl (MV rfl rfl (WR.skipN 5 rfl rfl (PF rfl rfl rfl (MV rfl rfl (GF rfl rfl rfl (GF rfl rfl rfl (PF rfl rfl rfl (MV rfl rfl (WR.skipN 3 rfl rfl (PF rfl rfl rfl (MV rfl rfl (WR.skipN 5 rfl rfl (PF rfl rfl rfl (AS rfl rfl (NL ?_))))))))))))))))))))))))))
       exact WQ.meetN [(0, _)] ⟨rfl, trivial⟩ ⟨_, _, rfl, (H.pick (L' := []) (by repeat first | exact kPn | refine kPc (by repeat first | exact .head | apply Rem.tail) ?_)), hg_maxl, hg_tabs, e19⟩
     ·
      rw [if_neg hk24] at e19
      refine WR.stepE (v' := .bool true) (Ex.eql rfl rfl) (congrArg Value.bool (decide_eq_true hk21)) (Wn.none rfl) rfl rfl (MV rfl rfl (SG (Ex.fieldAddr Tryz.underlying27 rfl Tryz.sizeOf3 (by decide) rfl) rfl rfl rfl (SG (Ex.load1 H rfl (by repeat first | exact kMh | apply kMt) Tryz.isAgg3 (by rfl)) rfl rfl rfl ?_)))
      refine WR.stepE (v' := .bool true) (Ex.eql rfl rfl) (congrArg Value.bool (decide_eq_true hk22)) (Wn.some rfl rfl rfl) rfl rfl (PT rfl rfl rfl (MV rfl rfl (SG (Ex.fieldAddr Tryz.underlying27 rfl Tryz.sizeOf3 (by decide) rfl) rfl rfl rfl (SG (Ex.load1 H rfl (by repeat first | exact kMh | apply kMt) Tryz.isAgg3 (by rfl)) rfl rfl rfl ?_))))
      refine WR.stepE (v' := .bool true) (Ex.eql rfl rfl) (congrArg Value.bool (decide_eq_true hk23)) (Wn.some rfl rfl rfl) rfl rfl (PT rfl rfl rfl (MV rfl rfl (SG (Ex.fieldAddr Tryz.underlying27 rfl Tryz.sizeOf3 (by decide) rfl) rfl rfl rfl (SG (Ex.load1 H rfl (by repeat first | exact kMh | apply kMt) Tryz.isAgg3 (by rfl)) rfl rfl rfl ?_))))
      refine WR.stepE (v' := .bool false) (Ex.eql rfl rfl) (congrArg Value.bool (decide_eq_false hk24)) (Wn.some rfl rfl rfl) rfl rfl (PT rfl rfl rfl (MV rfl rfl (GF rfl rfl rfl (GF rfl rfl rfl (PF rfl rfl rfl (MV rfl rfl (WR.skipN 3 rfl rfl (PF rfl rfl rfl (MV rfl rfl (WR.skipN 4 rfl rfl (PF rfl rfl rfl (MV rfl rfl (WR.skipN 5 rfl rfl (PF rfl rfl rfl (MV rfl rfl (GF rfl rfl rfl (GF rfl rfl rfl (PF rfl rfl rfl (MV rfl rfl (WR.skipN 3 rfl rfl (PF rfl rfl rfl (MV rfl rfl (WR.skipN 5 rfl rfl (PF rfl rfl rfl (AS rfl rfl (NL ?_))))))))))))))))))))))))))
      exact WQ.meetN [(0, _)] ⟨rfl, trivial⟩ ⟨_, _, rfl, (H.pick (L' := []) (by repeat first | exact kPn | refine kPc (by repeat first | exact .head | apply Rem.tail) ?_)), hg_maxl, hg_tabs, e19⟩
    ·
     rw [if_neg hk23] at e19
     refine WR.stepE (v' := .bool true) (Ex.eql rfl rfl) (congrArg Value.bool (decide_eq_true hk21)) (Wn.none rfl) rfl rfl (MV rfl rfl (SG (Ex.fieldAddr Tryz.underlying27 rfl Tryz.sizeOf3 (by decide) rfl) rfl rfl rfl (SG (Ex.load1 H rfl (by repeat first | exact kMh | apply kMt) Tryz.isAgg3 (by rfl)) rfl rfl rfl ?_)))
     refine WR.stepE (v' := .bool true) (Ex.eql rfl rfl) (congrArg Value.bool (decide_eq_true hk22)) (Wn.some rfl rfl rfl) rfl rfl (PT rfl rfl rfl (MV rfl rfl (SG (Ex.fieldAddr Tryz.underlying27 rfl Tryz.sizeOf3 (by decide) rfl) rfl rfl rfl (SG (Ex.load1 H rfl (by repeat first | exact kMh | apply kMt) Tryz.isAgg3 (by rfl)) rfl rfl rfl ?_))))
     refine WR.stepE (v' := .bool false) (Ex.eql rfl rfl) (congrArg Value.bool (decide_eq_false hk23)) (Wn.some rfl rfl rfl) rfl rfl (PT rfl rfl rfl (MV rfl rfl (WR.skipN 3 rfl rfl (PF rfl rfl rfl (MV rfl rfl (GF rfl rfl rfl (GF rfl rfl rfl (PF rfl rfl rfl (MV rfl rfl (WR.skipN 3 rfl rfl (PF rfl rfl rfl (MV rfl rfl (WR.skipN 4 rfl rfl (PF rfl rfl rfl (MV rfl rfl (WR.skipN 5 rfl rfl (PF rfl rfl rfl (MV rfl rfl (GF rfl rfl rfl (GF rfl rfl rfl (PF rfl rfl rfl (MV rfl rfl (WR.skipN 3 rfl rfl (PF rfl rfl rfl (MV rfl rfl (WR.skipN 5 rfl rfl (PF rfl rfl rfl (AS rfl rfl (NL ?_)))))))))))))))))))))))))))))
     exact WQ.meetN [(0, _)] ⟨rfl, trivial⟩ ⟨_, _, rfl, (H.pick (L' := []) (by repeat first | exact kPn | refine kPc (by repeat first | exact .head | apply Rem.tail) ?_)), hg_maxl, hg_tabs, e19⟩
   ·
    rw [if_neg hk22] at e19
    refine WR.stepE (v' := .bool true) (Ex.eql rfl rfl) (congrArg Value.bool (decide_eq_true hk21)) (Wn.none rfl) rfl rfl (MV rfl rfl (SG (Ex.fieldAddr Tryz.underlying27 rfl Tryz.sizeOf3 (by decide) rfl) rfl rfl rfl (SG (Ex.load1 H rfl (by repeat first | exact kMh | apply kMt) Tryz.isAgg3 (by rfl)) rfl rfl rfl ?_)))
    refine WR.stepE (v' := .bool false) (Ex.eql rfl rfl) (congrArg Value.bool (decide_eq_false hk22)) (Wn.some rfl rfl rfl) rfl rfl (PT rfl rfl rfl (MV rfl rfl (WR.skipN 3 rfl rfl (PF rfl rfl rfl (MV rfl rfl (WR.skipN 3 rfl rfl (PF rfl rfl rfl (MV rfl rfl (GF rfl rfl rfl (GF rfl rfl rfl (PF rfl rfl rfl (MV rfl rfl (WR.skipN 3 rfl rfl (PF rfl rfl rfl (MV rfl rfl (WR.skipN 4 rfl rfl (PF rfl rfl rfl (MV rfl rfl (WR.skipN 5 rfl rfl (PF rfl rfl rfl (MV rfl rfl (GF rfl rfl rfl (GF rfl rfl rfl (PF rfl rfl rfl (MV rfl rfl (WR.skipN 3 rfl rfl (PF rfl rfl rfl (MV rfl rfl (WR.skipN 5 rfl rfl (PF rfl rfl rfl (AS rfl rfl (NL ?_))))))))))))))))))))))))))))))))
    exact WQ.meetN [(0, _)] ⟨rfl, trivial⟩ ⟨_, _, rfl, (H.pick (L' := []) (by repeat first | exact kPn | refine kPc (by repeat first | exact .head | apply Rem.tail) ?_)), hg_maxl, hg_tabs, e19⟩
  ·
   rw [if_neg hk21] at e19
   refine WR.stepE (v' := .bool false) (Ex.eql rfl rfl) (congrArg Value.bool (decide_eq_false hk21)) (Wn.none rfl) rfl rfl (MV rfl rfl (WR.skipN 3 rfl rfl (PF rfl rfl rfl (MV rfl rfl (WR.skipN 3 rfl rfl (PF rfl rfl rfl (MV rfl rfl (WR.skipN 3 rfl rfl (PF rfl rfl rfl (MV rfl rfl (GF rfl rfl rfl (GF rfl rfl rfl (PF rfl rfl rfl (MV rfl rfl (WR.skipN 3 rfl rfl (PF rfl rfl rfl (MV rfl rfl (WR.skipN 4 rfl rfl (PF rfl rfl rfl (MV rfl rfl (WR.skipN 5 rfl rfl (PF rfl rfl rfl (MV rfl rfl (GF rfl rfl rfl (GF rfl rfl rfl (PF rfl rfl rfl (MV rfl rfl (WR.skipN 3 rfl rfl (PF rfl rfl rfl (MV rfl rfl (WR.skipN 5 rfl rfl (PF rfl rfl rfl (AS rfl rfl (NL ?_))))))))))))))))))))))))))))))))))
   exact WQ.meetN [(0, _)] ⟨rfl, trivial⟩ ⟨_, _, rfl, (H.pick (L' := []) (by repeat first | exact kPn | refine kPc (by repeat first | exact .head | apply Rem.tail) ?_)), hg_maxl, hg_tabs, e19⟩
 ·
  rintro e w ⟨b20, M, rfl, H, hg_maxl, hg_tabs, q34⟩
  obtain rfl := oI q34
  refine TN (RT ?_)
  obtain rfl := oI h
  exact WQ.ret1 rfl rfl H.ext rfl
theorem Y4y {p0 : UInt8} {p1 : List UInt8} {r : Bool} (h : R_OneOf p0 p1 = some r) : Ct Tryz.prog 26 [encB p0, S p1] (fun M => True) (fun v M => v = Value.bool r) := by
 refine Ct.of Tryz.func26 (enters Tryz.func26 (by kernel_rfl) rfl) rfl rfl rfl ?_
 intro w0 M0 H hp
 unfold R_OneOf at h
 refine SQ (RG (AS rfl rfl (NL (TN (SQ (SQ (RG (AS rfl rfl (NL (TN ?_))))))))))
 obtain ⟨o1, e2, h⟩ := bnd h
 refine WC.cutX (fun e w => ∃  (M : Mem), e = [] ∧ St w0 M0 M [] w ∧ some (.inl ()) = some o1) [] ?_ ?_ (trivial)
 ·
  refine BL (WC.loopP (fun m e w => ∃ (n3 : Int) (M : Mem), e = [(0, encB p0), (1, S p1), (5, I n3)] ∧ St w0 M0 M [] w ∧ Y2c p0 p1 m n3 = some o1) FU [(0, _), (1, _), (5, _)] ⟨rfl, rfl, rfl, trivial⟩ ⟨_, _, rfl, H, e2⟩ ?_)
  rintro m4 e w ⟨n3, M, rfl, H, e2⟩
  rcases m4 with _ | m4
  · rw [Y2c] at e2; cases e2
  rw [Y2c] at e2
  refine SQ (SQ (RG (MV rfl rfl (MV rfl rfl (ST (Ex.lenStr Tryz.underlying9 rfl) rfl (ST (Ex.lss rfl rfl) rfl (NL (TN ?_))))))))
  refine WC.condB rfl (fun hk5 => ?_) (fun hk5 => ?_)
  ·
   replace hk5 : n3 < (p1.length : Int) := of_decide_eq_true hk5
   rw [if_pos hk5] at e2
   refine SK (TN (SQ (BL (SQ ?_))))
   obtain ⟨c6, hxc6, e2⟩ := bnd e2
   refine RG (MV rfl rfl (MV rfl rfl (ST (Ex.idxStrC Tryz.underlying9 rfl rfl hxc6) rfl (MV rfl rfl (ST (Ex.eqlB (c := c6) (d := p0) rfl rfl) rfl (NL (TN ?_)))))))
   refine WC.condB rfl (fun hk7 => ?_) (fun hk7 => ?_)
   ·
    replace hk7 : c6 = p0 := of_decide_eq_true hk7
    rw [if_pos hk7] at e2
    refine SQ (RG (AS rfl rfl (NL (TN (RT ?_)))))
    obtain rfl := oI e2
    try dsimp only at h
    obtain rfl := oI h
    exact WQ.ret1 rfl rfl H.ext rfl
   ·
    replace hk7 : ¬ (c6 = p0) := of_decide_eq_false hk7
    rw [if_neg hk7] at e2
    refine SK (IB (TN ?_))
    obtain ⟨n8, hxn8, e2⟩ := bnd e2
    refine RG (MV rfl rfl (ST (Ex.addC rfl rfl hxn8) rfl (AS rfl rfl (NL ?_))))
    exact WQ.againP m4 [(0, _), (1, _), (5, _)] ⟨rfl, rfl, rfl, trivial⟩ ⟨_, _, rfl, H, e2⟩ (Nat.lt_succ_self _)
  ·
   replace hk5 : ¬ (n3 < (p1.length : Int)) := of_decide_eq_false hk5
   rw [if_neg hk5] at e2
   refine WC.exit (WQ.thenExit (WQ.thenExit (WQ.exitHere ?_)))
   exact WQ.meetN [] trivial ⟨_, rfl, H, e2⟩
 ·
  rintro e w ⟨M, rfl, H, q9⟩
  obtain rfl := oI q9
  try dsimp only at h
  refine TN (SQ (RG (AS rfl rfl (NL (TN (RT ?_))))))
  obtain rfl := oI h
  exact WQ.ret1 rfl rfl H.ext rfl
theorem Y3i {p0 : List (List UInt8 × List UInt8 × List UInt8)} {p1 : List (List UInt8 × List UInt8 × List UInt8)} {vp0 : Value} {vp1 : Value} {r : Bool} (h : Y1N p0 p1 = some r) : Ct Tryz.prog 15 [vp0, vp1] (fun M => SlS M 3 xenc24 vp0 p0 ∧ SlS M 3 xenc24 vp1 p1) (fun v M => v = Value.bool r) := by
 refine Ct.of Tryz.func15 (enters Tryz.func15 (by kernel_rfl) rfl) rfl rfl rfl ?_
 intro w0 M0 H hp
 obtain ⟨hp0, hp1⟩ := hp
 unfold Y1N at h
 refine SQ (RG (AS rfl rfl (NL (TN (SQ (SQ (RG (MV rfl rfl (ST (Ex.lenSlS Tryz.underlying30 hp0 rfl) rfl (MV rfl rfl (ST (Ex.lenSlS Tryz.underlying30 hp1 rfl) rfl (ST (Ex.neqC rfl rfl) rfl (NL (TN ?_))))))))))))))
 refine WC.condB rfl (fun hk1 => ?_) (fun hk1 => ?_)
 ·
  replace hk1 : ¬ ((p0.length : Int) = (p1.length : Int)) := of_not_decide hk1
  rw [if_neg hk1] at h
  refine SQ (RG (AS rfl rfl (NL (TN (RT ?_)))))
  obtain rfl := oI h
  exact WQ.ret1 rfl rfl H.ext rfl
 ·
  replace hk1 : (p0.length : Int) = (p1.length : Int) := of_not_decide' hk1
  rw [if_pos hk1] at h
  refine SK (TN (SQ (SQ (RG (AS rfl rfl (NL (TN ?_)))))))
  obtain ⟨o2, e3, h⟩ := bnd h
  refine WC.cutX (fun e w => ∃  (M : Mem), e = [] ∧ St w0 M0 M [] w ∧ some (.inl ()) = some o2) [] ?_ ?_ (trivial)
  ·
   refine BL (WC.loopP (fun m e w => ∃ (n4 : Int) (M : Mem), e = [(0, vp0), (1, vp1), (5, I n4)] ∧ St w0 M0 M [] w ∧ SlS M 3 xenc24 vp0 p0 ∧ SlS M 3 xenc24 vp1 p1 ∧ Y0y p0 p1 m n4 = some o2) FU [(0, _), (1, _), (5, _)] ⟨rfl, rfl, rfl, trivial⟩ ⟨_, _, rfl, H, hp0, hp1, e3⟩ ?_)
   rintro m5 e w ⟨n4, M, rfl, H, hp0, hp1, e3⟩
   rcases m5 with _ | m5
   · rw [Y0y] at e3; cases e3
   rw [Y0y] at e3
   refine SQ (SQ (RG (MV rfl rfl (MV rfl rfl (ST (Ex.lenSlS Tryz.underlying30 hp0 rfl) rfl (ST (Ex.lss rfl rfl) rfl (NL (TN ?_))))))))
   refine WC.condB rfl (fun hk6 => ?_) (fun hk6 => ?_)
   ·
    replace hk6 : n4 < (p0.length : Int) := of_decide_eq_true hk6
    rw [if_pos hk6] at e3
    refine SK (TN (SQ (BL (SQ ?_))))
    obtain ⟨a7, hxa7, e3⟩ := bnd e3
    obtain ⟨bk19, o19, ha19, hc19⟩ := hp0.atC hxa7
    obtain ⟨a8, hxa8, e3⟩ := bnd e3
    obtain ⟨bk23, o23, ha23, hc23⟩ := hp1.atC hxa8
    refine WC.draw (m := 9) rfl rfl H ?_
    intro w H
    refine WA.take (i := 0) rfl (by kernel_rfl) (by kernel_rfl) (by kernel_rfl) (fun _ => Ex.move rfl) (Wn.none rfl) rfl rfl (fun _ _ => rfl) (WA.take (i := 1) rfl (by kernel_rfl) (by kernel_rfl) (by kernel_rfl) (fun _ => Ex.move rfl) (Wn.none rfl) rfl rfl (fun _ _ => rfl) (WA.take (i := 2) rfl (by kernel_rfl) (by kernel_rfl) (by kernel_rfl) (fun _ => Ex.idxAt ha19 Tryz.underlying30 Tryz.sizeOf24 rfl rfl) (Wn.none rfl) rfl rfl (fun _ _ => rfl) (WA.take (i := 4) rfl (by kernel_rfl) (by kernel_rfl) (by kernel_rfl) (fun _ => Ex.move rfl) (Wn.none rfl) rfl rfl (fun _ _ => rfl) (WA.take (i := 5) rfl (by kernel_rfl) (by kernel_rfl) (by kernel_rfl) (fun _ => Ex.move rfl) (Wn.none rfl) rfl rfl (fun _ _ => rfl) (WA.take (i := 6) rfl (by kernel_rfl) (by kernel_rfl) (by kernel_rfl) (fun _ => Ex.idxAt ha23 Tryz.underlying30 Tryz.sizeOf24 rfl rfl) (Wn.none rfl) rfl rfl (fun _ _ => rfl) (WA.takeM (i := 3) [7] rfl (by kernel_rfl) (by kernel_rfl) (by kernel_rfl) (Ex.loadAggM H rfl hc19 Tryz.isAgg24 Tryz.sizeOf24 (by rfl)) (Wn.none rfl) rfl rfl (fun _ _ => rfl) ?_))))))
    refine WA.seq (fuel := 0) [7, 8] rfl (by kernel_rfl) (ST (Ex.loadAggM H rfl hc23 Tryz.isAgg24 Tryz.sizeOf24 (by rfl)) rfl ?_)
    refine ST (Ex.neqAggC rfl rfl (by kernel_rfl) (xeq24 a7.1 a8.1 a7.2.1 a8.2.1 a7.2.2 a8.2.2)) rfl (NA (WA.done (by kernel_rfl) (TN ?_)))
    refine WC.condB rfl (fun hk9 => ?_) (fun hk9 => ?_)
    ·
     replace hk9 : ¬ (a7.1 = a8.1 ∧ a7.2.1 = a8.2.1 ∧ a7.2.2 = a8.2.2) := of_not_decide hk9
     rw [if_neg hk9] at e3
     refine SQ (RG (AS rfl rfl (NL (TN (RT ?_)))))
     obtain rfl := oI e3
     try dsimp only at h
     obtain rfl := oI h
     exact WQ.ret1 rfl rfl H.ext rfl
    ·
     replace hk9 : a7.1 = a8.1 ∧ a7.2.1 = a8.2.1 ∧ a7.2.2 = a8.2.2 := of_not_decide' hk9
     rw [if_pos hk9] at e3
     refine SK (IB (TN ?_))
     obtain ⟨n10, hxn10, e3⟩ := bnd e3
     refine RG (MV rfl rfl (ST (Ex.addC rfl rfl hxn10) rfl (AS rfl rfl (NL ?_))))
     exact WQ.againP m5 [(0, _), (1, _), (5, _)] ⟨rfl, rfl, rfl, trivial⟩ ⟨_, _, rfl, H, hp0, hp1, e3⟩ (Nat.lt_succ_self _)
   ·
    replace hk6 : ¬ (n4 < (p0.length : Int)) := of_decide_eq_false hk6
    rw [if_neg hk6] at e3
    refine WC.exit (WQ.thenExit (WQ.thenExit (WQ.exitHere ?_)))
    exact WQ.meetN [] trivial ⟨_, rfl, H, e3⟩
  ·
   rintro e w ⟨M, rfl, H, q11⟩
   obtain rfl := oI q11
   try dsimp only at h
   refine TN (SQ (RG (AS rfl rfl (NL (TN (RT ?_))))))
   obtain rfl := oI h
   exact WQ.ret1 rfl rfl H.ext rfl
theorem Y3W {p0 : List (List UInt8 × Bool × List (List UInt8 × List UInt8 × List UInt8))} {p1 : List (List UInt8 × Bool × List (List UInt8 × List UInt8 × List UInt8))} {vp0 : Value} {vp1 : Value} {r : Bool} (h : Y2M p0 p1 = some r) : Ct Tryz.prog 22 [vp0, vp1] (fun M => SlR xrl34 M vp0 p0 ∧ SlR xrl34 M vp1 p1) (fun v M => v = Value.bool r) := by
 refine Ct.of Tryz.func22 (enters Tryz.func22 (by kernel_rfl) rfl) rfl rfl rfl ?_
 intro w0 M0 H hp
 obtain ⟨hp0, hp1⟩ := hp
 unfold Y2M at h
 refine SQ (RG (AS rfl rfl (NL (TN (SQ (SQ (RG (MV rfl rfl (ST (Ex.lenSlR Tryz.underlying22 hp0 rfl) rfl (MV rfl rfl (ST (Ex.lenSlR Tryz.underlying22 hp1 rfl) rfl (ST (Ex.neqC rfl rfl) rfl (NL (TN ?_))))))))))))))
 refine WC.condB rfl (fun hk1 => ?_) (fun hk1 => ?_)
 ·
  replace hk1 : ¬ ((p0.length : Int) = (p1.length : Int)) := of_not_decide hk1
  rw [if_neg hk1] at h
  refine SQ (RG (AS rfl rfl (NL (TN (RT ?_)))))
  obtain rfl := oI h
  exact WQ.ret1 rfl rfl H.ext rfl
 ·
  replace hk1 : (p0.length : Int) = (p1.length : Int) := of_not_decide' hk1
  rw [if_pos hk1] at h
  refine SK (TN (SQ (SQ (RG (AS rfl rfl (NL (TN ?_)))))))
  obtain ⟨o2, e3, h⟩ := bnd h
  refine WC.cutX (fun e w => ∃  (M : Mem), e = [] ∧ St w0 M0 M [] w ∧ some (.inl ()) = some o2) [] ?_ ?_ (trivial)
  ·
   refine BL (WC.loopP (fun m e w => ∃ (n4 : Int) (M : Mem), e = [(0, vp0), (1, vp1), (5, I n4)] ∧ St w0 M0 M [] w ∧ SlR xrl34 M vp0 p0 ∧ SlR xrl34 M vp1 p1 ∧ Y17 p0 p1 m n4 = some o2) FU [(0, _), (1, _), (5, _)] ⟨rfl, rfl, rfl, trivial⟩ ⟨_, _, rfl, H, hp0, hp1, e3⟩ ?_)
   rintro m5 e w ⟨n4, M, rfl, H, hp0, hp1, e3⟩
   rcases m5 with _ | m5
   · rw [Y17] at e3; cases e3
   rw [Y17] at e3
   refine SQ (SQ (RG (MV rfl rfl (MV rfl rfl (ST (Ex.lenSlR Tryz.underlying22 hp0 rfl) rfl (ST (Ex.lss rfl rfl) rfl (NL (TN ?_))))))))
   refine WC.condB rfl (fun hk6 => ?_) (fun hk6 => ?_)
   ·
    replace hk6 : n4 < (p0.length : Int) := of_decide_eq_true hk6
    rw [if_pos hk6] at e3
    refine SK (TN (SQ (BL (SQ ?_))))
    obtain ⟨o7, e8, e3⟩ := bnd e3
    refine WC.cutX (fun e w => ∃ (b9 : Bool) (M : Mem), e = [(0, vp0), (1, vp1), (5, I n4), (54, Value.bool b9)] ∧ St w0 M0 M [] w ∧ SlR xrl34 M vp0 p0 ∧ SlR xrl34 M vp1 p1 ∧ some b9 = some o7) [] ?_ ?_ (trivial)
    ·
     obtain ⟨a10, hxa10, e8⟩ := bnd e8
     obtain ⟨bk19, o19, fq19, ha19, hc19, hr19⟩ := hp0.atC hxa10
     obtain ⟨f19_0, f19_1, q19_2⟩ := fq19
     replace hr19 : f19_0 = a10.1 ∧ f19_1 = a10.2.1 ∧ SlS M 3 xenc24 (hv q19_2) a10.2.2 := hr19
     obtain ⟨rfl, rfl, hs19_2⟩ := hr19
     obtain ⟨a11, hxa11, e8⟩ := bnd e8
     obtain ⟨bk24, o24, fq24, ha24, hc24, hr24⟩ := hp1.atC hxa11
     obtain ⟨f24_0, f24_1, q24_2⟩ := fq24
     replace hr24 : f24_0 = a11.1 ∧ f24_1 = a11.2.1 ∧ SlS M 3 xenc24 (hv q24_2) a11.2.2 := hr24
     obtain ⟨rfl, rfl, hs24_2⟩ := hr24
     refine WC.draw (m := 38) rfl rfl H ?_
     intro w H
     refine WA.take (i := 0) rfl (by kernel_rfl) (by kernel_rfl) (by kernel_rfl) (fun _ => Ex.move rfl) (Wn.none rfl) rfl rfl (fun _ _ => rfl) (WA.take (i := 1) rfl (by kernel_rfl) (by kernel_rfl) (by kernel_rfl) (fun _ => Ex.move rfl) (Wn.none rfl) rfl rfl (fun _ _ => rfl) (WA.take (i := 2) rfl (by kernel_rfl) (by kernel_rfl) (by kernel_rfl) (fun _ => Ex.idxAt ha19 Tryz.underlying22 Tryz.sizeOf34 rfl rfl) (Wn.none rfl) rfl rfl (fun _ _ => rfl) (WA.take (i := 3) rfl (by kernel_rfl) (by kernel_rfl) (by kernel_rfl) (fun _ => Ex.fieldAddr Tryz.underlying34 rfl Tryz.sizeOf9 (by decide) rfl) (Wn.none rfl) rfl rfl (fun _ _ => rfl) (WA.take (i := 5) rfl (by kernel_rfl) (by kernel_rfl) (by kernel_rfl) (fun _ => Ex.move rfl) (Wn.none rfl) rfl rfl (fun _ _ => rfl) (WA.take (i := 6) rfl (by kernel_rfl) (by kernel_rfl) (by kernel_rfl) (fun _ => Ex.move rfl) (Wn.none rfl) rfl rfl (fun _ _ => rfl) (WA.take (i := 7) rfl (by kernel_rfl) (by kernel_rfl) (by kernel_rfl) (fun _ => Ex.idxAt ha24 Tryz.underlying22 Tryz.sizeOf34 rfl rfl) (Wn.none rfl) rfl rfl (fun _ _ => rfl) ?_))))))
     refine WA.take (i := 8) rfl (by kernel_rfl) (by kernel_rfl) (by kernel_rfl) (fun _ => Ex.fieldAddr Tryz.underlying34 rfl Tryz.sizeOf9 (by decide) rfl) (Wn.none rfl) rfl rfl (fun _ _ => rfl) (WA.takeM (i := 4) [9] rfl (by kernel_rfl) (by kernel_rfl) (by kernel_rfl) (Ex.loadM H rfl (hc19.at (j := 0) rfl) Tryz.isAgg9) (Wn.none rfl) rfl rfl (fun _ _ => rfl) (ON 9 (by kernel_rfl) rfl (ST (Ex.loadM H rfl (hc24.at (j := 0) rfl) Tryz.isAgg9) rfl (NA ?_))))
     by_cases hk12 : a10.1 = a11.1
     ·
      rw [if_pos hk12] at e8
      obtain ⟨a13, hxa13, e8⟩ := bnd e8
      obtain ⟨bk31, o31, fq31, ha31, hc31, hr31⟩ := hp0.atC hxa13
      obtain ⟨f31_0, f31_1, q31_2⟩ := fq31
      replace hr31 : f31_0 = a13.1 ∧ f31_1 = a13.2.1 ∧ SlS M 3 xenc24 (hv q31_2) a13.2.2 := hr31
      obtain ⟨rfl, rfl, hs31_2⟩ := hr31
      obtain ⟨a14, hxa14, e8⟩ := bnd e8
      obtain ⟨bk36, o36, fq36, ha36, hc36, hr36⟩ := hp1.atC hxa14
      obtain ⟨f36_0, f36_1, q36_2⟩ := fq36
      replace hr36 : f36_0 = a14.1 ∧ f36_1 = a14.2.1 ∧ SlS M 3 xenc24 (hv q36_2) a14.2.2 := hr36
      obtain ⟨rfl, rfl, hs36_2⟩ := hr36
      by_cases hk15 : a13.2.1 = a14.2.1
      ·
       rw [if_pos hk15] at e8
       obtain ⟨a16, hxa16, e8⟩ := bnd e8
       obtain ⟨bk44, o44, fq44, ha44, hc44, hr44⟩ := hp0.atC hxa16
       obtain ⟨f44_0, f44_1, q44_2⟩ := fq44
       replace hr44 : f44_0 = a16.1 ∧ f44_1 = a16.2.1 ∧ SlS M 3 xenc24 (hv q44_2) a16.2.2 := hr44
       obtain ⟨rfl, rfl, hs44_2⟩ := hr44
       obtain ⟨a17, hxa17, e8⟩ := bnd e8
       obtain ⟨bk49, o49, fq49, ha49, hc49, hr49⟩ := hp1.atC hxa17
       obtain ⟨f49_0, f49_1, q49_2⟩ := fq49
       replace hr49 : f49_0 = a17.1 ∧ f49_1 = a17.2.1 ∧ SlS M 3 xenc24 (hv q49_2) a17.2.2 := hr49
       obtain ⟨rfl, rfl, hs49_2⟩ := hr49
       obtain ⟨b18, hx19, e8⟩ := bnd e8
       refine WA.seq (fuel := 26) [10, 11] rfl (by kernel_rfl) (WR.stepE (v' := .bool false) (Ex.strNeqC rfl rfl) (congrArg Value.bool (by rw [decide_eq_true hk12]; rfl)) (Wn.none rfl) rfl rfl ?_)
       refine MV rfl rfl (NA (WA.take (i := 12) rfl (by kernel_rfl) (by kernel_rfl) (by kernel_rfl) (fun _ => Ex.move rfl) (Wn.some rfl rfl rfl) rfl rfl (fun _ _ => rfl) (WA.take (i := 13) rfl (by kernel_rfl) (by kernel_rfl) (by kernel_rfl) (fun _ => Ex.move rfl) (Wn.some rfl rfl rfl) rfl rfl (fun _ _ => rfl) (WA.take (i := 14) rfl (by kernel_rfl) (by kernel_rfl) (by kernel_rfl) (fun _ => Ex.idxAt ha31 Tryz.underlying22 Tryz.sizeOf34 rfl rfl) (Wn.some rfl rfl rfl) rfl rfl (fun _ _ => rfl) (WA.take (i := 15) rfl (by kernel_rfl) (by kernel_rfl) (by kernel_rfl) (fun _ => Ex.fieldAddr Tryz.underlying34 rfl Tryz.sizeOf4 (by decide) rfl) (Wn.some rfl rfl rfl) rfl rfl (fun _ _ => rfl) (WA.take (i := 17) rfl (by kernel_rfl) (by kernel_rfl) (by kernel_rfl) (fun _ => Ex.move rfl) (Wn.some rfl rfl rfl) rfl rfl (fun _ _ => rfl) (WA.take (i := 18) rfl (by kernel_rfl) (by kernel_rfl) (by kernel_rfl) (fun _ => Ex.move rfl) (Wn.some rfl rfl rfl) rfl rfl (fun _ _ => rfl) ?_)))))))
       refine WA.take (i := 19) rfl (by kernel_rfl) (by kernel_rfl) (by kernel_rfl) (fun _ => Ex.idxAt ha36 Tryz.underlying22 Tryz.sizeOf34 rfl rfl) (Wn.some rfl rfl rfl) rfl rfl (fun _ _ => rfl) (WA.take (i := 20) rfl (by kernel_rfl) (by kernel_rfl) (by kernel_rfl) (fun _ => Ex.fieldAddr Tryz.underlying34 rfl Tryz.sizeOf4 (by decide) rfl) (Wn.some rfl rfl rfl) rfl rfl (fun _ _ => rfl) (WA.takeM (i := 16) [21] rfl (by kernel_rfl) (by kernel_rfl) (by kernel_rfl) (Ex.loadM H rfl (hc31.at (j := 1) rfl) Tryz.isAgg4) (Wn.some rfl rfl rfl) rfl rfl (fun _ _ => rfl) (WA.seq (fuel := 13) [21, 22, 23, 24] rfl (by kernel_rfl) (SG (Ex.loadM H rfl (hc36.at (j := 1) rfl) Tryz.isAgg4) rfl rfl rfl (WR.stepE (v' := .bool false) (Ex.neqBo Tryz.underlying4 rfl rfl) (congrArg Value.bool (by rw [decide_eq_true hk15]; rfl)) (Wn.some rfl rfl rfl) rfl rfl ?_)))))
       refine PF rfl rfl rfl (MV rfl rfl (NA (WA.take (i := 25) rfl (by kernel_rfl) (by kernel_rfl) (by kernel_rfl) (fun _ => Ex.move rfl) (Wn.some rfl rfl rfl) rfl rfl (fun _ _ => rfl) (WA.take (i := 26) rfl (by kernel_rfl) (by kernel_rfl) (by kernel_rfl) (fun _ => Ex.move rfl) (Wn.some rfl rfl rfl) rfl rfl (fun _ _ => rfl) (WA.take (i := 27) rfl (by kernel_rfl) (by kernel_rfl) (by kernel_rfl) (fun _ => Ex.idxAt ha44 Tryz.underlying22 Tryz.sizeOf34 rfl rfl) (Wn.some rfl rfl rfl) rfl rfl (fun _ _ => rfl) (WA.take (i := 28) rfl (by kernel_rfl) (by kernel_rfl) (by kernel_rfl) (fun _ => Ex.fieldAddr Tryz.underlying34 rfl Tryz.sizeOf30 (by decide) rfl) (Wn.some rfl rfl rfl) rfl rfl (fun _ _ => rfl) (WA.take (i := 30) rfl (by kernel_rfl) (by kernel_rfl) (by kernel_rfl) (fun _ => Ex.move rfl) (Wn.some rfl rfl rfl) rfl rfl (fun _ _ => rfl) (WA.take (i := 31) rfl (by kernel_rfl) (by kernel_rfl) (by kernel_rfl) (fun _ => Ex.move rfl) (Wn.some rfl rfl rfl) rfl rfl (fun _ _ => rfl) ?_))))))))
       refine WA.take (i := 32) rfl (by kernel_rfl) (by kernel_rfl) (by kernel_rfl) (fun _ => Ex.idxAt ha49 Tryz.underlying22 Tryz.sizeOf34 rfl rfl) (Wn.some rfl rfl rfl) rfl rfl (fun _ _ => rfl) (WA.take (i := 33) rfl (by kernel_rfl) (by kernel_rfl) (by kernel_rfl) (fun _ => Ex.fieldAddr Tryz.underlying34 rfl Tryz.sizeOf30 (by decide) rfl) (Wn.some rfl rfl rfl) rfl rfl (fun _ _ => rfl) (WA.takeM (i := 29) [34] rfl (by kernel_rfl) (by kernel_rfl) (by kernel_rfl) (Ex.loadM H rfl (hc44.at (j := 2) rfl) Tryz.isAgg30) (Wn.some rfl rfl rfl) rfl rfl (fun _ _ => rfl) (WA.seq (fuel := 0) [34, 35, 36, 37] rfl (by kernel_rfl) (SG (Ex.loadM H rfl (hc49.at (j := 2) rfl) Tryz.isAgg30) rfl rfl rfl (WR.call H (Y3i hx19) rfl ⟨hs44_2, hs49_2⟩ (Wn.some rfl rfl rfl) rfl ?_)))))
       intro v52 M w H hle hR
       replace hp0 := hp0.mono hle
       replace hp1 := hp1.mono hle
       replace hc19 := hc19.mono hle
       replace hs19_2 := hs19_2.mono hle
       replace hc24 := hc24.mono hle
       replace hs24_2 := hs24_2.mono hle
       replace hc31 := hc31.mono hle
       replace hs31_2 := hs31_2.mono hle
       replace hc36 := hc36.mono hle
       replace hs36_2 := hs36_2.mono hle
       replace hc44 := hc44.mono hle
       replace hs44_2 := hs44_2.mono hle
       replace hc49 := hc49.mono hle
       replace hs49_2 := hs49_2.mono hle
       obtain rfl := hR
       refine SG (Ex.not rfl) rfl rfl rfl (PF rfl rfl rfl (NA (WA.done (by kernel_rfl) ?_)))
       exact WQ.meetN [(0, _), (1, _), (5, _), (54, _)] ⟨rfl, rfl, rfl, rfl, trivial⟩ ⟨_, _, rfl, H, hp0, hp1, e8⟩
      ·
       rw [if_neg hk15] at e8
       refine WA.seq (fuel := 26) [10, 11] rfl (by kernel_rfl) (WR.stepE (v' := .bool false) (Ex.strNeqC rfl rfl) (congrArg Value.bool (by rw [decide_eq_true hk12]; rfl)) (Wn.none rfl) rfl rfl ?_)
       refine MV rfl rfl (NA (WA.take (i := 12) rfl (by kernel_rfl) (by kernel_rfl) (by kernel_rfl) (fun _ => Ex.move rfl) (Wn.some rfl rfl rfl) rfl rfl (fun _ _ => rfl) (WA.take (i := 13) rfl (by kernel_rfl) (by kernel_rfl) (by kernel_rfl) (fun _ => Ex.move rfl) (Wn.some rfl rfl rfl) rfl rfl (fun _ _ => rfl) (WA.take (i := 14) rfl (by kernel_rfl) (by kernel_rfl) (by kernel_rfl) (fun _ => Ex.idxAt ha31 Tryz.underlying22 Tryz.sizeOf34 rfl rfl) (Wn.some rfl rfl rfl) rfl rfl (fun _ _ => rfl) (WA.take (i := 15) rfl (by kernel_rfl) (by kernel_rfl) (by kernel_rfl) (fun _ => Ex.fieldAddr Tryz.underlying34 rfl Tryz.sizeOf4 (by decide) rfl) (Wn.some rfl rfl rfl) rfl rfl (fun _ _ => rfl) (WA.take (i := 17) rfl (by kernel_rfl) (by kernel_rfl) (by kernel_rfl) (fun _ => Ex.move rfl) (Wn.some rfl rfl rfl) rfl rfl (fun _ _ => rfl) (WA.take (i := 18) rfl (by kernel_rfl) (by kernel_rfl) (by kernel_rfl) (fun _ => Ex.move rfl) (Wn.some rfl rfl rfl) rfl rfl (fun _ _ => rfl) ?_)))))))
       refine WA.take (i := 19) rfl (by kernel_rfl) (by kernel_rfl) (by kernel_rfl) (fun _ => Ex.idxAt ha36 Tryz.underlying22 Tryz.sizeOf34 rfl rfl) (Wn.some rfl rfl rfl) rfl rfl (fun _ _ => rfl) (WA.take (i := 20) rfl (by kernel_rfl) (by kernel_rfl) (by kernel_rfl) (fun _ => Ex.fieldAddr Tryz.underlying34 rfl Tryz.sizeOf4 (by decide) rfl) (Wn.some rfl rfl rfl) rfl rfl (fun _ _ => rfl) (WA.takeM (i := 16) [21] rfl (by kernel_rfl) (by kernel_rfl) (by kernel_rfl) (Ex.loadM H rfl (hc31.at (j := 1) rfl) Tryz.isAgg4) (Wn.some rfl rfl rfl) rfl rfl (fun _ _ => rfl) (WA.seq (fuel := 13) [21, 22, 23, 24] rfl (by kernel_rfl) (SG (Ex.loadM H rfl (hc36.at (j := 1) rfl) Tryz.isAgg4) rfl rfl rfl (WR.stepE (v' := .bool true) (Ex.neqBo Tryz.underlying4 rfl rfl) (congrArg Value.bool (by rw [decide_eq_false hk15]; rfl)) (Wn.some rfl rfl rfl) rfl rfl ?_)))))
       refine PF rfl rfl rfl (MV rfl rfl (NA (WA.takes (fuel := 7) [25, 26, 27, 28, 29, 30] rfl (by kernel_rfl) (by kernel_rfl) rfl (WA.seq (fuel := 0) [31, 32, 33, 34, 35, 36, 37] rfl (by kernel_rfl) (WR.skipN 6 rfl rfl (PT rfl rfl rfl (NA (WA.done (by kernel_rfl) ?_))))))))
       exact WQ.meetN [(0, _), (1, _), (5, _), (54, _)] ⟨rfl, rfl, rfl, rfl, trivial⟩ ⟨_, _, rfl, H, hp0, hp1, e8⟩
     ·
      rw [if_neg hk12] at e8
      refine WA.seq (fuel := 26) [10, 11] rfl (by kernel_rfl) (WR.stepE (v' := .bool true) (Ex.strNeqC rfl rfl) (congrArg Value.bool (by rw [decide_eq_false hk12]; rfl)) (Wn.none rfl) rfl rfl ?_)
      refine MV rfl rfl (NA (WA.takes (fuel := 20) [12, 13, 14, 15, 16, 17] rfl (by kernel_rfl) (by kernel_rfl) rfl (WA.seq (fuel := 13) [18, 19, 20, 21, 22, 23, 24] rfl (by kernel_rfl) (WR.skipN 5 rfl rfl (PT rfl rfl rfl (MV rfl rfl (NA (WA.takes (fuel := 7) [25, 26, 27, 28, 29, 30] rfl (by kernel_rfl) (by kernel_rfl) rfl (WA.seq (fuel := 0) [31, 32, 33, 34, 35, 36, 37] rfl (by kernel_rfl) (WR.skipN 6 rfl rfl (PT rfl rfl rfl (NA (WA.done (by kernel_rfl) ?_)))))))))))))
      exact WQ.meetN [(0, _), (1, _), (5, _), (54, _)] ⟨rfl, rfl, rfl, rfl, trivial⟩ ⟨_, _, rfl, H, hp0, hp1, e8⟩
    ·
     rintro e w ⟨b9, M, rfl, H, hp0, hp1, q20⟩
     obtain rfl := oI q20
     refine TN ?_
     refine WC.condB rfl (fun hk21 => ?_) (fun hk21 => ?_)
     ·
      subst hk21
      rw [if_pos rfl] at e3
      refine SQ (RG (AS rfl rfl (NL (TN (RT ?_)))))
      obtain rfl := oI e3
      try dsimp only at h
      obtain rfl := oI h
      exact WQ.ret1 rfl rfl H.ext rfl
     ·
      subst hk21
      rw [if_neg Bool.false_ne_true] at e3
      refine SK (IB (TN ?_))
      obtain ⟨n22, hxn22, e3⟩ := bnd e3
      refine RG (MV rfl rfl (ST (Ex.addC rfl rfl hxn22) rfl (AS rfl rfl (NL ?_))))
      exact WQ.againP m5 [(0, _), (1, _), (5, _)] ⟨rfl, rfl, rfl, trivial⟩ ⟨_, _, rfl, H, hp0, hp1, e3⟩ (Nat.lt_succ_self _)
   ·
    replace hk6 : ¬ (n4 < (p0.length : Int)) := of_decide_eq_false hk6
    rw [if_neg hk6] at e3
    refine WC.exit (WQ.thenExit (WQ.thenExit (WQ.exitHere ?_)))
    exact WQ.meetN [] trivial ⟨_, rfl, H, e3⟩
  ·
   rintro e w ⟨M, rfl, H, q23⟩
   obtain rfl := oI q23
   try dsimp only at h
   refine TN (SQ (RG (AS rfl rfl (NL (TN (RT ?_))))))
   obtain rfl := oI h
   exact WQ.ret1 rfl rfl H.ext rfl
end Go.Proofs.YtkmjdamkifbddaaGreatDoor
end
section
namespace Go.Proofs.YtkmjdamkifbddaaGreatDoor
open Go Go.RowKit Go.Ph Go.Ph.Pl Go.Ph.Pf
theorem Y3T {p0 : List UInt8} {p1 : List UInt8} {r : Bool} (h : Y2d p0 p1 = some r) : Ct Tryz.prog 7 [S p0, S p1] (fun M => GlF (fun w => ∃ m, w.cell? ⟨2, 0, none⟩ = some (.int .i64 m)) M ∧ Tabs M) (fun v M => v = Value.bool r) := by
 refine Ct.of Tryz.func7 (enters Tryz.func7 (by kernel_rfl) rfl) rfl rfl rfl ?_
 intro w0 M0 H hp
 obtain ⟨hg_maxl, hg_tabs⟩ := hp
 unfold Y2d at h
 refine SQ (RG (AS rfl rfl (NL (TN (SQ (SQ ?_))))))
 obtain ⟨b1, hx2, h⟩ := bnd h
 refine RG (WR.call H (Y2q hx2) rfl ⟨hg_maxl, hg_tabs⟩ (Wn.none rfl) rfl ?_)
 intro v10 M w H hle hR
 replace hg_maxl := hg_maxl.mono hle
 replace hg_tabs := hg_tabs.mono hle
 obtain rfl := hR
 refine ST (Ex.not rfl) rfl (NL (TN ?_))
 refine WC.condB rfl (fun hk3 => ?_) (fun hk3 => ?_)
 ·
  replace hk3 : b1 = false := by simpa using hk3
  subst hk3
  rw [if_neg Bool.false_ne_true] at h
  refine SQ (RG (AS rfl rfl (NL (TN (RT ?_)))))
  obtain rfl := oI h
  exact WQ.ret1 rfl rfl H.ext rfl
 ·
  replace hk3 : b1 = true := by simpa using hk3
  subst hk3
  rw [if_pos rfl] at h
  refine SK (TN (SQ (SQ (RG (AS rfl rfl (NL (TN ?_)))))))
  obtain ⟨o4, e5, h⟩ := bnd h
  refine WC.cutX (fun e w => ∃  (M : Mem), e = [(0, S p0), (1, S p1)] ∧ St w0 M0 M [] w ∧ GlF (fun w => ∃ m, w.cell? ⟨2, 0, none⟩ = some (.int .i64 m)) M ∧ Tabs M ∧ some (.inl ()) = some o4) [] ?_ ?_ (trivial)
  ·
   refine BL (WC.loopP (fun m e w => ∃ (n6 : Int) (M : Mem), e = [(0, S p0), (1, S p1), (5, I n6)] ∧ St w0 M0 M [] w ∧ GlF (fun w => ∃ m, w.cell? ⟨2, 0, none⟩ = some (.int .i64 m)) M ∧ Tabs M ∧ Y0e p1 m n6 = some o4) FU [(0, _), (1, _), (5, _)] ⟨rfl, rfl, rfl, trivial⟩ ⟨_, _, rfl, H, hg_maxl, hg_tabs, e5⟩ ?_)
   rintro m7 e w ⟨n6, M, rfl, H, hg_maxl, hg_tabs, e5⟩
   rcases m7 with _ | m7
   · rw [Y0e] at e5; cases e5
   rw [Y0e] at e5
   refine SQ (SQ (RG (MV rfl rfl (MV rfl rfl (ST (Ex.lenStr Tryz.underlying9 rfl) rfl (ST (Ex.lss rfl rfl) rfl (NL (TN ?_))))))))
   refine WC.condB rfl (fun hk8 => ?_) (fun hk8 => ?_)
   ·
    replace hk8 : n6 < (p1.length : Int) := of_decide_eq_true hk8
    rw [if_pos hk8] at e5
    refine SK (TN (SQ (BL (SQ ?_))))
    obtain ⟨c9, hxc9, e5⟩ := bnd e5
    obtain ⟨b10, hx11, e5⟩ := bnd e5
    refine RG (MV rfl rfl (MV rfl rfl (ST (Ex.idxStrC Tryz.underlying9 rfl rfl hxc9) rfl (WR.call H (Y4y hx11) rfl trivial (Wn.none rfl) rfl ?_))))
    intro v21 M w H hle hR
    replace hg_maxl := hg_maxl.mono hle
    replace hg_tabs := hg_tabs.mono hle
    obtain rfl := hR
    refine NL (TN ?_)
    refine WC.condB rfl (fun hk12 => ?_) (fun hk12 => ?_)
    ·
     subst hk12
     rw [if_pos rfl] at e5
     refine SQ (RG (AS rfl rfl (NL (TN (RT ?_)))))
     obtain rfl := oI e5
     try dsimp only at h
     obtain rfl := oI h
     exact WQ.ret1 rfl rfl H.ext rfl
    ·
     subst hk12
     rw [if_neg Bool.false_ne_true] at e5
     refine SK (IB (TN ?_))
     obtain ⟨n13, hxn13, e5⟩ := bnd e5
     refine RG (MV rfl rfl (ST (Ex.addC rfl rfl hxn13) rfl (AS rfl rfl (NL ?_))))
     exact WQ.againP m7 [(0, _), (1, _), (5, _)] ⟨rfl, rfl, rfl, trivial⟩ ⟨_, _, rfl, H, hg_maxl, hg_tabs, e5⟩ (Nat.lt_succ_self _)
   ·
    replace hk8 : ¬ (n6 < (p1.length : Int)) := of_decide_eq_false hk8
    rw [if_neg hk8] at e5
    refine WC.exit (WQ.thenExit (WQ.thenExit (WQ.exitHere ?_)))
    exact WQ.meetN [(0, _), (1, _)] ⟨rfl, rfl, trivial⟩ ⟨_, rfl, H, hg_maxl, hg_tabs, e5⟩
  ·
   rintro e w ⟨M, rfl, H, hg_maxl, hg_tabs, q14⟩
   obtain rfl := oI q14
   try dsimp only at h
   refine TN (SQ (SQ ?_))
   obtain ⟨n15, hxn15, h⟩ := bnd h
   obtain ⟨n16, hxn16, h⟩ := bnd h
   refine RG (MV rfl rfl (ST (Ex.lenStr Tryz.underlying9 rfl) rfl (MV rfl rfl (ST (Ex.lenStr Tryz.underlying9 rfl) rfl (ST (Ex.mulC rfl rfl hxn15) rfl (ST (Ex.addC rfl rfl hxn16) rfl (ST (Ex.gtr rfl rfl) rfl (NL (TN ?_)))))))))
   refine WC.condB rfl (fun hk17 => ?_) (fun hk17 => ?_)
   ·
    replace hk17 : (3900 : Int) < n16 := of_decide_eq_true hk17
    rw [if_pos hk17] at h
    refine SQ (RG (AS rfl rfl (NL (TN (RT ?_)))))
    obtain rfl := oI h
    exact WQ.ret1 rfl rfl H.ext rfl
   ·
    replace hk17 : ¬ ((3900 : Int) < n16) := of_decide_eq_false hk17
    rw [if_neg hk17] at h
    refine SK (TN (SQ ?_))
    obtain ⟨⟨l18, ⟨n19, n20⟩⟩, hx21, h⟩ := bnd h
    try dsimp only at h
    refine RG (MV rfl rfl (WR.call H (Y2n hx21) rfl ⟨hg_maxl, hg_tabs⟩ (Wn.none rfl) rfl ?_))
    intro v31 M w H hle hR
    replace hg_maxl := hg_maxl.mono hle
    replace hg_tabs := hg_tabs.mono hle
    try dsimp only at hR
    obtain ⟨x31_0, rfl, f31_0⟩ := hR
    refine MV rfl rfl (ST (Ex.extract rfl rfl) rfl (ST (Ex.extract rfl rfl) rfl (WR.alloc [_, _] H Tryz.zeroValue27 rfl (Wn.none rfl) rfl ?_)))
    intro bk7 w H
    refine AS rfl rfl (WR.store [_, _] H rfl rfl rfl (by repeat first | exact .head | apply Upd.tail) Tryz.sizeOf27 rfl (by rfl) (by rfl) (Wn.none rfl) ?_)
    intro w H
    refine NL (TN (SQ ?_))
    obtain ⟨s22, hxs22, h⟩ := bnd h
    obtain ⟨s23, hxs23, h⟩ := bnd h
    obtain ⟨s24, hxs24, h⟩ := bnd h
    obtain ⟨s25, hxs25, h⟩ := bnd h
    obtain ⟨s26, hxs26, h⟩ := bnd h
    obtain ⟨s27, hxs27, h⟩ := bnd h
    obtain ⟨⟨l28, ⟨n29, n30⟩⟩, hx31, h⟩ := bnd h
    try dsimp only at h
    refine RG (MV rfl rfl (ST (Ex.strAddC rfl rfl hxs22) rfl (ST (Ex.strAddC rfl rfl hxs23) rfl (MV rfl rfl (ST (Ex.strAddC rfl rfl hxs24) rfl (ST (Ex.strAddC rfl rfl hxs25) rfl (MV rfl rfl (ST (Ex.strAddC rfl rfl hxs26) rfl (ST (Ex.strAddC rfl rfl hxs27) rfl (WR.call H (Y2n hx31) rfl ⟨hg_maxl, hg_tabs⟩ (Wn.none rfl) rfl ?_))))))))))
    intro v44 M w H hle hR
    replace hg_maxl := hg_maxl.mono hle
    replace hg_tabs := hg_tabs.mono hle
    replace f31_0 := f31_0.mono hle
    try dsimp only at hR
    obtain ⟨x44_0, rfl, f44_0⟩ := hR
    refine MV rfl rfl (ST (Ex.extract rfl rfl) rfl (ST (Ex.extract rfl rfl) rfl (WR.alloc [_, _] H Tryz.zeroValue27 rfl (Wn.none rfl) rfl ?_)))
    intro bk9 w H
    refine AS rfl rfl (WR.store [_, _] H rfl rfl rfl (by repeat first | exact .head | apply Upd.tail) Tryz.sizeOf27 rfl (by rfl) (by rfl) (Wn.none rfl) ?_)
    intro w H
    refine NL (TN (SQ (SQ (RG (ST (Ex.fieldAddr Tryz.underlying27 rfl Tryz.sizeOf3 (by decide) rfl) rfl (ST (Ex.load1 H rfl (by repeat first | exact kMh | apply kMt) Tryz.isAgg3 (by rfl)) rfl ?_))))))
    refine ST (Ex.neqC rfl rfl) rfl (NL (TN ?_))
    refine WC.condB rfl (fun hk32 => ?_) (fun hk32 => ?_)
    ·
     replace hk32 : ¬ (n19 = (0 : Int)) := of_not_decide hk32
     rw [if_neg hk32] at h
     refine SQ ?_
     obtain ⟨o33, e34, h⟩ := bnd h
     refine WC.cutX (fun e w => ∃ (b35 : Bool) (M : Mem), e = [(4, Value.bool b35)] ∧ St w0 M0 M [] w ∧ GlF (fun w => ∃ m, w.cell? ⟨2, 0, none⟩ = some (.int .i64 m)) M ∧ Tabs M ∧ some b35 = some o33) [] ?_ ?_ (trivial)
     ·
      refine RG (ST (Ex.fieldAddr Tryz.underlying27 rfl Tryz.sizeOf3 (by decide) rfl) rfl (ST (Ex.load1 H rfl (by repeat first | exact kMh | apply kMt) Tryz.isAgg3 (by rfl)) rfl ?_))
      by_cases hk36 : n29 = (0 : Int)
      ·
       rw [if_pos hk36] at e34
       refine WR.stepE (v' := .bool false) (Ex.neqC rfl rfl) (congrArg Value.bool (by rw [decide_eq_true hk36]; rfl)) (Wn.none rfl) rfl rfl ?_
       refine MV rfl rfl (WR.skipN 6 rfl rfl (PF rfl rfl rfl (AS rfl rfl (NL ?_))))
       exact WQ.meetN [(4, _)] ⟨rfl, trivial⟩ ⟨_, _, rfl, (H.pick (L' := []) (by repeat first | exact kPn | refine kPc (by repeat first | exact .head | apply Rem.tail) ?_)), hg_maxl, hg_tabs, e34⟩
      ·
       rw [if_neg hk36] at e34
       obtain ⟨n37, hxn37, e34⟩ := bnd e34
       refine WR.stepE (v' := .bool true) (Ex.neqC rfl rfl) (congrArg Value.bool (by rw [decide_eq_false hk36]; rfl)) (Wn.none rfl) rfl rfl ?_
       refine MV rfl rfl (SG (Ex.move rfl) rfl rfl rfl (SG (Ex.lenSlR Tryz.underlying22 f31_0 rfl) rfl rfl rfl (SG (Ex.move rfl) rfl rfl rfl (SG (Ex.lenSlR Tryz.underlying22 f44_0 rfl) rfl rfl rfl (SG (Ex.addC rfl rfl hxn37) rfl rfl rfl (SG (Ex.eql rfl rfl) rfl rfl rfl (PT rfl rfl rfl (AS rfl rfl (NL ?_)))))))))
       exact WQ.meetN [(4, _)] ⟨rfl, trivial⟩ ⟨_, _, rfl, (H.pick (L' := []) (by repeat first | exact kPn | refine kPc (by repeat first | exact .head | apply Rem.tail) ?_)), hg_maxl, hg_tabs, e34⟩
     ·
      rintro e w ⟨b35, M, rfl, H, hg_maxl, hg_tabs, q38⟩
      obtain rfl := oI q38
      refine TN (RT ?_)
      obtain rfl := oI h
      exact WQ.ret1 rfl rfl H.ext rfl
    ·
     replace hk32 : n19 = (0 : Int) := of_not_decide' hk32
     rw [if_pos hk32] at h
     refine SK (TN (SQ ?_))
     obtain ⟨o39, e40, h⟩ := bnd h
     refine WC.cutX (fun e w => ∃ (b41 : Bool) (M : Mem), e = [(4, Value.bool b41)] ∧ St w0 M0 M [] w ∧ GlF (fun w => ∃ m, w.cell? ⟨2, 0, none⟩ = some (.int .i64 m)) M ∧ Tabs M ∧ some b41 = some o39) [] ?_ ?_ (trivial)
     ·
      refine RG (ST (Ex.fieldAddr Tryz.underlying27 rfl Tryz.sizeOf3 (by decide) rfl) rfl (ST (Ex.load1 H rfl (by repeat first | exact kMh | apply kMt) Tryz.isAgg3 (by rfl)) rfl ?_))
      by_cases hk42 : n29 = (0 : Int)
      ·
       rw [if_pos hk42] at e40
       obtain ⟨b43, hx44, e40⟩ := bnd e40
       refine WR.stepE (v' := .bool true) (Ex.eql rfl rfl) (congrArg Value.bool (decide_eq_true hk42)) (Wn.none rfl) rfl rfl (MV rfl rfl (SG (Ex.move rfl) rfl rfl rfl (SG (Ex.move rfl) rfl rfl rfl (WR.call H (Y3W hx44) rfl ⟨f31_0, f44_0⟩ (Wn.some rfl rfl rfl) rfl ?_))))
       intro v67 M w H hle hR
       replace hg_maxl := hg_maxl.mono hle
       replace hg_tabs := hg_tabs.mono hle
       replace f31_0 := f31_0.mono hle
       replace f44_0 := f44_0.mono hle
       obtain rfl := hR
       refine PT rfl rfl rfl (AS rfl rfl (NL ?_))
       exact WQ.meetN [(4, _)] ⟨rfl, trivial⟩ ⟨_, _, rfl, (H.pick (L' := []) (by repeat first | exact kPn | refine kPc (by repeat first | exact .head | apply Rem.tail) ?_)), hg_maxl, hg_tabs, e40⟩
      ·
       rw [if_neg hk42] at e40
       refine WR.stepE (v' := .bool false) (Ex.eql rfl rfl) (congrArg Value.bool (decide_eq_false hk42)) (Wn.none rfl) rfl rfl (MV rfl rfl (WR.skipN 3 rfl rfl (PF rfl rfl rfl (AS rfl rfl (NL ?_)))))
       exact WQ.meetN [(4, _)] ⟨rfl, trivial⟩ ⟨_, _, rfl, (H.pick (L' := []) (by repeat first | exact kPn | refine kPc (by repeat first | exact .head | apply Rem.tail) ?_)), hg_maxl, hg_tabs, e40⟩
     ·
      rintro e w ⟨b41, M, rfl, H, hg_maxl, hg_tabs, q45⟩
      obtain rfl := oI q45
      refine TN (RT ?_)
      obtain rfl := oI h
      exact WQ.ret1 rfl rfl H.ext rfl
end Go.Proofs.YtkmjdamkifbddaaGreatDoor
end
section
namespace Go.Ph.Ad
open Go.Ph.Pl Go.Ph.Pf
open Go.Ph.Chs (vld lower)
abbrev Big (l : List UInt8) : Prop := l.length ≤ 140737488355328
abbrev Adr : Type := List UInt8 × List UInt8 × List UInt8
abbrev Itm : Type := List UInt8 × Bool × List Adr
theorem foldI {α σ γ : Type} {L : Nat → σ → Int → Option γ} (l : List α) (F : σ → α → σ) (fin : σ → γ) (I : Nat → σ → Prop)
 (hend : ∀ m s, I l.length s → L (m + 1) s (l.length : Int) = some (fin s))
 (hstep : ∀ m s i a, l[i]? = some a → I i s → I (i + 1) (F s a) ∧ L (m + 1) s (i : Int) = L m (F s a) ((i + 1 : Nat) : Int)) :
 ∀ (d i : Nat) (s : σ) (m : Nat), l.length - i = d → i ≤ l.length → d < m → I i s → L m s (i : Int) = some (fin ((l.drop i).foldl F s)) := by
 intro d
 induction d with
 | zero =>
   intro i s m h1 h2 h3 hI
   obtain ⟨m, rfl⟩ : ∃ k, m = k + 1 := ⟨m - 1, by omega⟩
   obtain rfl : i = l.length := by omega
   rw [hend m s hI, List.drop_length]; rfl
 | succ d ih =>
   intro i s m h1 h2 h3 hI
   obtain ⟨m, rfl⟩ : ∃ k, m = k + 1 := ⟨m - 1, by omega⟩
   have hi : i < l.length := by omega
   obtain ⟨hI', hL⟩ := hstep m s i l[i] (List.getElem?_eq_getElem hi) hI
   rw [hL, ih (i + 1) _ m (by omega) (by omega) (by omega) hI', List.drop_eq_getElem_cons hi]; rfl
theorem foldI0 {α σ γ : Type} {L : Nat → σ → Int → Option γ} (l : List α) (F : σ → α → σ) (fin : σ → γ) (I : Nat → σ → Prop) (hl : l.length ≤ 9223372036854775807)
 (hend : ∀ m s, I l.length s → L (m + 1) s (l.length : Int) = some (fin s))
 (hstep : ∀ m s i a, l[i]? = some a → I i s → I (i + 1) (F s a) ∧ L (m + 1) s (i : Int) = L m (F s a) ((i + 1 : Nat) : Int)) (s : σ) (h0 : I 0 s) : L FU s 0 = some (fin (l.foldl F s)) := by
 have := foldI l F fin I hend hstep l.length 0 s FU (by omega) (by omega) (FU_gt hl) h0
 simpa using this
theorem allB {p : UInt8 → Prop} (h : ∀ n, n < 256 → p (UInt8.ofNat n)) (c : UInt8) : p c := by
 have := h c.toNat c.toNat_lt
 rwa [UInt8.ofNat_toNat] at this
theorem failed_eq (a b : Int) : Y19 (a, b) = some (!decide (a = 0)) := rfl
theorem fault_eq (a b : Int) : Y07 a b = some (a, b) := by unfold Y07; rfl
theorem none_eq : Y0z = some (0, 0) := rfl
def letB (c : UInt8) : Bool := decide (97 ≤ c.toNat ∧ c.toNat ≤ 122) || (decide (65 ≤ c.toNat ∧ c.toNat ≤ 90) || decide (48 ≤ c.toNat ∧ c.toNat ≤ 57))
def atB (c : UInt8) : Bool := letB c || ([33, 35, 36, 37, 38, 39, 42, 43, 45, 47, 61, 63, 94, 95, 96, 123, 124, 125, 126] : List UInt8).any (fun x => decide (x = c))
def doB (c : UInt8) : Bool := letB c || decide (c = 45)
def prB (c : UInt8) : Bool := decide (32 ≤ c.toNat ∧ c.toNat ≤ 126)
theorem atom_eq (c : UInt8) : Y27 c = some (atB c) := by
 refine allB (p := fun c => Y27 c = some (atB c)) ?_ c
 decide +kernel
theorem domB_eq (c : UInt8) : Y1U c = some (doB c) := by
 refine allB (p := fun c => Y1U c = some (doB c)) ?_ c
 decide +kernel
theorem locB_eq (c : UInt8) : Y26 c = some (prB c) := by
 refine allB (p := fun c => Y26 c = some (prB c)) ?_ c
 decide +kernel
theorem all_eq (l : List UInt8) (hl : Big l) (g : UInt8 → Option Bool) (p : UInt8 → Bool) (hg : ∀ c, g c = some (p c)) : Y2T l g = some (l.all p) := by
 unfold Y2T
 rw [scan0 (L := Y1P l g) (l := l) (p := fun c => !p c) (stop := .inl ()) (r := .inr false) (FU_gt (by omega)) (fun m => by rw [Y1P, if_neg (by omega)]) (fun m i h => by
  rw [Y1P, if_pos (by omega), idx_nat, List.getElem?_eq_getElem h, chk_succ (by have := hl; omega)]
  simp only [bsome, hg]
  cases p l[i] <;> simp)]
 simp only [bsome]
 rw [List.all_eq_not_any_not]
 cases l.any (fun c => !p c) <;> simp
def locT (l : List UInt8) : Bool := l.all prB && decide (1 ≤ l.length ∧ l.length ≤ 60)
theorem local_eq (l : List UInt8) (hl : Big l) : Y1B l = some (locT l) := by
 unfold Y1B locT
 by_cases h : l = []
 · subst h; rfl
 · have hpos : 1 ≤ l.length := by cases l <;> simp_all
   rw [if_neg h]
   by_cases h2 : l.length ≤ 60
   · rw [if_pos (by omega), all_eq l hl _ prB locB_eq]
     simp [hpos, h2]
   · rw [if_neg (by omega)]
     simp [h2]
def dispF (l : List UInt8) : Int := if 500 < l.length then 1 else if vld l = true then 0 else 5
theorem disp_eq (l : List UInt8) : Y1L l = some (dispF l) := by
 unfold Y1L dispF Y0J
 by_cases h : 500 < l.length
 · rw [if_pos (by omega), if_pos h]
 · rw [if_neg (by omega), if_neg h, if_pos (by omega)]
   simp only [bsome]
   cases vld l <;> rfl
def nc (c x : UInt8) : Bool := !decide (x = c)
theorem index_c (c : UInt8) : ∀ (l : List UInt8), Lib.index l [c] = if c ∈ l then ((l.takeWhile (nc c)).length : Int) else -1
 | [] => rfl
 | x :: l => by
   rw [Lib.index]
   by_cases h : x = c
   · subst h
     rw [if_pos (by simp [List.isPrefixOf]), if_pos (by simp), List.takeWhile_cons_of_neg (by simp [nc])]; rfl
   · have hn : nc c x = true := by unfold nc; rw [decide_eq_false h]; rfl
     have h' : ¬ c = x := fun e => h e.symm
     rw [if_neg (by simp [List.isPrefixOf, h']), index_c c l, List.takeWhile_cons_of_pos hn]
     by_cases hm : c ∈ l
     · rw [if_pos hm, if_neg (by first | (simp; done) | (simp; omega)), if_pos (by simp [hm]), List.length_cons]; omega
     · rw [if_neg hm, if_pos (by decide), if_neg (by simp [hm, h'])]
def spl (c : UInt8) : List UInt8 → List (List UInt8)
 | [] => [[]]
 | x :: l => if x = c then [] :: spl c l else match spl c l with
   | p :: r => (x :: p) :: r
   | [] => [[x]]
theorem spl_ne (c : UInt8) (l : List UInt8) : spl c l ≠ [] := by
 cases l with
 | nil => simp [spl]
 | cons x l =>
   rw [spl]
   split
   · simp
   · split <;> simp
theorem spl_not {c : UInt8} : ∀ {l : List UInt8}, c ∉ l → spl c l = [l]
 | [], _ => rfl
 | x :: l, h => by
   rw [spl, if_neg (fun e => h (by simp [e])), spl_not (fun e => h (by simp [e]))]
theorem spl_mem {c : UInt8} : ∀ {l : List UInt8}, c ∈ l → spl c l = l.takeWhile (nc c) :: spl c (l.drop ((l.takeWhile (nc c)).length + 1))
 | [], h => by simp at h
 | x :: l, h => by
   by_cases hx : x = c
   · subst hx
     rw [spl, if_pos rfl, List.takeWhile_cons_of_neg (by simp [nc])]; rfl
   · have hn : nc c x = true := by unfold nc; rw [decide_eq_false hx]; rfl
     have hl : c ∈ l := by rcases List.mem_cons.1 h with e | e; exact absurd e.symm hx; exact e
     rw [spl, if_neg hx, spl_mem hl, List.takeWhile_cons_of_pos hn]
     simp
theorem tw_lt {c : UInt8} : ∀ {l : List UInt8}, c ∈ l → (l.takeWhile (nc c)).length < l.length
 | [], h => by simp at h
 | x :: l, h => by
   by_cases hx : x = c
   · subst hx
     rw [List.takeWhile_cons_of_neg (by simp [nc])]; simp
   · have hn : nc c x = true := by unfold nc; rw [decide_eq_false hx]; rfl
     have hl : c ∈ l := by rcases List.mem_cons.1 h with e | e; exact absurd e.symm hx; exact e
     rw [List.takeWhile_cons_of_pos hn]
     have := tw_lt hl
     simp; omega
theorem take_tw (c : UInt8) : ∀ (l : List UInt8), l.take (l.takeWhile (nc c)).length = l.takeWhile (nc c)
 | [] => rfl
 | x :: l => by
   by_cases hn : nc c x = true
   · rw [List.takeWhile_cons_of_pos hn, List.length_cons, List.take_succ_cons, take_tw c l]
   · rw [List.takeWhile_cons_of_neg hn]; rfl
theorem split_L2 {σ : Type} (Y : σ → List UInt8 → Option (σ × Bool)) (c : UInt8) : ∀ (n : Nat) (s : List UInt8) (st : σ) (m : Nat), s.length ≤ n → n < m → s.length < 4294967281 →
 ((Y0q Y [c] 0 m s st).bind fun o => (match o with | .inl (s24, s25) => (Y s25 s24).bind fun (s41, b42) => some s41 | .inr r44 => some r44)) = runL Y (spl c s) st := by
 intro n
 induction n with
 | zero =>
   intro s st m h1 h2 h3
   obtain ⟨m, rfl⟩ : ∃ k, m = k + 1 := ⟨m - 1, by omega⟩
   obtain rfl : s = [] := List.eq_nil_of_length_eq_zero (by omega)
   rw [Y0q]
   unfold Y1y
   have hi : Lib.index ([] : List UInt8) [c] = -1 := by rw [index_c, if_neg (by simp)]
   rw [if_pos (by decide), bsome, hi, if_pos (by decide), bsome, spl, runL]
   dsimp only
   cases Y st [] with
   | none => rfl
   | some r => obtain ⟨a, b⟩ := r; cases b <;> rfl
 | succ n ih =>
   intro s st m h1 h2 h3
   obtain ⟨m, rfl⟩ : ∃ k, m = k + 1 := ⟨m - 1, by omega⟩
   rw [Y0q]
   unfold Y1y
   rw [if_pos h3, bsome, index_c]
   by_cases hm : c ∈ s
   · have hlt := tw_lt hm
     rw [if_pos hm, if_neg (by omega), show ((s.takeWhile (nc c)).length : Int) + 0 = (((s.takeWhile (nc c)).length : Nat) : Int) by omega, chk_ok (by omega) (by omega), bsome, cut_to rfl (by omega), bsome, take_tw, spl_mem hm, runL]
     cases hy : Y st (s.takeWhile (nc c)) with
     | none => rfl
     | some r =>
       obtain ⟨a, b⟩ := r
       rw [bsome, bsome]
       dsimp only
       cases b with
       | false => rfl
       | true =>
         rw [if_pos rfl, if_pos rfl, show (([c] : List UInt8).length : Int) = ((1 : Nat) : Int) from rfl, chk_addN 1 (by omega), bsome, cut_from rfl (by omega), bsome]
         exact ih _ a m (by rw [List.length_drop]; omega) (by omega) (by rw [List.length_drop]; omega)
   · rw [if_neg hm, if_pos (by decide), bsome, spl_not hm, runL]
     dsimp only
     cases Y st s with
     | none => rfl
     | some r => obtain ⟨a, b⟩ := r; cases b <;> rfl
theorem splitSeq_eq {σ : Type} (Y : σ → List UInt8 → Option (σ × Bool)) (c : UInt8) (s : List UInt8) (st : σ) (hs : s.length < 4294967281) : Y1d [c] s 0 σ Y st = runL Y (spl c s) st := by
 unfold Y1d
 rw [if_neg (by simp)]
 exact split_L2 Y c s.length s st FU (Nat.le_refl _) (FU_gt (by omega)) hs
def good (p : UInt8 → Bool) (x : List UInt8) : Bool := !decide (x = []) && x.all p
theorem parts_run (g : UInt8 → Option Bool) (p : UInt8 → Bool) (hg : ∀ c, g c = some (p c)) : ∀ (l : List (List UInt8)), (∀ x ∈ l, Big x) → runL (stepY exStop (Y1w g)) l (false, 0) = some (false, if l.all (good p) = true then 0 else 1)
 | [], _ => rfl
 | x :: l, h => by
   rw [runL]
   unfold stepY
   rw [if_neg (by decide)]
   have hx : Y1w g (false, 0) x = some (if good p x = true then (false, 0) else (false, 1)) := by
    unfold Y1w good
    dsimp only
    by_cases hx : x = []
    · subst hx; rfl
    · rw [if_neg hx, all_eq x (h x List.mem_cons_self) g p hg]
      simp only [bsome, hx]
      cases x.all p <;> rfl
   rw [hx, List.all_cons]
   have ih := parts_run g p hg l (fun y hy => h y (List.mem_cons_of_mem _ hy))
   cases hgx : good p x with
   | false => rfl
   | true =>
     simp only [if_true, Option.map_some, bsome, Bool.true_and]
     exact ih
theorem spl_len (c : UInt8) : ∀ (l : List UInt8), ∀ x ∈ spl c l, x.length ≤ l.length
 | [], x, hx => by simp [spl] at hx; simp [hx]
 | a :: l, x, hx => by
   rw [spl] at hx
   split at hx
   · rcases List.mem_cons.1 hx with rfl | hx
     · simp
     · have := spl_len c l x hx; simp; omega
   · cases hs : spl c l with
     | nil => exact absurd hs (spl_ne c l)
     | cons p r =>
       rw [hs] at hx
       dsimp only at hx
       rcases List.mem_cons.1 hx with rfl | hx
       · have := spl_len c l p (by rw [hs]; exact List.mem_cons_self); simp; omega
       · have := spl_len c l x (by rw [hs]; exact List.mem_cons_of_mem _ hx); simp; omega
theorem parts_eq (s : List UInt8) (hs : s.length < 4294967281) (g : UInt8 → Option Bool) (p : UInt8 → Bool) (hg : ∀ c, g c = some (p c)) : Y2b s g = some ((spl 46 s).all (good p)) := by
 unfold Y2b
 rw [splitSeq_eq _ _ _ _ hs, parts_run g p hg _ (fun x hx => by have := spl_len 46 s x hx; unfold Big; omega), bsome]
 cases (spl 46 s).all (good p) <;> rfl
def dtF (p : UInt8 → Bool) : Bool → List UInt8 → Bool
 | e, [] => !e
 | e, c :: l => if c = 46 then (if e = true then false else dtF p true l) else (if p c = true then dtF p false l else false)
theorem spl_dt (p : UInt8 → Bool) : ∀ (l : List UInt8) (e : Bool) (h : List UInt8) (t : List (List UInt8)), spl 46 l = h :: t → dtF p e l = (h.all p && ((!e || !decide (h = [])) && t.all (good p)))
 | [], e, h, t, hs => by
   simp only [spl, List.cons.injEq] at hs
   obtain ⟨rfl, rfl⟩ := hs
   cases e <;> rfl
 | c :: l, e, h, t, hs => by
   rw [spl] at hs
   rw [dtF]
   by_cases hc : c = 46
   · rw [if_pos hc] at hs
     obtain ⟨rfl, rfl⟩ := List.cons.inj hs
     rw [if_pos hc]
     cases hl : spl 46 l with
     | nil => exact absurd hl (spl_ne _ _)
     | cons a b =>
       rw [spl_dt p l true a b hl, List.all_cons]
       cases e <;> simp [good, Bool.and_comm, Bool.and_left_comm, Bool.and_assoc]
   · rw [if_neg hc] at hs
     rw [if_neg hc]
     cases hl : spl 46 l with
     | nil => exact absurd hl (spl_ne _ _)
     | cons a b =>
       rw [hl] at hs
       dsimp only at hs
       obtain ⟨rfl, rfl⟩ := List.cons.inj hs
       rw [spl_dt p l false a b hl, List.all_cons]
       cases p c <;> simp
theorem dt_spl (p : UInt8 → Bool) (s : List UInt8) : (spl 46 s).all (good p) = dtF p true s := by
 cases hs : spl 46 s with
 | nil => exact absurd hs (spl_ne _ _)
 | cons h t =>
   rw [spl_dt p s true h t hs, List.all_cons]
   unfold good
   cases h.all p <;> simp
theorem dotted_eq (s : List UInt8) (hs : s.length < 4294967281) : Y1o s = some (dtF atB true s) := by
 unfold Y1o
 rw [parts_eq s hs _ atB atom_eq, bsome, dt_spl]
def domT (s : List UInt8) : Bool := decide (s.length ≤ 60) && dtF doB true s
theorem domain_eq (s : List UInt8) : Y21 s = some (domT s) := by
 unfold Y21 domT
 by_cases h : s.length ≤ 60
 · rw [if_pos (by omega), parts_eq s (by omega) _ doB domB_eq, dt_spl]
   simp [h]
 · rw [if_neg (by omega)]
   simp [h]
def addrF (a : Adr) : Int × Int := if dispF a.1 = 0 then (if locT a.2.1 = true then (if domT a.2.2 = true then (0, 0) else (10, -5)) else (10, -4)) else (dispF a.1, -3)
abbrev BigA (a : Adr) : Prop := Big a.1 ∧ Big a.2.1 ∧ Big a.2.2
theorem validate_eq (a : Adr) (h : BigA a) : Y1h (a.1, a.2.1, a.2.2) = some (addrF a) := by
 unfold Y1h addrF
 rw [disp_eq, local_eq _ h.2.1, domain_eq]
 simp only [bsome, fault_eq, none_eq]
 by_cases h1 : dispF a.1 = 0
 · rw [if_pos h1, if_pos h1]
   cases locT a.2.1
   · rfl
   · cases domT a.2.2 <;> rfl
 · rw [if_neg h1, if_neg h1]
end Go.Ph.Ad
end
section
namespace Go.Ph.Ad
open Go.Ph.Pl Go.Ph.Pf
abbrev BigI (x : Itm) : Prop := Big x.1 ∧ x.2.2.length ≤ 140737488355328 ∧ ∀ a ∈ x.2.2, BigA a
abbrev BigL (l : List Itm) : Prop := l.length ≤ 140737488355328 ∧ ∀ x ∈ l, BigI x
def memF : List Adr → Int
 | [] => 0
 | a :: l => if (addrF a).1 = 0 then memF l else (addrF a).1
def badI (x : Itm) : Bool := !decide (x.2.1 = !decide (x.1 = [])) || (!x.2.1 && !decide (x.2.2.length = 1))
def itemF (x : Itm) : Int := if dispF x.1 = 0 then (if badI x = true then 5 else memF x.2.2) else dispF x.1
theorem item_L1 (x : Itm) (h : BigI x) : ∀ (k i m : Nat), x.2.2.length - i ≤ k → k < m → i ≤ x.2.2.length →
 ((Y0T x m (i : Int)).bind fun o26 => (match o26 with | .inl _ => some 0 | .inr r25 => some r25)) = some (memF (x.2.2.drop i)) := by
 intro k
 induction k with
 | zero =>
   intro i m h1 h2 h3
   obtain ⟨m, rfl⟩ : ∃ k, m = k + 1 := ⟨m - 1, by omega⟩
   obtain rfl : i = x.2.2.length := by omega
   rw [Y0T, if_neg (by omega), bsome, List.drop_length]; rfl
 | succ k ih =>
   intro i m h1 h2 h3
   obtain ⟨m, rfl⟩ : ∃ k, m = k + 1 := ⟨m - 1, by omega⟩
   by_cases hi : i < x.2.2.length
   · rw [Y0T, if_pos (by omega), idx_nat, List.getElem?_eq_getElem hi, List.drop_eq_getElem_cons hi, memF, bsome]
     rw [validate_eq _ (h.2.2 _ (List.getElem_mem hi)), bsome]
     have h5 := ih (i + 1) m (by omega) (by omega) (by omega)
     obtain ⟨a, b, hab⟩ : ∃ a b, addrF x.2.2[i] = (a, b) := ⟨_, _, rfl⟩
     rw [hab]
     dsimp only
     rw [failed_eq, bsome]
     by_cases ha : a = 0
     · rw [if_neg (by simp [ha]), if_pos ha, chk_succ (by have := h.2.1; omega), bsome]
       exact h5
     · rw [if_pos (by simp [ha]), if_neg ha]; rfl
   · obtain rfl : i = x.2.2.length := by omega
     rw [Y0T, if_neg (by omega), bsome, List.drop_length]; rfl
theorem item_eq (x : Itm) (h : BigI x) : Y2U (x.1, x.2.1, x.2.2) = some (itemF x) := by
 unfold Y2U itemF
 rw [disp_eq, bsome]
 by_cases h1 : dispF x.1 = 0
 · rw [if_pos h1, if_pos h1]
   have hb : (if x.2.1 = (!decide (x.1 = [])) then (if x.2.1 = true then some false else some (!decide ((x.2.2.length : Int) = (1 : Int)))) else some true) = some (badI x) := by
    unfold badI
    have hd : decide ((x.2.2.length : Int) = 1) = decide (x.2.2.length = 1) := decide_eq_decide.2 ⟨fun h => by omega, fun h => by omega⟩
    rw [hd]
    by_cases h2 : x.2.1 = !decide (x.1 = [])
    · rw [if_pos h2, decide_eq_true h2]
      cases x.2.1 <;> rfl
    · rw [if_neg h2, decide_eq_false h2]; rfl
   rw [hb, bsome]
   cases badI x with
   | true => rfl
   | false =>
     rw [if_neg (by decide), if_neg (by decide)]
     exact item_L1 x h x.2.2.length 0 FU (by omega) (FU_gt (by have := h.2.1; omega)) (by omega)
 · rw [if_neg h1, if_neg h1]
def listF : Nat → List Itm → Int × Int
 | _, [] => (0, 0)
 | i, x :: l => if itemF x = 0 then listF (i + 1) l else (itemF x, (i : Int))
def sumW (l : List Itm) : Int := l.foldl (fun n x => IntKind.i64.wrap (n + (x.2.2.length : Int))) 0
def itemsF (l : List Itm) : Int × Int := if 60 < l.length ∨ 60 < sumW l then (2, -1) else listF 0 l
theorem check_L1 (l : List Itm) (h : l.length ≤ 140737488355328) : Y0L l FU 0 0 = some (sumW l) := by
 refine foldI0 (L := Y0L l) l (fun n x => IntKind.i64.wrap (n + (x.2.2.length : Int))) id (fun _ _ => True) (by omega) (fun m s _ => ?_) (fun m s i a ha _ => ⟨trivial, ?_⟩) 0 trivial
 · rw [Y0L, if_neg (by omega)]; rfl
 · have hi := (List.getElem?_eq_some_iff.1 ha).1
   rw [Y0L, if_pos (by omega), idx_nat, ha, bsome, chk_succ (by omega), bsome]
theorem check_L2 (l : List Itm) (h : BigL l) : ∀ (k i m : Nat) (c d : Int), l.length - i ≤ k → k < m → i ≤ l.length →
 ((Y0M l m c d (i : Int)).bind fun o43 => (match o43 with | .inl (n23, n24) => (Y0z).bind fun (n39, n40) => some (n39, n40) | .inr r42 => some r42)) = some (listF i (l.drop i)) := by
 intro k
 induction k with
 | zero =>
   intro i m c d h1 h2 h3
   obtain ⟨m, rfl⟩ : ∃ k, m = k + 1 := ⟨m - 1, by omega⟩
   obtain rfl : i = l.length := by omega
   rw [Y0M, if_neg (by omega), bsome, List.drop_length]; rfl
 | succ k ih =>
   intro i m c d h1 h2 h3
   obtain ⟨m, rfl⟩ : ∃ k, m = k + 1 := ⟨m - 1, by omega⟩
   by_cases hi : i < l.length
   · rw [Y0M, if_pos (by omega), idx_nat, List.getElem?_eq_getElem hi, List.drop_eq_getElem_cons hi, listF, bsome]
     rw [item_eq _ (h.2 _ (List.getElem_mem hi)), bsome]
     by_cases ha : itemF l[i] = 0
     · rw [if_pos ha, if_pos ha, chk_succ (by have := h.1; omega), bsome]
       exact ih (i + 1) m c d (by omega) (by omega) (by omega)
     · rw [if_neg ha, if_neg ha, fault_eq, bsome]; rfl
   · obtain rfl : i = l.length := by omega
     rw [Y0M, if_neg (by omega), bsome, List.drop_length]; rfl
theorem check_eq (l : List Itm) (h : BigL l) : Y1l l = some (itemsF l) := by
 unfold Y1l itemsF
 rw [check_L1 l h.1, bsome]
 have h5 := check_L2 l h l.length 0 FU 0 0 (by omega) (FU_gt (by have := h.1; omega)) (by omega)
 by_cases h1 : 60 < l.length
 · rw [if_pos (by omega), bsome, if_pos rfl, if_pos (.inl h1)]; rfl
 · rw [if_neg (by omega), bsome]
   by_cases h2 : 60 < sumW l
   · rw [decide_eq_true h2, if_pos rfl, if_pos (.inr h2)]; rfl
   · rw [decide_eq_false h2, if_neg (by decide), if_neg (by intro h; rcases h with h | h; exact h1 h; exact h2 h)]
     exact h5
def sumN (l : List Itm) : Nat := (l.map fun x => x.2.2.length).sum
theorem sameA_L1 (l : List Adr) (h : l.length ≤ 140737488355328) : ∀ (k i m : Nat), l.length - i ≤ k → k < m → i ≤ l.length → Y0y l l m (i : Int) = some (.inl ()) := by
 intro k
 induction k with
 | zero =>
   intro i m h1 h2 h3
   obtain ⟨m, rfl⟩ : ∃ k, m = k + 1 := ⟨m - 1, by omega⟩
   obtain rfl : i = l.length := by omega
   rw [Y0y, if_neg (by omega)]
 | succ k ih =>
   intro i m h1 h2 h3
   obtain ⟨m, rfl⟩ : ∃ k, m = k + 1 := ⟨m - 1, by omega⟩
   by_cases hi : i < l.length
   · rw [Y0y, if_pos (by omega), idx_nat, List.getElem?_eq_getElem hi, bsome, bsome, if_pos ⟨rfl, rfl, rfl⟩, chk_succ (by omega), bsome]
     exact ih (i + 1) m (by omega) (by omega) (by omega)
   · obtain rfl : i = l.length := by omega
     rw [Y0y, if_neg (by omega)]
theorem sameA_refl (l : List Adr) (h : l.length ≤ 140737488355328) : Y1N l l = some true := by
 unfold Y1N
 rw [if_pos rfl, show (0 : Int) = ((0 : Nat) : Int) from rfl, sameA_L1 l h l.length 0 FU (by omega) (FU_gt (by omega)) (by omega)]
 rfl
theorem ex_law : Y0N = some true := by decide +kernel
end Go.Ph.Ad
end
section
namespace Go.Ph.Ad
open Go.Ph.Pl Go.Ph.Pf
def cmtF : Nat → List UInt8 → Option (List UInt8)
 | _, [] => none
 | d, [c] => if c = 41 ∧ d = 1 then some [] else none
 | d, c :: x :: l => if c = 40 then cmtF (d + 1) (x :: l) else if c = 41 then (if d = 1 then some (x :: l) else cmtF (d - 1) (x :: l)) else if c = 92 then cmtF d l else cmtF d (x :: l)
theorem cmtF_len : ∀ (l : List UInt8) (d : Nat) (r : List UInt8), cmtF d l = some r → r.length < l.length
 | [], d, r, h => by simp [cmtF] at h
 | [c], d, r, h => by
   rw [cmtF] at h
   split at h
   · cases h; simp
   · cases h
 | c :: x :: l, d, r, h => by
   rw [cmtF] at h
   split at h
   · have := cmtF_len (x :: l) _ _ h; simp at this ⊢; omega
   · split at h
     · split at h
       · cases h; simp
       · have := cmtF_len (x :: l) _ _ h; simp at this ⊢; omega
     · split at h
       · have := cmtF_len l _ _ h; simp at this ⊢; omega
       · have := cmtF_len (x :: l) _ _ h; simp at this ⊢; omega
def blB (c : UInt8) : Bool := decide (c = 32) || decide (c = 9)
theorem blank_eq (c : UInt8) : Y14 c = some (blB c) := by
 unfold Y14 blB
 by_cases h : c = 32 <;> simp [h]
def skF : Nat → List UInt8 → Option (List UInt8)
 | 0, _ => none
 | _ + 1, [] => some []
 | n + 1, c :: l => if blB c = true then skF n l else if c = 40 then (cmtF 1 l).bind (skF n) else some (c :: l)
theorem skF_len : ∀ (n : Nat) (l r : List UInt8), skF n l = some r → r.length ≤ l.length
 | 0, l, r, h => by simp [skF] at h
 | n + 1, [], r, h => by simp [skF] at h; simp [h]
 | n + 1, c :: l, r, h => by
   rw [skF] at h
   split at h
   · have := skF_len n l r h; simp; omega
   · split at h
     · obtain ⟨x, h1, h2⟩ := bnd h
       have := cmtF_len _ _ _ h1
       have := skF_len n x r h2
       simp; omega
     · cases h; simp
theorem skF_more : ∀ (n m : Nat) (l : List UInt8), l.length < n → l.length < m → skF n l = skF m l
 | 0, m, l, h, _ => by omega
 | n + 1, 0, l, _, h => by omega
 | n + 1, m + 1, [], _, _ => rfl
 | n + 1, m + 1, c :: l, h1, h2 => by
   rw [skF, skF]
   simp only [List.length_cons] at h1 h2
   rw [skF_more n m l (by omega) (by omega)]
   split
   · rfl
   · split
     · cases hc : cmtF 1 l with
       | none => rfl
       | some r =>
         have := cmtF_len _ _ _ hc
         rw [bsome, bsome]
         exact skF_more n m r (by omega) (by omega)
     · rfl
def sk (l : List UInt8) : Option (List UInt8) := skF (l.length + 1) l
theorem sk_nil : sk [] = some [] := rfl
theorem sk_cons (c : UInt8) (l : List UInt8) : sk (c :: l) = if blB c = true then sk l else if c = 40 then (cmtF 1 l).bind sk else some (c :: l) := by
 unfold sk
 rw [List.length_cons, skF]
 split
 · rfl
 · split
   · cases hc : cmtF 1 l with
     | none => rfl
     | some r =>
       have := cmtF_len _ _ _ hc
       rw [bsome, bsome]
       exact skF_more _ _ r (by omega) (by omega)
   · rfl
theorem sk_len {l r : List UInt8} (h : sk l = some r) : r.length ≤ l.length := skF_len _ _ _ h
def quF : List UInt8 → Option (List UInt8 × List UInt8)
 | [] => none
 | [c] => if c = 34 then some ([], []) else none
 | c :: x :: l => if c = 34 then some ([], x :: l) else if c = 92 then (quF l).map fun p => (x :: p.1, p.2) else (quF (x :: l)).map fun p => (c :: p.1, p.2)
theorem quF_len : ∀ (l : List UInt8) (p : List UInt8 × List UInt8), quF l = some p → p.2.length < l.length
 | [], p, h => by simp [quF] at h
 | [c], p, h => by
   rw [quF] at h
   split at h
   · cases h; simp
   · cases h
 | c :: x :: l, p, h => by
   rw [quF] at h
   split at h
   · cases h; simp
   · split at h
     · obtain ⟨q, h1, rfl⟩ := Option.map_eq_some_iff.1 h
       have := quF_len l q h1; simp; omega
     · obtain ⟨q, h1, rfl⟩ := Option.map_eq_some_iff.1 h
       have := quF_len (x :: l) q h1; simp at this ⊢; omega
def waB (c : UInt8) : Bool := atB c || decide (c = 46)
def sgB (c : UInt8) : Bool := ([58, 59, 44, 64, 60, 62] : List UInt8).any fun x => decide (x = c)
def nxF (l : List UInt8) : Option (Elt × List UInt8) :=
 (sk l).bind fun l => match l with
  | [] => some (none, [])
  | c :: r => if c = 34 then (quF r).map fun p => (eltW (p.1, true), p.2) else if sgB c = true then some (eltS c, r) else
   if waB c = true then some (eltW ((c :: r).takeWhile waB, false), (c :: r).dropWhile waB) else none
theorem dw_len (p : UInt8 → Bool) : ∀ l : List UInt8, (l.dropWhile p).length ≤ l.length
 | [] => by simp
 | c :: l => by
   by_cases h : p c = true
   · rw [List.dropWhile_cons_of_pos h]; have := dw_len p l; simp; omega
   · rw [List.dropWhile_cons_of_neg h]; simp
theorem nxF_len {l r : List UInt8} {e : Elt} (h : nxF l = some (e, r)) (he : e ≠ none) : r.length < l.length := by
 unfold nxF at h
 obtain ⟨x, h1, h2⟩ := bnd h
 have hl := sk_len h1
 cases x with
 | nil => cases h2; exact absurd rfl he
 | cons c y =>
   dsimp only at h2
   simp only [List.length_cons] at hl
   split at h2
   · obtain ⟨q, h3, h4⟩ := Option.map_eq_some_iff.1 h2
     cases h4
     have := quF_len _ _ h3; omega
   · split at h2
     · cases h2; omega
     · split at h2
       · rename_i hw
         cases h2
         rw [List.dropWhile_cons_of_pos hw]
         have := dw_len waB y; omega
       · cases h2
inductive LT where
 | err
 | eof
 | tok (e : UInt8 ⊕ (List UInt8 × Bool)) (t : LT)
def lexF : Nat → List UInt8 → LT
 | 0, _ => .err
 | n + 1, l => match nxF l with
   | none => .err
   | some (none, _) => .eof
   | some (some e, r) => .tok e (lexF n r)
theorem lexF_more : ∀ (n m : Nat) (l : List UInt8), l.length < n → l.length < m → lexF n l = lexF m l
 | 0, m, l, h, _ => by omega
 | n + 1, 0, l, _, h => by omega
 | n + 1, m + 1, l, h1, h2 => by
   rw [lexF, lexF]
   cases h : nxF l with
   | none => rfl
   | some p =>
     obtain ⟨e, r⟩ := p
     cases e with
     | none => rfl
     | some e =>
       have := nxF_len h (by simp)
       dsimp only
       rw [lexF_more n m r (by omega) (by omega)]
def lex (l : List UInt8) : LT := lexF (l.length + 1) l
theorem lex_eq (l : List UInt8) : lex l = match nxF l with
 | none => .err
 | some (none, _) => .eof
 | some (some e, r) => .tok e (lex r) := by
 unfold lex
 rw [lexF]
 cases h : nxF l with
 | none => rfl
 | some p =>
   obtain ⟨e, r⟩ := p
   cases e with
   | none => rfl
   | some e =>
     have := nxF_len h (by simp)
     dsimp only
     rw [lexF_more l.length (r.length + 1) r (by omega) (by omega)]
def Rs (s : List UInt8) (f : Option ((List UInt8 × Int) ⊕ Int)) : Option (List UInt8) → Prop
 | some r => ∃ j : Nat, j ≤ s.length ∧ r = s.drop j ∧ f = some (.inl (s, (j : Int)))
 | none => ∃ n : Int, 0 ≤ n ∧ f = some (.inr n)
def Rn {α : Type} (s : List UInt8) (f : Option ((α × (List UInt8 × Int)) ⊕ Int)) : Option (α × List UInt8) → Prop
 | some (a, r) => ∃ j : Nat, j ≤ s.length ∧ r = s.drop j ∧ f = some (.inl (a, (s, (j : Int))))
 | none => ∃ n : Int, 0 ≤ n ∧ f = some (.inr n)
abbrev Sml (s : List UInt8) : Prop := s.length ≤ 4294967280
theorem fail_eq (s : List UInt8) (n : Int) : Y0c (s, n) = some (.inr n) := rfl
theorem cmt_run (s : List UInt8) (hs : Sml s) : ∀ (k i m d : Nat), s.length + 1 - i ≤ k → k < m → i ≤ s.length + 1 → 1 ≤ d → d ≤ i + 1 → Rs s (Y05 m s (i : Int) (d : Int)) (cmtF d (s.drop i)) := by
 intro k
 induction k with
 | zero =>
   intro i m d h1 h2 h3 h4 h5
   obtain ⟨m, rfl⟩ : ∃ k, m = k + 1 := ⟨m - 1, by omega⟩
   rw [Y05, if_pos (by omega), fail_eq, List.drop_eq_nil_of_le (by omega), cmtF]
   exact ⟨_, Int.natCast_nonneg _, rfl⟩
 | succ k ih =>
   intro i m d h1 h2 h3 h4 h5
   obtain ⟨m, rfl⟩ : ∃ k, m = k + 1 := ⟨m - 1, by omega⟩
   by_cases hi : i < s.length
   · have n1 := ih (i + 1) m d (by omega) (by omega) (by omega) h4 (by omega)
     have n2 := ih (i + 1) m (d + 1) (by omega) (by omega) (by omega) (by omega) (by omega)
     have n3 : 2 ≤ d → Rs s (Y05 m s ((i + 1 : Nat) : Int) ((d - 1 : Nat) : Int)) (cmtF (d - 1) (s.drop (i + 1))) := fun hd => ih (i + 1) m (d - 1) (by omega) (by omega) (by omega) (by omega) (by omega)
     have n4 : i + 2 ≤ s.length + 1 → Rs s (Y05 m s ((i + 1 + 1 : Nat) : Int) (d : Int)) (cmtF d (s.drop (i + 1 + 1))) := fun hd => ih (i + 1 + 1) m d (by omega) (by omega) (by omega) h4 (by omega)
     have hb : s.length ≤ 4294967280 := hs
     rw [Y05, if_neg (by omega), bsome]
     simp only
     rw [idx_nat, List.getElem?_eq_getElem hi, bsome, List.drop_eq_getElem_cons hi]
     obtain ⟨c, hc⟩ : ∃ c, s[i] = c := ⟨_, rfl⟩
     rw [hc]
     have hlist : cmtF d (c :: s.drop (i + 1)) = if c = 40 then cmtF (d + 1) (s.drop (i + 1)) else if c = 41 then (if d = 1 then some (s.drop (i + 1)) else cmtF (d - 1) (s.drop (i + 1))) else if c = 92 then cmtF d (s.drop (i + 1 + 1)) else cmtF d (s.drop (i + 1)) := by
      by_cases hj : i + 1 < s.length
      · rw [List.drop_eq_getElem_cons hj, cmtF]
      · rw [List.drop_eq_nil_of_le (show s.length ≤ i + 1 by omega), List.drop_eq_nil_of_le (show s.length ≤ i + 1 + 1 by omega), cmtF]
        by_cases q1 : c = 40
        · subst q1; simp [cmtF]
        · by_cases q2 : c = 41
          · subst q2
            by_cases q3 : d = 1 <;> simp [cmtF, q3]
          · simp [cmtF, q1, q2]
     rw [hlist]
     by_cases q1 : c = 40
     · rw [if_pos q1, if_pos q1, chk_succ (by omega), bsome, bsome]
       simp only
       rw [chk_succ (by omega), bsome]
       exact n2
     · rw [if_neg q1, if_neg q1]
       by_cases q2 : c = 41
       · rw [if_pos q2, if_pos q2, chk_pred h4 (by omega), bsome]
         by_cases q3 : d = 1
         · rw [if_pos (by omega), if_pos q3, chk_succ (by omega), bsome, bsome]
           exact ⟨i + 1, by omega, rfl, rfl⟩
         · rw [if_neg (by omega), if_neg q3, bsome]
           simp only
           rw [chk_succ (by omega), bsome]
           exact n3 (by omega)
       · rw [if_neg q2, if_neg q2]
         by_cases q3 : c = 92
         · rw [if_pos q3, if_pos q3, chk_succ (by omega), bsome, bsome]
           simp only
           rw [chk_succ (by omega), bsome]
           exact n4 (by omega)
         · rw [if_neg q3, if_neg q3, bsome]
           simp only
           rw [chk_succ (by omega), bsome]
           exact n1
   · rw [Y05, if_pos (by omega), fail_eq, List.drop_eq_nil_of_le (by omega), cmtF]
     exact ⟨_, Int.natCast_nonneg _, rfl⟩
theorem comment_run (s : List UInt8) (hs : Sml s) (i : Nat) (hi : i < s.length) (hc : s[i] = 40) : Rs s (Y12 (s, (i : Int))) (cmtF 1 (s.drop (i + 1))) := by
 have hb : s.length ≤ 4294967280 := hs
 unfold Y12
 rw [FU_pos, Y05]
 dsimp only
 rw [if_neg (by omega), bsome]
 simp only
 rw [idx_nat, List.getElem?_eq_getElem hi, bsome, hc, if_pos rfl]
 have h1 : chk ((0 : Int) + 1) = some ((1 : Nat) : Int) := by decide
 rw [h1, bsome, bsome]
 simp only
 rw [chk_succ (by omega), bsome]
 have := cmt_run s hs (s.length + 1) (i + 1) 18446744073709551615 1 (by omega) (by omega) (by omega) (by omega) (by omega)
 revert this
 cases cmtF 1 (s.drop (i + 1)) with
 | none => rintro ⟨n, h1, h2⟩; exact ⟨n, h1, by rw [h2, bsome]⟩
 | some r => rintro ⟨j, h1, h2, h3⟩; exact ⟨j, h1, h2, by rw [h3, bsome]⟩
end Go.Ph.Ad
end
section
namespace Go.Ph.Ad
open Go.Ph.Pl Go.Ph.Pf
theorem skip_L1 (s : List UInt8) (hs : Sml s) : ∀ (k i m : Nat), s.length - i ≤ k → k < m → i ≤ s.length →
 Rs s ((Y0b m s (i : Int)).bind fun o21 => (match o21 with | .inl (s3, n4) => some (.inl (s3, n4)) | .inr r20 => some r20)) (sk (s.drop i)) := by
 intro k
 induction k with
 | zero =>
   intro i m h1 h2 h3
   obtain ⟨m, rfl⟩ : ∃ k, m = k + 1 := ⟨m - 1, by omega⟩
   rw [Y0b, if_neg (by omega), bsome, List.drop_eq_nil_of_le (by omega), sk_nil]
   exact ⟨i, h3, (List.drop_eq_nil_of_le (by omega)).symm, rfl⟩
 | succ k ih =>
   intro i m h1 h2 h3
   obtain ⟨m, rfl⟩ : ∃ k, m = k + 1 := ⟨m - 1, by omega⟩
   have hb : s.length ≤ 4294967280 := hs
   by_cases hi : i < s.length
   · rw [Y0b, if_pos (by omega), idx_nat, List.getElem?_eq_getElem hi, bsome, blank_eq, bsome, List.drop_eq_getElem_cons hi, sk_cons]
     by_cases hbl : blB s[i] = true
     · rw [if_pos hbl, if_pos hbl, chk_succ (by omega), bsome]
       exact ih (i + 1) m (by omega) (by omega) (by omega)
     · rw [if_neg hbl, if_neg hbl]
       by_cases hc : s[i] = 40
       · rw [if_pos hc, if_pos hc]
         have hcm := comment_run s hs i hi hc
         have hlen := cmtF_len (s.drop (i + 1)) 1
         revert hcm hlen
         cases cmtF 1 (s.drop (i + 1)) with
         | none => rintro ⟨n, q1, q2⟩ _; rw [q2, bsome]; exact ⟨n, q1, rfl⟩
         | some r =>
           rintro ⟨j, q1, rfl, q3⟩ hlen
           have hl := hlen _ rfl
           rw [List.length_drop, List.length_drop] at hl
           rw [q3, bsome, bsome]
           exact ih j m (by omega) (by omega) q1
       · rw [if_neg hc, if_neg hc, bsome]
         exact ⟨i, h3, (List.drop_eq_getElem_cons hi).symm, rfl⟩
   · rw [Y0b, if_neg (by omega), bsome, List.drop_eq_nil_of_le (by omega), sk_nil]
     exact ⟨i, h3, (List.drop_eq_nil_of_le (by omega)).symm, rfl⟩
theorem skip_run (s : List UInt8) (hs : Sml s) (i : Nat) (h3 : i ≤ s.length) : Rs s (Y1R (s, (i : Int))) (sk (s.drop i)) :=
 skip_L1 s hs s.length i FU (by omega) (FU_gt (by have : s.length ≤ 4294967280 := hs; omega)) h3
theorem quote_L1 (s : List UInt8) (hs : Sml s) : ∀ (k i m : Nat) (acc : List UInt8), s.length - i ≤ k → k < m → i ≤ s.length → acc.length ≤ i →
 Rn s (Y0f m s (i : Int) acc) ((quF (s.drop i)).map fun p => (acc ++ p.1, p.2)) := by
 intro k
 induction k with
 | zero =>
   intro i m acc h1 h2 h3 h4
   obtain ⟨m, rfl⟩ : ∃ k, m = k + 1 := ⟨m - 1, by omega⟩
   rw [Y0f, if_pos (by omega), fail_eq, List.drop_eq_nil_of_le (by omega), quF]
   exact ⟨_, Int.natCast_nonneg _, rfl⟩
 | succ k ih =>
   intro i m acc h1 h2 h3 h4
   obtain ⟨m, rfl⟩ : ∃ k, m = k + 1 := ⟨m - 1, by omega⟩
   have hb : s.length ≤ 4294967280 := hs
   by_cases hi : i < s.length
   · have n1 := fun c => ih (i + 1) m (acc ++ [c]) (by omega) (by omega) (by omega) (by rw [List.length_append]; simp; omega)
     have n2 := fun (hj : i + 1 < s.length) c => ih (i + 1 + 1) m (acc ++ [c]) (by omega) (by omega) (by omega) (by rw [List.length_append]; simp; omega)
     have ha : ∀ c : UInt8, app 1 acc [c] = some (acc ++ [c]) := fun c => app_ok (by simp; omega)
     rw [Y0f, if_neg (by omega), bsome]
     simp only
     rw [idx_nat, List.getElem?_eq_getElem hi, bsome, List.drop_eq_getElem_cons hi]
     obtain ⟨c, hc⟩ : ∃ c, s[i] = c := ⟨_, rfl⟩
     rw [hc]
     by_cases q1 : c = 34
     · rw [if_pos q1, chk_succ (by omega), bsome]
       have : quF (c :: s.drop (i + 1)) = some ([], s.drop (i + 1)) := by
        cases s.drop (i + 1) <;> simp [quF, q1]
       rw [this]
       exact ⟨i + 1, by omega, rfl, by simp⟩
     · rw [if_neg q1]
       by_cases q2 : c = 92
       · rw [if_pos q2, chk_succ (by omega), bsome]
         by_cases hj : i + 1 < s.length
         · rw [if_neg (by omega), bsome]
           simp only
           rw [idx_nat, List.getElem?_eq_getElem hj, bsome, ha, bsome, bsome]
           simp only
           rw [chk_succ (by omega), bsome, List.drop_eq_getElem_cons hj, quF, if_neg q1, if_pos q2]
           have h5 := n2 hj s[i + 1]
           revert h5
           cases quF (s.drop (i + 1 + 1)) with
           | none => exact id
           | some p => simp
         · rw [if_pos (by omega), fail_eq, bsome, bsome]
           have : quF (c :: s.drop (i + 1)) = none := by rw [List.drop_eq_nil_of_le (by omega), quF, if_neg q1]
           rw [this]
           exact ⟨_, Int.natCast_nonneg _, rfl⟩
       · rw [if_neg q2, ha, bsome, bsome]
         simp only
         rw [chk_succ (by omega), bsome]
         have : quF (c :: s.drop (i + 1)) = (quF (s.drop (i + 1))).map fun p => (c :: p.1, p.2) := by
          cases hd : s.drop (i + 1) with
          | nil => simp [quF, q1]
          | cons x l => rw [quF, if_neg q1, if_neg q2]
         rw [this]
         have h5 := n1 c
         revert h5
         cases quF (s.drop (i + 1)) with
         | none => exact id
         | some p => simp
   · rw [Y0f, if_pos (by omega), fail_eq, List.drop_eq_nil_of_le (by omega), quF]
     exact ⟨_, Int.natCast_nonneg _, rfl⟩
theorem quote_run (s : List UInt8) (hs : Sml s) (i : Nat) (hi : i < s.length) : Rn s (Y1j (s, (i : Int))) (quF (s.drop (i + 1))) := by
 have hb : s.length ≤ 4294967280 := hs
 unfold Y1j
 dsimp only
 rw [chk_succ (by omega), bsome]
 have := quote_L1 s hs s.length (i + 1) FU [] (by omega) (FU_gt (by omega)) (by omega) (by simp)
 revert this
 cases quF (s.drop (i + 1)) with
 | none => rintro ⟨n, h1, h2⟩; exact ⟨n, h1, by rw [h2, bsome]⟩
 | some r => rintro ⟨j, h1, h2, h3⟩; exact ⟨j, h1, h2, by rw [h3, bsome]; rfl⟩
theorem word_L1 (s : List UInt8) (hs : Sml s) : ∀ (k i m : Nat), s.length - i ≤ k → k < m → i ≤ s.length →
 Y0k m s (i : Int) = some (s, ((i + ((s.drop i).takeWhile waB).length : Nat) : Int)) := by
 intro k
 induction k with
 | zero =>
   intro i m h1 h2 h3
   obtain ⟨m, rfl⟩ : ∃ k, m = k + 1 := ⟨m - 1, by omega⟩
   rw [Y0k, if_neg (by omega), bsome, if_neg (by decide), List.drop_eq_nil_of_le (by omega)]; rfl
 | succ k ih =>
   intro i m h1 h2 h3
   obtain ⟨m, rfl⟩ : ∃ k, m = k + 1 := ⟨m - 1, by omega⟩
   have hb : s.length ≤ 4294967280 := hs
   by_cases hi : i < s.length
   · rw [Y0k, if_pos (by omega), idx_nat, List.getElem?_eq_getElem hi, bsome, atom_eq, bsome, List.drop_eq_getElem_cons hi]
     have hw : (if atB s[i] = true then some true else (some s[i]).bind fun c31 => some (decide (c31 = 46))) = some (waB s[i]) := by
      unfold waB
      cases atB s[i] <;> simp
     rw [hw, bsome]
     by_cases q : waB s[i] = true
     · rw [if_pos q, chk_succ (by omega), bsome, ih (i + 1) m (by omega) (by omega) (by omega), List.takeWhile_cons_of_pos q, List.length_cons]
       congr 3; omega
     · rw [if_neg q, List.takeWhile_cons_of_neg q]; rfl
   · rw [Y0k, if_neg (by omega), bsome, if_neg (by decide), List.drop_eq_nil_of_le (by omega)]; rfl
theorem sign_eq (c : UInt8) : Y0t [58, 59, 44, 64, 60, 62] c = some (ixB [58, 59, 44, 64, 60, 62] c) ∧ (0 ≤ ixB [58, 59, 44, 64, 60, 62] c ↔ sgB c = true) := by
 refine ⟨by unfold Y0t; rfl, ?_⟩
 refine allB (p := fun c => 0 ≤ ixB [58, 59, 44, 64, 60, 62] c ↔ sgB c = true) ?_ c
 decide +kernel
theorem tw_take (p : UInt8 → Bool) : ∀ l : List UInt8, l.take (l.takeWhile p).length = l.takeWhile p
 | [] => rfl
 | c :: l => by
   by_cases h : p c = true
   · rw [List.takeWhile_cons_of_pos h, List.length_cons, List.take_succ_cons, tw_take p l]
   · rw [List.takeWhile_cons_of_neg h]; rfl
theorem tw_drop (p : UInt8 → Bool) : ∀ l : List UInt8, l.drop (l.takeWhile p).length = l.dropWhile p
 | [] => rfl
 | c :: l => by
   by_cases h : p c = true
   · rw [List.takeWhile_cons_of_pos h, List.length_cons, List.drop_succ_cons, tw_drop p l, List.dropWhile_cons_of_pos h]
   · rw [List.takeWhile_cons_of_neg h, List.dropWhile_cons_of_neg h]; rfl
theorem tw_le (p : UInt8 → Bool) : ∀ l : List UInt8, (l.takeWhile p).length ≤ l.length
 | [] => by simp
 | c :: l => by
   by_cases h : p c = true
   · rw [List.takeWhile_cons_of_pos h]; have := tw_le p l; simp; omega
   · rw [List.takeWhile_cons_of_neg h]; simp
theorem next_run (s : List UInt8) (hs : Sml s) (i : Nat) (h3 : i ≤ s.length) : Rn s (Y0i (s, (i : Int))) (nxF (s.drop i)) := by
 have hb : s.length ≤ 4294967280 := hs
 unfold Y0i nxF
 have hsk := skip_run s hs i h3
 revert hsk
 dsimp only
 cases sk (s.drop i) with
 | none => rintro ⟨n, q1, q2⟩; rw [q2, bsome]; exact ⟨n, q1, rfl⟩
 | some r =>
   rintro ⟨j, q1, rfl, q3⟩
   rw [q3, bsome, bsome]
   by_cases hj : j < s.length
   · dsimp only
     rw [if_neg (by omega), idx_nat, List.getElem?_eq_getElem hj, bsome, List.drop_eq_getElem_cons hj]
     dsimp only
     by_cases c1 : s[j] = 34
     · rw [if_pos c1, if_pos c1]
       have hq := quote_run s hs j hj
       revert hq
       cases quF (s.drop (j + 1)) with
       | none => rintro ⟨n, w1, w2⟩; rw [w2, bsome]; exact ⟨n, w1, rfl⟩
       | some p => rintro ⟨k, w1, w2, w3⟩; rw [w3, bsome]; exact ⟨k, w1, w2, rfl⟩
     · rw [if_neg c1, if_neg c1, (sign_eq s[j]).1, bsome]
       by_cases c2 : sgB s[j] = true
       · rw [if_pos ((sign_eq s[j]).2.2 c2), if_pos c2, chk_succ (by omega), bsome]
         exact ⟨j + 1, by omega, rfl, rfl⟩
       · rw [if_neg (fun e => c2 ((sign_eq s[j]).2.1 e)), if_neg c2, word_L1 s hs s.length j FU (by omega) (FU_gt (by omega)) (by omega), bsome, List.drop_eq_getElem_cons hj]
         dsimp only
         by_cases c3 : waB s[j] = true
         · have hw : (s[j] :: s.drop (j + 1)) = s.drop j := (List.drop_eq_getElem_cons hj).symm
           have hpos : 1 ≤ ((s[j] :: s.drop (j + 1)).takeWhile waB).length := by rw [List.takeWhile_cons_of_pos c3]; simp
           have hle := tw_le waB (s.drop j)
           rw [List.length_drop] at hle
           rw [if_neg (by omega), if_pos c3, bsome]
           rw [hw] at hpos ⊢
           dsimp only
           rw [cut_of rfl rfl (by omega) (by omega), bsome, List.drop_take, Nat.add_sub_cancel_left, tw_take]
           exact ⟨j + ((s.drop j).takeWhile waB).length, by omega, by rw [← List.drop_drop, tw_drop], rfl⟩
         · rw [if_pos (by rw [List.takeWhile_cons_of_neg c3]; simp), if_neg c3, fail_eq, bsome, bsome]
           exact ⟨_, Int.natCast_nonneg _, rfl⟩
   · dsimp only
     rw [if_pos (by omega), List.drop_eq_nil_of_le (by omega)]
     exact ⟨j, q1, (List.drop_eq_nil_of_le (by omega)).symm, rfl⟩
def RnS {α : Type} (s : List UInt8) (f : Option ((α × (List UInt8 × Int)) ⊕ Int)) : Option (α × LT) → Prop
 | some (a, t) => ∃ j : Nat, j ≤ s.length ∧ t = lex (s.drop j) ∧ f = some (.inl (a, (s, (j : Int))))
 | none => ∃ n : Int, 0 ≤ n ∧ f = some (.inr n)
def RsS (s : List UInt8) (f : Option ((List UInt8 × Int) ⊕ Int)) : Option LT → Prop
 | some t => ∃ j : Nat, j ≤ s.length ∧ t = lex (s.drop j) ∧ f = some (.inl (s, (j : Int)))
 | none => ∃ n : Int, 0 ≤ n ∧ f = some (.inr n)
def elOf : LT → Elt
 | .tok e _ => some e
 | _ => none
theorem peek_run (s : List UInt8) (hs : Sml s) (i : Nat) (h3 : i ≤ s.length) :
 (lex (s.drop i) = .err ∧ ∃ n : Int, 0 ≤ n ∧ Y0d (s, (i : Int)) = some (.inr n)) ∨ (lex (s.drop i) ≠ .err ∧ Y0d (s, (i : Int)) = some (.inl (elOf (lex (s.drop i)), (s, (i : Int))))) := by
 have hn := next_run s hs i h3
 unfold Y0d
 dsimp only
 rw [lex_eq]
 revert hn
 cases nxF (s.drop i) with
 | none => rintro ⟨n, q1, q2⟩; exact .inl ⟨rfl, n, q1, by rw [q2, bsome]⟩
 | some p =>
   obtain ⟨e, r⟩ := p
   rintro ⟨j, q1, q2, q3⟩
   refine .inr ?_
   rw [q3, bsome]
   cases e with
   | none => exact ⟨fun h => (by cases h), rfl⟩
   | some e => exact ⟨fun h => (by cases h), rfl⟩
theorem next_tok (s : List UInt8) (hs : Sml s) (i : Nat) (h3 : i ≤ s.length) {e : UInt8 ⊕ (List UInt8 × Bool)} {t : LT} (h : lex (s.drop i) = .tok e t) :
 ∃ j : Nat, j ≤ s.length ∧ i < j ∧ t = lex (s.drop j) ∧ Y0i (s, (i : Int)) = some (.inl (some e, (s, (j : Int)))) := by
 have hn := next_run s hs i h3
 rw [lex_eq] at h
 have hl := @nxF_len (s.drop i)
 revert hn h hl
 cases nxF (s.drop i) with
 | none => intro h; cases h
 | some p =>
   obtain ⟨e', r⟩ := p
   rintro h ⟨j, q1, rfl, q3⟩ hl
   cases e' with
   | none => cases h
   | some e' =>
     dsimp only at h
     injection h with h1 h2
     subst h1 h2
     have := hl rfl (by simp)
     rw [List.length_drop, List.length_drop] at this
     exact ⟨j, q1, by omega, rfl, q3⟩
theorem next_eof (s : List UInt8) (hs : Sml s) (i : Nat) (h3 : i ≤ s.length) (h : lex (s.drop i) = .eof) : ∃ j : Nat, j ≤ s.length ∧ Y0i (s, (i : Int)) = some (.inl (none, (s, (j : Int)))) := by
 have hn := next_run s hs i h3
 rw [lex_eq] at h
 revert hn h
 cases nxF (s.drop i) with
 | none => intro h; cases h
 | some p =>
   obtain ⟨e', r⟩ := p
   rintro h ⟨j, q1, rfl, q3⟩
   cases e' with
   | none => exact ⟨j, q1, q3⟩
   | some e' => cases h
theorem next_err (s : List UInt8) (hs : Sml s) (i : Nat) (h3 : i ≤ s.length) (h : lex (s.drop i) = .err) : ∃ n : Int, 0 ≤ n ∧ Y0i (s, (i : Int)) = some (.inr n) := by
 have hn := next_run s hs i h3
 rw [lex_eq] at h
 revert hn h
 cases nxF (s.drop i) with
 | none => rintro _ ⟨n, q1, q2⟩; exact ⟨n, q1, q2⟩
 | some p => obtain ⟨e', r⟩ := p; cases e' <;> (intro h; cases h)
def wordsS : LT → Option (List (List UInt8 × Bool) × LT)
 | .err => none
 | .eof => some ([], .eof)
 | .tok (.inl c) t => some ([], .tok (.inl c) t)
 | .tok (.inr w) t => (wordsS t).map fun p => (w :: p.1, p.2)
def isS (c : UInt8) : LT → Option (Bool × LT)
 | .err => none
 | .eof => some (false, .eof)
 | .tok (.inr w) t => some (false, .tok (.inr w) t)
 | .tok (.inl d) t => if d = c then some (true, t) else some (false, .tok (.inl d) t)
def needS (c : UInt8) (t : LT) : Option LT := (isS c t).bind fun p => if p.1 = true then some p.2 else none
theorem Y4R (s : List UInt8) (hs : Sml s) : ∀ (k i m : Nat) (acc : List (List UInt8 × Bool)), s.length - i ≤ k → k < m → i ≤ s.length → acc.length ≤ i →
 RnS s (Y0g m s (i : Int) acc) ((wordsS (lex (s.drop i))).map fun p => (acc ++ p.1, p.2)) := by
 intro k
 induction k with
 | zero =>
   intro i m acc h1 h2 h3 h4
   obtain ⟨m, rfl⟩ : ∃ k, m = k + 1 := ⟨m - 1, by omega⟩
   have he : lex (s.drop i) = .eof := by rw [List.drop_eq_nil_of_le (by omega)]; rfl
   rcases peek_run s hs i h3 with ⟨q1, _⟩ | ⟨_, q2⟩
   · rw [he] at q1; cases q1
   · rw [Y0g, q2, bsome, he]
     simp only [elOf, okW_eq, bsome, isW, getW, Bool.false_eq_true, if_false, wordsS, Option.map_some]
     exact ⟨i, h3, he.symm, by rw [List.append_nil]⟩
 | succ k ih =>
   intro i m acc h1 h2 h3 h4
   obtain ⟨m, rfl⟩ : ∃ k, m = k + 1 := ⟨m - 1, by omega⟩
   have hb : s.length ≤ 4294967280 := hs
   rcases peek_run s hs i h3 with ⟨q1, n, q2, q3⟩ | ⟨q1, q2⟩
   · rw [Y0g, q3, bsome, q1]
     exact ⟨n, q2, rfl⟩
   · rw [Y0g, q2, bsome]
     cases hl : lex (s.drop i) with
     | err => exact absurd hl q1
     | eof =>
       simp only [elOf, okW_eq, bsome, isW, getW, Bool.false_eq_true, if_false, wordsS, Option.map_some]
       exact ⟨i, h3, hl.symm, by rw [List.append_nil]⟩
     | tok e t =>
       cases e with
       | inl c =>
         simp only [elOf, okW_eq, bsome, isW, getW, Bool.false_eq_true, if_false, wordsS, Option.map_some]
         exact ⟨i, h3, hl.symm, by rw [List.append_nil]⟩
       | inr w =>
         obtain ⟨j, w1, w2, rfl, w4⟩ := next_tok s hs i h3 hl
         simp only [elOf, okW_eq, bsome, isW, getW, if_true, w4]
         rw [app_ok (by simp; omega), bsome]
         have h5 := ih j m (acc ++ [w]) (by omega) (by omega) w1 (by rw [List.length_append]; simp; omega)
         rw [wordsS]
         revert h5
         cases wordsS (lex (s.drop j)) with
         | none => exact id
         | some p => simp
theorem Y47 (s : List UInt8) (hs : Sml s) (i : Nat) (h3 : i ≤ s.length) : RnS s (Y0G (s, (i : Int))) (wordsS (lex (s.drop i))) := by
 have hb : s.length ≤ 4294967280 := hs
 unfold Y0G
 dsimp only
 have := Y4R s hs s.length i FU [] (by omega) (FU_gt (by omega)) h3 (by simp)
 revert this
 cases wordsS (lex (s.drop i)) with
 | none => rintro ⟨n, h1, h2⟩; exact ⟨n, h1, by rw [h2, bsome]⟩
 | some r => rintro ⟨j, h1, h2, h3⟩; exact ⟨j, h1, h2, by rw [h3, bsome]; rfl⟩
theorem is_run (s : List UInt8) (hs : Sml s) (i : Nat) (h3 : i ≤ s.length) (c : UInt8) : RnS s (Y0v (s, (i : Int)) c) (isS c (lex (s.drop i))) := by
 unfold Y0v
 dsimp only
 rcases peek_run s hs i h3 with ⟨q1, n, q2, q3⟩ | ⟨q1, q2⟩
 · rw [q3, bsome, q1]
   exact ⟨n, q2, rfl⟩
 · rw [q2, bsome]
   dsimp only
   cases hl : lex (s.drop i) with
   | err => exact absurd hl q1
   | eof =>
     dsimp only [isS]
     rw [if_neg (show ¬ elOf LT.eof = eltS c by simp [elOf, eltS])]
     exact ⟨i, h3, hl.symm, rfl⟩
   | tok e t =>
     cases e with
     | inr w =>
       dsimp only [isS]
       rw [if_neg (show ¬ elOf (LT.tok (.inr w) t) = eltS c by simp [elOf, eltS])]
       exact ⟨i, h3, hl.symm, rfl⟩
     | inl d =>
       dsimp only [isS]
       by_cases hd : d = c
       · obtain ⟨j, w1, w2, rfl, w4⟩ := next_tok s hs i h3 hl
         rw [if_pos (show elOf (LT.tok (.inl d) _) = eltS c by rw [hd]; rfl), if_pos hd, w4, bsome]
         exact ⟨j, w1, rfl, rfl⟩
       · rw [if_neg (show ¬ elOf (LT.tok (.inl d) t) = eltS c by intro e; exact hd (by simpa [elOf, eltS] using e)), if_neg hd]
         exact ⟨i, h3, hl.symm, rfl⟩
theorem need_run (s : List UInt8) (hs : Sml s) (i : Nat) (h3 : i ≤ s.length) (c : UInt8) : RsS s (Y0O (s, (i : Int)) c) (needS c (lex (s.drop i))) := by
 have h := is_run s hs i h3 c
 unfold Y0O needS
 dsimp only
 revert h
 cases isS c (lex (s.drop i)) with
 | none => rintro ⟨n, h1, h2⟩; rw [h2, bsome]; exact ⟨n, h1, rfl⟩
 | some p =>
   obtain ⟨b, t⟩ := p
   rintro ⟨j, h1, h2, h3⟩
   rw [h3, bsome, bsome]
   cases b with
   | true => exact ⟨j, h1, h2, rfl⟩
   | false => exact ⟨_, Int.natCast_nonneg _, rfl⟩
end Go.Ph.Ad
end
section
namespace Go.Ph.Ad
open Go.Ph.Pl Go.Ph.Pf
def esc (c : UInt8) : Option (List UInt8) := if c = 34 then some [92, 34] else if c = 92 then some [92, 92] else none
def q1 (c : UInt8) : List UInt8 := (esc c).getD [c]
end Go.Ph.Ad
end
section
namespace Go.Ph.Ad
open Go.Ph.Pl Go.Ph.Pf
open Go.Ph.Chs (vld lower lowB)
theorem lex_nil : lex [] = .eof := rfl
theorem lex_blank {c : UInt8} {l : List UInt8} (h : blB c = true) : lex (c :: l) = lex l := by
 rw [lex_eq, lex_eq]
 unfold nxF
 rw [sk_cons, if_pos h]
theorem lex_comment {l r : List UInt8} (h : cmtF 1 l = some r) : lex (40 :: l) = lex r := by
 rw [lex_eq, lex_eq]
 unfold nxF
 rw [sk_cons, if_neg (by decide), if_pos rfl, h, bsome]
theorem loc_len {w : List UInt8} (h : locT w = true) : w.length ≤ 60 := by
 unfold locT at h
 rw [Bool.and_eq_true, decide_eq_true_eq] at h
 omega
theorem dom_len {d : List UInt8} (h : domT d = true) : d.length ≤ 60 := by
 unfold domT at h
 rw [Bool.and_eq_true, decide_eq_true_eq] at h
 omega
theorem sameI_L1 (l : List Itm) (h : l.length ≤ 140737488355328) (hm : ∀ x ∈ l, x.2.2.length ≤ 140737488355328) : ∀ (k i m : Nat), l.length - i ≤ k → k < m → i ≤ l.length → Y17 l l m (i : Int) = some (.inl ()) := by
 intro k
 induction k with
 | zero =>
   intro i m h1 h2 h3
   obtain ⟨m, rfl⟩ : ∃ k, m = k + 1 := ⟨m - 1, by omega⟩
   obtain rfl : i = l.length := by omega
   rw [Y17, if_neg (by omega)]
 | succ k ih =>
   intro i m h1 h2 h3
   obtain ⟨m, rfl⟩ : ∃ k, m = k + 1 := ⟨m - 1, by omega⟩
   by_cases hi : i < l.length
   · rw [Y17, if_pos (by omega), idx_nat, List.getElem?_eq_getElem hi]
     simp only [bsome, if_true, sameA_refl _ (hm _ (List.getElem_mem hi)), Bool.not_true, Bool.false_eq_true, if_false]
     rw [chk_succ (by omega), bsome]
     exact ih (i + 1) m (by omega) (by omega) (by omega)
   · obtain rfl : i = l.length := by omega
     rw [Y17, if_neg (by omega)]
theorem sameI_refl (l : List Itm) (h : l.length ≤ 140737488355328) (hm : ∀ x ∈ l, x.2.2.length ≤ 140737488355328) : Y2M l l = some true := by
 unfold Y2M
 rw [if_pos rfl, show (0 : Int) = ((0 : Nat) : Int) from rfl, sameI_L1 l h hm l.length 0 FU (by omega) (FU_gt (by omega)) (by omega)]
 rfl
end Go.Ph.Ad
end
section
namespace Go.Ph.B64
theorem byThree {P : List UInt8 → Prop} (h0 : P []) (h1 : ∀ a, P [a]) (h2 : ∀ a b, P [a, b]) (h3 : ∀ a b c l, P l → P (a :: b :: c :: l)) : ∀ l, P l
 | [] => h0
 | [a] => h1 a
 | [a, b] => h2 a b
 | a :: b :: c :: l => h3 a b c l (byThree h0 h1 h2 h3 l)
abbrev A (k : Nat) : UInt8 := alpha.getD k 0
theorem outp_eq (l : List UInt8) : outp l 4 = [ch l 0, ch l 1, ch l 2, ch l 3] := rfl
theorem ch_of (l : List UInt8) (i : Nat) (h : i ≤ min 3 l.length) : ch l i = A (accN l 3 / 2 ^ (18 - 6 * i) % 64) := by
 unfold ch; rw [if_neg (by omega)]
theorem acc3 (l : List UInt8) : accN l 3 = (l.getD 0 0).toNat * 65536 + (l.getD 1 0).toNat * 256 + (l.getD 2 0).toNat := by
 simp only [accN]; omega
theorem grp3 (a b c : UInt8) (l : List UInt8) : outp (a :: b :: c :: l) 4 = [A (a.toNat / 4), A (a.toNat % 4 * 16 + b.toNat / 16), A (b.toNat % 16 * 4 + c.toNat / 64), A (c.toNat % 64)] := by
 have ha := a.toNat_lt
 have hb := b.toNat_lt
 have hc := c.toNat_lt
 have h := acc3 (a :: b :: c :: l)
 simp only [List.getD_cons_zero, List.getD_cons_succ] at h
 rw [outp_eq, ch_of _ _ (by simp), ch_of _ _ (by simp), ch_of _ _ (by simp), ch_of _ _ (by simp), h]
 congr 2
 · simp only [Nat.mul_zero, Nat.sub_zero]; omega
 congr 2
 · simp only [Nat.mul_one]; omega
 congr 2
 · omega
 rw [show (a.toNat * 65536 + b.toNat * 256 + c.toNat) / 2 ^ (18 - 6 * 3) % 64 = c.toNat % 64 by rw [show 2 ^ (18 - 6 * 3) = 1 from rfl, Nat.div_one]; omega]
theorem grp1 (a : UInt8) : outp [a] 4 = [A (a.toNat / 4), A (a.toNat % 4 * 16), 61, 61] := by
 have ha := a.toNat_lt
 have h := acc3 [a]
 simp only [List.getD_cons_zero, List.getD_cons_succ, List.getD_nil] at h
 rw [outp_eq, ch_of _ _ (by simp), ch_of _ _ (by simp), h]
 congr 2
 · simp; omega
 congr 2
 simp; omega
theorem grp2 (a b : UInt8) : outp [a, b] 4 = [A (a.toNat / 4), A (a.toNat % 4 * 16 + b.toNat / 16), A (b.toNat % 16 * 4), 61] := by
 have ha := a.toNat_lt
 have hb := b.toNat_lt
 have h := acc3 [a, b]
 simp only [List.getD_cons_zero, List.getD_cons_succ, List.getD_nil] at h
 rw [outp_eq, ch_of _ _ (by simp), ch_of _ _ (by simp), ch_of _ _ (by simp), h]
 congr 2
 · simp; omega
 congr 2
 · simp; omega
 congr 2
 simp; omega
theorem grps_three (a b c : UInt8) (l : List UInt8) : grps (a :: b :: c :: l) = outp (a :: b :: c :: l) 4 :: grps l := by
 unfold grps
 have h1 : ((a :: b :: c :: l).length + 2) / 3 = (l.length + 2) / 3 + 1 := by simp only [List.length_cons]; omega
 rw [h1]
 unfold grpsTo
 rw [List.range_succ_eq_map, List.map_cons, List.map_map]
 congr 1
theorem grps_one (a : UInt8) : grps [a] = [outp [a] 4] := by
 unfold grps
 rw [show ([a].length + 2) / 3 = 1 by simp]
 simp [grpsTo, grpAt, List.range_succ]
theorem grps_two (a b : UInt8) : grps [a, b] = [outp [a, b] 4] := by
 unfold grps
 rw [show ([a, b].length + 2) / 3 = 1 by simp]
 simp [grpsTo, grpAt, List.range_succ]
theorem sumN6 (x y z u v w : Nat) : sumN [x, y, z, u, v, w] = 32 * x + 16 * y + 8 * z + 4 * u + 2 * v + w := by simp [sumN]; omega
theorem six_add (x bits : List Nat) (m q : Nat) (hx : x.length = 6 * m) : six (x ++ bits) (m + q) = six bits q := by
 unfold six
 congr 1
 rw [List.drop_take, List.drop_take]
 rw [show 6 * (m + q) = x.length + 6 * q by omega, List.drop_length_add_append]
 congr 1
 omega
theorem sext_add (x bits : List Nat) (m : Nat) (hx : x.length = 6 * m) (q : Nat) : sext (x ++ bits) (m + q) = sext (x ++ bits) m ++ sext bits q := by
 induction q with
 | zero => simp [sext]
 | succ q ih => rw [← Nat.add_assoc, sext, sext, ih, six_add x bits m q hx, List.append_assoc]
theorem padBits_three (a b c : UInt8) (l : List UInt8) : padBits (a :: b :: c :: l) = (bits8 a.toNat ++ bits8 b.toNat ++ bits8 c.toNat) ++ padBits l := by
 unfold padBits bitsOf
 simp only [List.flatMap_cons, List.append_assoc, List.length_cons]
 rw [show (6 - 8 * (l.length + 1 + 1 + 1) % 6) % 6 = (6 - 8 * l.length % 6) % 6 by omega]
theorem sext_lit (x : List Nat) (bits : List Nat) (n1 n2 n3 n4 : Nat) (h1 : six (x ++ bits) 0 = n1) (h2 : six (x ++ bits) 1 = n2) (h3 : six (x ++ bits) 2 = n3) (h4 : six (x ++ bits) 3 = n4) (l1 : n1 < 64) (l2 : n2 < 64) (l3 : n3 < 64) (l4 : n4 < 64) :
 sext (x ++ bits) 4 = [A n1, A n2, A n3, A n4] := by
 simp only [sext, h1, h2, h3, h4, alpha_one _ l1, alpha_one _ l2, alpha_one _ l3, alpha_one _ l4]
 rfl
theorem chars_three (a b c : UInt8) (l : List UInt8) : chars64 (a :: b :: c :: l) = outp (a :: b :: c :: l) 4 ++ chars64 l := by
 have ha := a.toNat_lt
 have hb := b.toNat_lt
 have hc := c.toNat_lt
 have hlen : (padBits (a :: b :: c :: l)).length / 6 = 4 + (padBits l).length / 6 := by
  rw [padBits_three, List.length_append]
  simp only [List.length_append, bits8_len]
  omega
 have h4 : sext (padBits (a :: b :: c :: l)) 4 = outp (a :: b :: c :: l) 4 := by
  rw [grp3, padBits_three]
  refine sext_lit _ _ _ _ _ _ ?_ ?_ ?_ ?_ (by omega) (by omega) (by omega) (by omega)
  · simp only [six, bits8, List.cons_append, List.nil_append, List.take_succ_cons, List.take_zero, List.drop_zero, Nat.mul_zero, Nat.zero_add, sumN6]; omega
  · simp only [six, bits8, List.cons_append, List.nil_append, List.take_succ_cons, List.take_zero, List.drop_succ_cons, List.drop_zero, Nat.mul_one, sumN6]; omega
  · simp only [six, bits8, List.cons_append, List.nil_append, List.take_succ_cons, List.take_zero, List.drop_succ_cons, List.drop_zero, sumN6]; omega
  · simp only [six, bits8, List.cons_append, List.nil_append, List.take_succ_cons, List.take_zero, List.drop_succ_cons, List.drop_zero, sumN6]; omega
 have hs : sext (padBits (a :: b :: c :: l)) ((padBits (a :: b :: c :: l)).length / 6) = outp (a :: b :: c :: l) 4 ++ sext (padBits l) ((padBits l).length / 6) := by
  rw [hlen, ← h4, padBits_three]
  exact sext_add _ _ 4 (by simp [bits8_len]) _
 unfold chars64
 simp only [hs, List.append_assoc, List.length_append]
 congr 3
 rw [show (outp (a :: b :: c :: l) 4).length = 4 from rfl]
 omega
theorem padBits_one (a : UInt8) : padBits [a] = bits8 a.toNat ++ [0, 0, 0, 0] := by simp [padBits, bitsOf, List.replicate]
theorem padBits_two (a b : UInt8) : padBits [a, b] = bits8 a.toNat ++ bits8 b.toNat ++ [0, 0] := by simp [padBits, bitsOf, List.replicate]
theorem chars_of {l : List UInt8} {q : Nat} {s : List UInt8} (hq : (padBits l).length / 6 = q) (h : sext (padBits l) q = s) : chars64 l = s ++ List.replicate ((4 - s.length % 4) % 4) 61 := by
 unfold chars64; rw [hq, h]
theorem chars_one (a : UInt8) : chars64 [a] = outp [a] 4 := by
 have ha := a.toNat_lt
 rw [grp1]
 have h : sext (padBits [a]) 2 = [A (a.toNat / 4), A (a.toNat % 4 * 16)] := by
  rw [padBits_one]
  have h1 : six (bits8 a.toNat ++ [0, 0, 0, 0]) 0 = a.toNat / 4 := by
   simp only [six, bits8, List.cons_append, List.nil_append, List.take_succ_cons, List.take_zero, List.drop_zero, Nat.mul_zero, Nat.zero_add, sumN6]; omega
  have h2 : six (bits8 a.toNat ++ [0, 0, 0, 0]) 1 = a.toNat % 4 * 16 := by
   simp only [six, bits8, List.cons_append, List.nil_append, List.take_succ_cons, List.take_zero, List.drop_succ_cons, List.drop_zero, Nat.mul_one, sumN6]; omega
  simp only [sext, h1, h2, alpha_one _ (show a.toNat / 4 < 64 by omega), alpha_one _ (show a.toNat % 4 * 16 < 64 by omega)]
  rfl
 rw [chars_of (by rw [padBits_one]; simp [bits8_len]) h]; rfl
theorem chars_two (a b : UInt8) : chars64 [a, b] = outp [a, b] 4 := by
 have ha := a.toNat_lt
 have hb := b.toNat_lt
 rw [grp2]
 have h : sext (padBits [a, b]) 3 = [A (a.toNat / 4), A (a.toNat % 4 * 16 + b.toNat / 16), A (b.toNat % 16 * 4)] := by
  rw [padBits_two]
  have h1 : six (bits8 a.toNat ++ bits8 b.toNat ++ [0, 0]) 0 = a.toNat / 4 := by
   simp only [six, bits8, List.cons_append, List.nil_append, List.take_succ_cons, List.take_zero, List.drop_zero, Nat.mul_zero, Nat.zero_add, sumN6]; omega
  have h2 : six (bits8 a.toNat ++ bits8 b.toNat ++ [0, 0]) 1 = a.toNat % 4 * 16 + b.toNat / 16 := by
   simp only [six, bits8, List.cons_append, List.nil_append, List.take_succ_cons, List.take_zero, List.drop_succ_cons, List.drop_zero, Nat.mul_one, sumN6]; omega
  have h3 : six (bits8 a.toNat ++ bits8 b.toNat ++ [0, 0]) 2 = b.toNat % 16 * 4 := by
   simp only [six, bits8, List.cons_append, List.nil_append, List.take_succ_cons, List.take_zero, List.drop_succ_cons, List.drop_zero, sumN6]; omega
  simp only [sext, h1, h2, h3, alpha_one _ (show a.toNat / 4 < 64 by omega), alpha_one _ (show a.toNat % 4 * 16 + b.toNat / 16 < 64 by omega), alpha_one _ (show b.toNat % 16 * 4 < 64 by omega)]
  rfl
 rw [chars_of (by rw [padBits_two]; simp [bits8_len]) h]; rfl
theorem chars_grps (l : List UInt8) : chars64 l = (grps l).flatten := by
 induction l using byThree with
 | h0 => rfl
 | h1 a => rw [chars_one, grps_one]; simp
 | h2 a b => rw [chars_two, grps_two]; simp
 | h3 a b c l ih => rw [chars_three, grps_three, List.flatten_cons, ih]
theorem flat_len (gs : List (List UInt8)) (h : ∀ g ∈ gs, g.length = 4) : gs.flatten.length = 4 * gs.length := by
 induction gs with
 | nil => rfl
 | cons g gs ih =>
   rw [List.flatten_cons, List.length_append, h g List.mem_cons_self, ih (fun x hx => h x (List.mem_cons_of_mem _ hx)), List.length_cons]
   omega
theorem wrapTo_app (cs t : List UInt8) (m : Nat) (h : 76 * m ≤ cs.length) : wrapTo (cs ++ t) m = wrapTo cs m := by
 induction m with
 | zero => rfl
 | succ m ih =>
   rw [wrapTo, wrapTo, ih (by omega)]
   congr 2
   rw [List.drop_append_of_le_length (by omega), List.take_append_of_le_length (by rw [List.length_drop]; omega)]
theorem encRun_wrap (gs : List (List UInt8)) (h : ∀ g ∈ gs, g.length = 4) : ∃ k, k = (gs.flatten.length - 1) / 76 ∧ (encRun gs).1 = wrapTo gs.flatten k ++ gs.flatten.drop (76 * k) ∧ (encRun gs).2 = gs.flatten.length - 76 * k := by
 have key : ∀ (n : Nat) (gs : List (List UInt8)), gs.length = n → (∀ g ∈ gs, g.length = 4) → ∃ k, k = (gs.flatten.length - 1) / 76 ∧ (encRun gs).1 = wrapTo gs.flatten k ++ gs.flatten.drop (76 * k) ∧ (encRun gs).2 = gs.flatten.length - 76 * k := by
  intro n
  induction n with
  | zero =>
    intro gs hn _
    obtain rfl := List.eq_nil_of_length_eq_zero hn
    exact ⟨0, rfl, rfl, rfl⟩
  | succ n ih =>
    intro gs hn hg
    obtain ⟨g0, g, rfl⟩ : ∃ g0 g, gs = g0 ++ [g] := ⟨gs.dropLast, gs.getLast (by rintro rfl; cases hn), (List.dropLast_concat_getLast _).symm⟩
    have hl0 : g0.length = n := by simpa using hn
    have hg0 : ∀ x ∈ g0, x.length = 4 := fun x hx => hg x (List.mem_append_left _ hx)
    have hg4 : g.length = 4 := hg g (List.mem_append_right _ (List.mem_singleton.2 rfl))
    obtain ⟨k, hk, h1, h2⟩ := ih g0 hl0 hg0
    have hfl := flat_len g0 hg0
    have hflat : (g0 ++ [g]).flatten = g0.flatten ++ g := by simp
    rw [hflat, encRun_next, encStep, h1, h2, List.length_append, hg4]
    generalize g0.flatten = cs at *
    by_cases hf : cs.length - 76 * k = 76
    · rw [if_pos hf]
      refine ⟨k + 1, by omega, ?_, by simp only []; omega⟩
      have e0 : cs.length = 76 * (k + 1) := by omega
      have e1 : (cs ++ g).drop (76 * (k + 1)) = g := by rw [← e0]; exact List.drop_left
      have e2 : ((cs ++ g).drop (76 * k)).take 76 = cs.drop (76 * k) := by
       have e3 : (cs.drop (76 * k)).length = 76 := by rw [List.length_drop]; omega
       rw [List.drop_append_of_le_length (by omega)]
       exact List.take_left' e3
      rw [wrapTo, wrapTo_app _ _ _ (by omega), e1, e2]
    · rw [if_neg hf]
      refine ⟨k, by omega, ?_, by simp only []; omega⟩
      simp only []
      rw [wrapTo_app _ _ _ (by omega), List.drop_append_of_le_length (by omega), List.append_assoc]
 exact key _ gs rfl h
theorem encode_lines (l : List UInt8) : encode l = lines64 (chars64 l) := by
 obtain ⟨k, hk, h1, h2⟩ := encRun_wrap (grps l) (grps_all l)
 rw [chars_grps]
 unfold encode lines64
 rw [h1, h2, ← hk]
 generalize (grps l).flatten = cs at *
 by_cases hc : cs.drop (76 * k) = []
 · have : cs.length ≤ 76 * k := List.drop_eq_nil_iff.1 hc
   rw [if_neg (by omega), if_pos hc, hc]
 · have : 76 * k < cs.length := by
    rcases Nat.lt_or_ge (76 * k) cs.length with h | h
    · exact h
    · exact absurd (List.drop_eq_nil_of_le h) hc
   rw [if_pos (by omega), if_neg hc, List.append_assoc]
theorem encode_len (l : List UInt8) : (encode l).length ≤ 4 * ((l.length + 2) / 3) + 2 * (4 * ((l.length + 2) / 3) / 76) + 2 := by
 obtain ⟨k, hk, h1, h2⟩ := encRun_wrap (grps l) (grps_all l)
 have hfl := flat_len (grps l) (grps_all l)
 rw [grps_len] at hfl
 have hw : ∀ (cs : List UInt8) (m : Nat), 76 * m ≤ cs.length → (wrapTo cs m).length = 78 * m := by
  intro cs m
  induction m with
  | zero => intro _; rfl
  | succ m ih => intro h; simp only [wrapTo, List.length_append, List.length_take, List.length_drop, List.length_cons, List.length_nil, ih (by omega)]; omega
 have h3 : (encRun (grps l)).1.length = 78 * k + ((grps l).flatten.length - 76 * k) := by
  rw [h1, List.length_append, hw _ _ (by omega), List.length_drop]
 unfold encode
 split
 · rw [List.length_append, h3]; simp only [List.length_cons, List.length_nil]; omega
 · rw [h3]; omega
theorem chars_len (l : List UInt8) : (chars64 l).length = 4 * ((l.length + 2) / 3) := by
 rw [chars_grps, flat_len _ (grps_all l), grps_len]
end Go.Ph.B64
end
section
namespace Go.Ph.Wd
open Go.Ph.Pl Go.Ph.Pf
open Go.Ph.Gr (chars Ch byts)
open Go.Ph.Chs (vld setN setOf encK decoded utf8)
theorem foldI {α σ γ : Type} {L : Nat → σ → Int → Option γ} (l : List α) (F : σ → α → σ) (fin : σ → γ) (I : Nat → σ → Prop)
 (hend : ∀ m s, I l.length s → L (m + 1) s (l.length : Int) = some (fin s))
 (hstep : ∀ m s i a, l[i]? = some a → I i s → I (i + 1) (F s a) ∧ L (m + 1) s (i : Int) = L m (F s a) ((i + 1 : Nat) : Int)) :
 ∀ (d i : Nat) (s : σ) (m : Nat), l.length - i = d → i ≤ l.length → d < m → I i s → L m s (i : Int) = some (fin ((l.drop i).foldl F s)) := by
 intro d
 induction d with
 | zero =>
   intro i s m h1 h2 h3 hI
   obtain ⟨m, rfl⟩ : ∃ k, m = k + 1 := ⟨m - 1, by omega⟩
   obtain rfl : i = l.length := by omega
   rw [hend m s hI, List.drop_length]; rfl
 | succ d ih =>
   intro i s m h1 h2 h3 hI
   obtain ⟨m, rfl⟩ : ∃ k, m = k + 1 := ⟨m - 1, by omega⟩
   have hi : i < l.length := by omega
   obtain ⟨hI', hL⟩ := hstep m s i l[i] (List.getElem?_eq_getElem hi) hI
   rw [hL, ih (i + 1) _ m (by omega) (by omega) (by omega) hI', List.drop_eq_getElem_cons hi]; rfl
theorem foldI0 {α σ γ : Type} {L : Nat → σ → Int → Option γ} (l : List α) (F : σ → α → σ) (fin : σ → γ) (I : Nat → σ → Prop) (hl : l.length ≤ 9223372036854775807)
 (hend : ∀ m s, I l.length s → L (m + 1) s (l.length : Int) = some (fin s))
 (hstep : ∀ m s i a, l[i]? = some a → I i s → I (i + 1) (F s a) ∧ L (m + 1) s (i : Int) = L m (F s a) ((i + 1 : Nat) : Int)) (s : σ) (h0 : I 0 s) : L FU s 0 = some (fin (l.foldl F s)) := by
 have := foldI l F fin I hend hstep l.length 0 s FU (by omega) (by omega) (FU_gt hl) h0
 simpa using this
def hexd : List UInt8 := [48, 49, 50, 51, 52, 53, 54, 55, 56, 57, 65, 66, 67, 68, 69, 70]
def alnum (c : UInt8) : Bool := decide (97 ≤ c.toNat ∧ c.toNat ≤ 122) || (decide (65 ≤ c.toNat ∧ c.toNat ≤ 90) || decide (48 ≤ c.toNat ∧ c.toNat ≤ 57))
def hx (n : Nat) : UInt8 := hexd.getD n 0
theorem allB {p : UInt8 → Prop} (h : ∀ n, n < 256 → p (UInt8.ofNat n)) (c : UInt8) : p c := by
 have := h c.toNat c.toNat_lt
 rwa [UInt8.ofNat_toNat] at this
def dq1 (c : UInt8) : List UInt8 := if c = 32 then [95] else if alnum c = true then [c] else [61, hx (c.toNat / 16), hx (c.toNat % 16)]
def dq (b : List UInt8) : List UInt8 := b.flatMap dq1
inductive Good : List UInt8 → Prop
 | nil : Good []
 | one {c : UInt8} {t : List UInt8} (h1 : c ≠ 13) (h2 : c ≠ 10) (h : Good t) : Good (c :: t)
 | crlf {t : List UInt8} (h : Good t) : Good (13 :: 10 :: t)
theorem Good.app {a b : List UInt8} (h : Good a) (k : Good b) : Good (a ++ b) := by
 induction h with
 | nil => exact k
 | one h1 h2 _ ih => exact .one h1 h2 ih
 | crlf _ ih => exact .crlf ih
def fre (l : List UInt8) : Prop := ∀ c ∈ l, c ≠ 13 ∧ c ≠ 10
theorem Good.of {a : List UInt8} (h : fre a) : Good a := by
 induction a with
 | nil => exact .nil
 | cons c a ih => exact .one (h c (by simp)).1 (h c (by simp)).2 (ih fun x hx => h x (by simp [hx]))
def keep (c : UInt8) : Bool := decide (c ≠ 13 ∧ c ≠ 10)
theorem keep_fre {a : List UInt8} (h : fre a) : a.filter keep = a := by
 rw [List.filter_eq_self]; intro c hc; exact decide_eq_true (h c hc)
theorem Good.index {s : List UInt8} (h : Good s) : (Lib.index s [13, 10] = -1 ∧ fre s) ∨ ∃ i : Nat, Lib.index s [13, 10] = (i : Int) ∧ fre (s.take i) ∧ Good (s.drop (i + 2)) ∧ i + 2 ≤ s.length ∧ s.filter keep = s.take i ++ (s.drop (i + 2)).filter keep := by
 induction h with
 | nil => exact .inl ⟨rfl, fun c hc => by cases hc⟩
 | @one c t h1 h2 h ih =>
   have hp : ([13, 10] : List UInt8).isPrefixOf (c :: t) = false := by simp [List.isPrefixOf, Ne.symm h1]
   have hk : keep c = true := decide_eq_true ⟨h1, h2⟩
   rcases ih with ⟨e1, e2⟩ | ⟨i, e1, e2, e3, e4, e5⟩
   · refine .inl ⟨by rw [Lib.index, hp, e1]; rfl, fun x hx => ?_⟩
     rcases List.mem_cons.1 hx with rfl | hx
     · exact ⟨h1, h2⟩
     · exact e2 x hx
   · refine .inr ⟨i + 1, ?_, fun x hx => ?_, ?_, by rw [List.length_cons]; omega, ?_⟩
     · rw [Lib.index, hp, e1]
       have : ((i : Int) == -1) = false := by simp
       rw [this]; simp
     · rw [List.take_succ_cons] at hx
       rcases List.mem_cons.1 hx with rfl | hx
       · exact ⟨h1, h2⟩
       · exact e2 x hx
     · rw [show i + 1 + 2 = (i + 2) + 1 by omega, List.drop_succ_cons]; exact e3
     · rw [List.filter_cons_of_pos hk, e5, List.take_succ_cons, show i + 1 + 2 = (i + 2) + 1 by omega, List.drop_succ_cons]; rfl
 | @crlf t h ih =>
   refine .inr ⟨0, by rw [Lib.index]; simp [List.isPrefixOf], fun x hx => (by cases hx), h, by simp, ?_⟩
   rw [List.take_zero, List.drop_succ_cons, List.drop_succ_cons, List.drop_zero, List.filter_cons_of_neg (by decide), List.filter_cons_of_neg (by decide)]; rfl
theorem replK : ∀ (n : Nat) (s : List UInt8), s.length ≤ n → Good s → Lib.replaceK [13, 10] [] (Lib.count s [13, 10]) s = s.filter keep
 | n, s, hn, h => by
   rcases h.index with ⟨e1, e2⟩ | ⟨i, e1, e2, e3, e4, e5⟩
   · rw [Lib.count_miss e1, keep_fre e2]; rfl
   · obtain ⟨n, rfl⟩ : ∃ k, n = k + 1 := ⟨n - 1, by omega⟩
     rw [Lib.count_hit (by simp) e1, Nat.add_comm, Lib.replaceK_hit _ _ _ _ _ e1, e5, List.append_nil]
     show _ ++ Lib.replaceK [13, 10] [] (Lib.count (s.drop (i + 2)) [13, 10]) (s.drop (i + 2)) = _
     rw [replK n (s.drop (i + 2)) (by rw [List.length_drop]; omega) e3]
theorem repl_good {s : List UInt8} (h : Good s) : Lib.replaceAll s [13, 10] [] = s.filter keep := by
 unfold Lib.replaceAll Lib.replace Lib.replaceNum
 rw [if_neg (by decide), if_pos (.inl (by decide))]
 exact replK _ _ (Nat.le_refl _) h
theorem alpha_fre : ∀ c ∈ (61 :: B64.alpha), c ≠ 13 ∧ c ≠ 10 := by decide
theorem alpha_at (k : Nat) : B64.alpha.getD k 0 ∈ (61 :: B64.alpha) ∨ B64.alpha.getD k 0 = 0 := by
 by_cases h : k < B64.alpha.length
 · rw [B64.getD_in _ _ _ h]; exact .inl (List.mem_cons_of_mem _ (List.getElem_mem h))
 · rw [B64.getD_out _ _ _ (by omega)]; exact .inr rfl
theorem outp_fre (l : List UInt8) : fre (B64.outp l 4) := fun c hc => by
 rw [B64.outp_eq] at hc
 have hch : ∀ i, B64.ch l i ≠ 13 ∧ B64.ch l i ≠ 10 := fun i => by
  unfold B64.ch
  split
  · decide
  · rcases alpha_at (B64.accN l 3 / 2 ^ (18 - 6 * i) % 64) with h | h
    · exact alpha_fre _ h
    · rw [h]; decide
 simp only [List.mem_cons, List.not_mem_nil, or_false] at hc
 rcases hc with rfl | rfl | rfl | rfl <;> exact hch _
theorem chars64_fre (l : List UInt8) : fre (B64.chars64 l) := fun c hc => by
 rw [B64.chars_grps] at hc
 obtain ⟨g, hg, hc⟩ := List.mem_flatten.1 hc
 unfold B64.grps B64.grpsTo at hg
 obtain ⟨k, _, rfl⟩ := List.mem_map.1 hg
 exact outp_fre _ c hc
theorem fre_sub {a b : List UInt8} (h : fre b) (hs : ∀ c ∈ a, c ∈ b) : fre a := fun c hc => h c (hs c hc)
theorem wrapTo_good {cs : List UInt8} (h : fre cs) : ∀ m, Good (B64.wrapTo cs m) ∧ (B64.wrapTo cs m).filter keep = cs.take (76 * m)
 | 0 => ⟨.nil, rfl⟩
 | m + 1 => by
   obtain ⟨h1, h2⟩ := wrapTo_good h m
   have hf : fre ((cs.drop (76 * m)).take 76) := fre_sub h fun c hc => List.mem_of_mem_drop (List.mem_of_mem_take hc)
   rw [B64.wrapTo]
   refine ⟨(h1.app (.of hf)).app (.crlf .nil), ?_⟩
   rw [List.filter_append, List.filter_append, h2, keep_fre hf, show ([13, 10] : List UInt8).filter keep = [] by decide, List.append_nil]
   rw [show 76 * (m + 1) = 76 * m + 76 by omega, List.take_add]
theorem lines_good {cs : List UInt8} (h : fre cs) : Good (B64.lines64 cs) ∧ (B64.lines64 cs).filter keep = cs := by
 obtain ⟨h1, h2⟩ := wrapTo_good h ((cs.length - 1) / 76)
 have hf : fre (cs.drop (76 * ((cs.length - 1) / 76))) := fre_sub h fun c hc => List.mem_of_mem_drop hc
 unfold B64.lines64
 split
 · rename_i hd
   refine ⟨h1.app .nil, ?_⟩
   rw [List.append_nil, h2]
   have := List.take_append_drop (76 * ((cs.length - 1) / 76)) cs
   rw [hd, List.append_nil] at this; exact this
 · refine ⟨h1.app ((Good.of hf).app (.crlf .nil)), ?_⟩
   rw [List.filter_append, List.filter_append, h2, keep_fre hf, show ([13, 10] : List UInt8).filter keep = [] by decide, List.append_nil, List.take_append_drop]
theorem flat_eq (b : List UInt8) (hb : b.length ≤ 12000) : Y33 b = some (B64.chars64 b) := by
 unfold Y33 Y30 Y0S
 have hl := B64.encode_len b
 rw [if_pos hb, bsome]
 dsimp only
 rw [if_pos ⟨by omega, by decide, by simp; omega⟩, bsome, B64.encode_lines]
 obtain ⟨h1, h2⟩ := lines_good (chars64_fre b)
 rw [repl_good h1, h2]
abbrev nam (k : Nat) : List UInt8 := setN.getD k []
def enc (k : Nat) (l : List UInt8) : List UInt8 := (chars l).flatMap fun c => (encK k c.1).getD []
theorem chars_len (l : List UInt8) : (chars l).length ≤ l.length := by
 have h := Gr.flat_le ((chars l).map (·.2)) (fun p hp => by
  obtain ⟨c, hc, rfl⟩ := List.mem_map.1 hp
  exact Gr.chars_ne l c hc)
 rw [Gr.chars_flat, List.length_map] at h
 exact h
theorem flatMap_len {α β : Type} (f : α → List β) (n : Nat) : ∀ (l : List α), (∀ a ∈ l, (f a).length ≤ n) → (l.flatMap f).length ≤ n * l.length
 | [], _ => by simp
 | a :: l, h => by
   have h1 := h a (by simp)
   have h2 := flatMap_len f n l (fun x hx => h x (by simp [hx]))
   simp only [List.flatMap_cons, List.length_append, List.length_cons, Nat.mul_succ]
   omega
def wrap (k : Nat) (b : List UInt8) : List UInt8 := [61, 63] ++ nam k ++ (if k = 2 then [63, 66, 63] ++ B64.chars64 b else [63, 81, 63] ++ dq b) ++ [63, 61]
def W (k : Nat) (l : List UInt8) : List UInt8 := wrap k (enc k l)
end Go.Ph.Wd
end
section
namespace Go.Ph.Wd
open Go.Ph.Pl Go.Ph.Pf
open Go.Ph.Gr (chars Ch byts segs)
open Go.Ph.Chs (vld setN setOf encK decoded utf8)
open Go.Ph.Utf (rune dr)
end Go.Ph.Wd
end
section
namespace Go.Ph.Wd
open Go.Ph.Pl Go.Ph.Pf
open Go.Ph.Gr (chars Ch byts segs)
open Go.Ph.Chs (vld setN setOf encK decoded utf8)
open Go.Ph.Utf (rune dr)
def p2 (k : Nat) (now : List Ch) : List (List Ch) → List (List Ch)
 | [] => [now]
 | u :: us => if (W k (byts (now ++ u))).length ≤ 75 then p2 k (now ++ u) us else now :: p2 k u us
def ext (k : Nat) (now : List Ch) : List (List Ch) → Nat × List Ch
 | [] => (0, now)
 | u :: us => if (W k (byts (now ++ u))).length ≤ 75 then ((ext k (now ++ u) us).1 + 1, (ext k (now ++ u) us).2) else (0, now)
def more (ws : List (List UInt8)) : List UInt8 := ws.flatMap fun w => 32 :: w
end Go.Ph.Wd
end
section
namespace Go.Ph.Wd
open Go.Ph.Pl Go.Ph.Pf
open Go.Ph.Gr (chars Ch byts segs)
open Go.Ph.Chs (vld setN setOf encK decoded utf8)
open Go.Ph.Utf (rune dr)
theorem prefix_eq (s p : List UInt8) (hs : s.length ≤ 9223372036854775807) : Y0E s p = some (decide (p <+: s)) := by
 unfold Y0E Y0P
 by_cases h : p.length ≤ s.length
 · rw [if_pos (by omega), cut_to rfl h, bsome, bsome, bsome]
   congr 1
   rw [decide_eq_decide, List.prefix_iff_eq_take]
   exact ⟨fun e => e.symm, fun e => e.symm⟩
 · rw [if_neg (by omega), bsome, bsome, decide_eq_false (fun e => h e.length_le)]
theorem pre1 (s : List UInt8) (c : UInt8) : [c] <+: s ↔ s.head? = some c := by
 cases s with
 | nil => simp
 | cons a s => simp [List.cons_prefix_cons, eq_comm]
end Go.Ph.Wd
end
section
namespace Go.Ph.Wd
open Go.Ph.Pl Go.Ph.Pf
open Go.Ph.Gr (chars Ch byts segs)
open Go.Ph.Chs (vld setN setOf encK decoded utf8 lower lowB)
open Go.Ph.Utf (rune dr)
def q1 : List UInt8 → Option (List UInt8 × List UInt8)
 | [] => none
 | c :: t => if c = 63 then some ([], t) else (q1 t).map fun p => (c :: p.1, p.2)
theorem q1_some : ∀ {x A r : List UInt8}, q1 x = some (A, r) → x = A ++ 63 :: r ∧ 63 ∉ A
 | [], A, r, h => by cases h
 | c :: t, A, r, h => by
   rw [q1] at h
   split at h
   · rename_i hc; cases h; exact ⟨by rw [hc]; rfl, by simp⟩
   · rename_i hc
     obtain ⟨⟨A', r'⟩, h1, h2⟩ := Option.map_eq_some_iff.1 h
     cases h2
     obtain ⟨h3, h4⟩ := q1_some h1
     exact ⟨by rw [h3]; rfl, by simp [Ne.symm hc, h4]⟩
theorem q1_of : ∀ {A r : List UInt8}, 63 ∉ A → q1 (A ++ 63 :: r) = some (A, r)
 | [], r, _ => by simp [q1]
 | c :: A, r, h => by
   simp only [List.mem_cons, not_or] at h
   rw [List.cons_append, q1, if_neg (fun e => h.1 e.symm), q1_of h.2]; rfl
theorem q1_none : ∀ {x : List UInt8}, q1 x = none ↔ 63 ∉ x
 | [] => by simp [q1]
 | c :: t => by
   rw [q1]
   split
   · rename_i hc; simp [hc]
   · rename_i hc; rw [Option.map_eq_none_iff, q1_none]; simp [Ne.symm hc]
theorem q1_take (x : List UInt8) (n : Nat) : q1 (x.take n) = match q1 x with | some (A, r) => if A.length < n then some (A, r.take (n - A.length - 1)) else none | none => none := by
 cases hq : q1 x with
 | none =>
   have := q1_none.1 hq
   exact q1_none.2 (fun hm => this (List.mem_of_mem_take hm))
 | some p =>
   obtain ⟨A, r⟩ := p
   obtain ⟨h1, h2⟩ := q1_some hq
   dsimp only
   split
   · rename_i hn
     rw [h1, List.take_append, List.take_of_length_le (by omega), show n - A.length = (n - A.length - 1) + 1 by omega, List.take_succ_cons]
     exact q1_of h2
   · rename_i hn
     refine q1_none.2 (fun hm => h2 ?_)
     rw [h1, List.take_append, show n - A.length = 0 by omega, List.take_zero, List.append_nil] at hm
     exact List.mem_of_mem_take hm
theorem index_q1 : ∀ x : List UInt8, Lib.index x [63] = match q1 x with | some p => (p.1.length : Int) | none => -1
 | [] => rfl
 | c :: t => by
   rw [Lib.index, q1]
   by_cases hc : c = 63
   · rw [if_pos (by simp [List.isPrefixOf, hc]), if_pos hc]; rfl
   · rw [if_neg (by simp [List.isPrefixOf, Ne.symm hc]), if_neg hc, index_q1 t]
     cases q1 t with
     | none => rfl
     | some p =>
       have : ¬ (((p.1.length : Int) == -1) = true) := by simp
       rw [Option.map_some]
       dsimp only
       rw [if_neg this, List.length_cons]
       exact (Int.natCast_succ _).symm
theorem splitK_q1 (k : Nat) (x : List UInt8) : Lib.splitK [63] 0 (k + 1) x = match q1 x with | some p => p.1 :: Lib.splitK [63] 0 k p.2 | none => [x] := by
 rw [Lib.splitK, index_q1]
 cases hq : q1 x with
 | none => rfl
 | some p =>
   obtain ⟨A, r⟩ := p
   obtain ⟨h1, h2⟩ := q1_some hq
   have : ¬ (((A.length : Int) == -1) = true) := by simp
   simp only [if_neg this, Int.toNat_natCast, Nat.add_zero, List.length_cons, List.length_nil, Nat.zero_add]
   rw [h1, List.take_left' rfl, List.drop_append, List.drop_eq_nil_of_le (by omega), show A.length + 1 - A.length = 1 by omega]
   rfl
def sp3 (x : List UInt8) : Option (List UInt8 × List UInt8 × List UInt8 × List UInt8) :=
 (q1 x).bind fun a => (q1 a.2).bind fun b => (q1 b.2).bind fun c => some (a.1, b.1, c.1, c.2)
theorem splitK_len : ∀ (k : Nat) (x : List UInt8), (Lib.splitK [63] 0 k x).length ≤ k + 1
 | 0, x => by simp [Lib.splitK]
 | k + 1, x => by
   rw [splitK_q1]
   cases q1 x with
   | none => simp
   | some p => have := splitK_len k p.2; simp; omega
theorem sp3_some {x A K D r : List UInt8} (h : sp3 x = some (A, K, D, r)) : x = A ++ 63 :: (K ++ 63 :: (D ++ 63 :: r)) ∧ 63 ∉ A ∧ 63 ∉ K ∧ 63 ∉ D := by
 unfold sp3 at h
 obtain ⟨⟨A', r1⟩, h1, h⟩ := bnd h
 obtain ⟨⟨K', r2⟩, h2, h⟩ := bnd h
 obtain ⟨⟨D', r3⟩, h3, h⟩ := bnd h
 cases h
 obtain ⟨e1, n1⟩ := q1_some h1
 obtain ⟨e2, n2⟩ := q1_some h2
 obtain ⟨e3, n3⟩ := q1_some h3
 dsimp only at e2 e3
 exact ⟨by rw [e1, e2, e3], n1, n2, n3⟩
theorem split4_some {x A K D r : List UInt8} (h : sp3 x = some (A, K, D, r)) : Lib.splitN x [63] 4 = [A, K, D, r] := by
 have hx := (sp3_some h).1
 have hl : 3 ≤ x.length := by rw [hx]; simp; omega
 unfold sp3 at h
 obtain ⟨a, h1, h⟩ := bnd h
 obtain ⟨b, h2, h⟩ := bnd h
 obtain ⟨c, h3, h⟩ := bnd h
 cases h
 unfold Lib.splitN
 rw [show min 4 (x.length + 1) - 1 = 3 by omega, splitK_q1, h1]
 dsimp only
 rw [splitK_q1, h2]
 dsimp only
 rw [splitK_q1, h3]
 rfl
theorem split4_none {x : List UInt8} (h : sp3 x = none) : (Lib.splitN x [63] 4).length < 4 := by
 unfold Lib.splitN
 by_cases hl : 3 ≤ x.length
 · rw [show min 4 (x.length + 1) - 1 = 3 by omega, splitK_q1]
   unfold sp3 at h
   cases h1 : q1 x with
   | none => simp
   | some a =>
     rw [h1, bsome] at h
     dsimp only
     rw [splitK_q1]
     cases h2 : q1 a.2 with
     | none => simp
     | some b =>
       rw [h2, bsome] at h
       dsimp only
       rw [splitK_q1]
       cases h3 : q1 b.2 with
       | none => simp
       | some c => rw [h3, bsome] at h; cases h
 · have := splitK_len (min 4 (x.length + 1) - 1) x
   omega
theorem sp3_take (x : List UInt8) (n : Nat) : sp3 (x.take n) = match sp3 x with | some (A, K, D, r) => if A.length + K.length + D.length + 2 < n then some (A, K, D, r.take (n - (A.length + K.length + D.length + 3))) else none | none => none := by
 cases h : sp3 x with
 | none =>
   unfold sp3 at h ⊢
   rw [q1_take]
   cases h1 : q1 x with
   | none => rfl
   | some a =>
     rw [h1, bsome] at h
     dsimp only
     split
     · rw [bsome, q1_take]
       dsimp only
       cases h2 : q1 a.2 with
       | none => rfl
       | some b =>
         rw [h2, bsome] at h
         dsimp only
         split
         · rw [bsome, q1_take]
           dsimp only
           cases h3 : q1 b.2 with
           | none => rfl
           | some c => rw [h3, bsome] at h; cases h
         · rfl
     · rfl
 | some p =>
   obtain ⟨A, K, D, r⟩ := p
   unfold sp3 at h ⊢
   obtain ⟨⟨A', r1⟩, h1, h⟩ := bnd h
   obtain ⟨⟨K', r2⟩, h2, h⟩ := bnd h
   obtain ⟨⟨D', r3⟩, h3, h⟩ := bnd h
   cases h
   dsimp only at h2 h3 ⊢
   rw [q1_take, h1]
   dsimp only
   by_cases n1 : A'.length < n
   · rw [if_pos n1, bsome, q1_take, h2]
     dsimp only
     by_cases n2 : K'.length < n - A'.length - 1
     · rw [if_pos n2, bsome, q1_take, h3]
       dsimp only
       by_cases n3 : D'.length < n - A'.length - 1 - K'.length - 1
       · rw [if_pos n3, bsome, if_pos (by show A'.length + K'.length + D'.length + 2 < n; omega)]
         rw [show n - A'.length - 1 - K'.length - 1 - D'.length - 1 = n - (A'.length + K'.length + D'.length + 3) by omega]
       · rw [if_neg n3, if_neg (by show ¬ A'.length + K'.length + D'.length + 2 < n; omega)]; rfl
     · rw [if_neg n2, if_neg (by show ¬ A'.length + K'.length + D'.length + 2 < n; omega)]; rfl
   · rw [if_neg n1, if_neg (by show ¬ A'.length + K'.length + D'.length + 2 < n; omega)]; rfl
def hexv (c : UInt8) : Option Nat := if 48 ≤ c.toNat ∧ c.toNat ≤ 57 then some (c.toNat - 48) else if 65 ≤ c.toNat ∧ c.toNat ≤ 70 then some (c.toNat - 55) else if 97 ≤ c.toNat ∧ c.toNat ≤ 102 then some (c.toNat - 87) else none
theorem hexv_lt {c : UInt8} {x : Nat} (h : hexv c = some x) : x < 16 := by
 have : ∀ c : UInt8, ∀ x, hexv c = some x → x < 16 := fun c => by
  refine allB (p := fun c => ∀ x, hexv c = some x → x < 16) ?_ c
  intro n hn x hx
  have h2 : ∀ n, n < 256 → (hexv (UInt8.ofNat n)).all (fun x => decide (x < 16)) = true := by decide +kernel
  have := h2 n hn
  rw [hx] at this
  exact of_decide_eq_true this
 exact this c x h
theorem hex_eq (c : UInt8) : Y3p c = some ((match hexv c with | some x => UInt8.ofNat x | none => 0), (hexv c).isSome) := by
 refine allB (p := fun c => Y3p c = some ((match hexv c with | some x => UInt8.ofNat x | none => 0), (hexv c).isSome)) ?_ c
 decide +kernel
theorem two16 : ∀ x, x < 16 → ∀ y, y < 16 → (UInt8.ofNat ((UInt8.ofNat x).toNat * 2 ^ 4)) ||| UInt8.ofNat y = UInt8.ofNat (16 * x + y) := by decide +kernel
def hex2 (a b : UInt8) : Option UInt8 := match hexv a, hexv b with | some x, some y => some (UInt8.ofNat (16 * x + y)) | _, _ => none
theorem pair_short {s : List UInt8} (h : s.length < 2) : Y2I s = some (0, false) := by
 unfold Y2I; rw [if_pos (by omega)]
theorem pair_eq (a b : UInt8) (t : List UInt8) : ∃ c, Y2I (a :: b :: t) = some (c, (hex2 a b).isSome) ∧ ∀ z, hex2 a b = some z → c = z := by
 unfold Y2I
 rw [if_neg (by simp; omega), show (0 : Int) = ((0 : Nat) : Int) from rfl, idx_nat, show (1 : Int) = ((1 : Nat) : Int) from rfl, idx_nat]
 simp only [List.getElem?_cons_zero, List.getElem?_cons_succ, bsome, hex_eq]
 unfold hex2
 cases ha : hexv a with
 | none => exact ⟨_, by rfl, fun z hz => by cases hz⟩
 | some x =>
   cases hb : hexv b with
   | none => exact ⟨_, by rfl, fun z hz => by cases hz⟩
   | some y => exact ⟨_, by rfl, fun z hz => by cases hz; exact two16 x (hexv_lt ha) y (hexv_lt hb)⟩
def hexd2 : List UInt8 → Option (UInt8 × List UInt8)
 | a :: b :: t => (hex2 a b).map fun z => (z, t)
 | _ => none
theorem hexd2_len {t : List UInt8} {p : UInt8 × List UInt8} (h : hexd2 t = some p) : p.2 = t.drop 2 ∧ 2 ≤ t.length := by
 rcases t with _ | ⟨a, _ | ⟨b, t⟩⟩
 · cases h
 · cases h
 · obtain ⟨z, _, rfl⟩ := Option.map_eq_some_iff.1 h
   exact ⟨rfl, by simp⟩
def uqF : Nat → List UInt8 → Option (List UInt8)
 | 0, _ => none
 | n + 1, [] => some []
 | n + 1, c :: t => if c = 95 then (uqF n t).map (32 :: ·) else if c = 61 then (hexd2 t).bind fun p => (uqF n p.2).map (p.1 :: ·) else if 33 ≤ c.toNat ∧ c.toNat ≤ 126 then (uqF n t).map (c :: ·) else none
theorem uqF_more : ∀ (n m : Nat) (l : List UInt8), l.length < n → l.length < m → uqF n l = uqF m l
 | n + 1, m + 1, [], _, _ => rfl
 | n + 1, m + 1, c :: t, h1, h2 => by
   simp only [List.length_cons] at h1 h2
   rw [uqF, uqF]
   have h0 := uqF_more n m t (by omega) (by omega)
   rw [h0]
   cases hp : hexd2 t with
   | none => rfl
   | some p =>
     obtain ⟨h3, h4⟩ := hexd2_len hp
     rw [bsome, bsome, uqF_more n m p.2 (by rw [h3, List.length_drop]; omega) (by rw [h3, List.length_drop]; omega)]
def uq (l : List UInt8) : Option (List UInt8) := uqF (l.length + 1) l
theorem uq_nil : uq [] = some [] := rfl
theorem uq_cons (c : UInt8) (t : List UInt8) : uq (c :: t) = if c = 95 then (uq t).map (32 :: ·) else if c = 61 then (hexd2 t).bind fun p => (uq p.2).map (p.1 :: ·) else if 33 ≤ c.toNat ∧ c.toNat ≤ 126 then (uq t).map (c :: ·) else none := by
 unfold uq
 rw [List.length_cons, uqF]
 cases hp : hexd2 t with
 | none => rfl
 | some p =>
   obtain ⟨h3, h4⟩ := hexd2_len hp
   rw [bsome, bsome, uqF_more (t.length + 1) (p.2.length + 1) p.2 (by rw [h3, List.length_drop]; omega) (by omega)]
theorem uq_L1 (D : List UInt8) (hD : D.length ≤ 1000000) : ∀ (d i m : Nat) (acc : List UInt8), D.length - i ≤ d → d < m → i ≤ D.length → acc.length ≤ i →
 Y0K D m acc (i : Int) = some (match uq (D.drop i) with | some r => .inl (acc ++ r) | none => .inr ([], false)) := by
 intro d
 induction d using Nat.strongRecOn with
 | ind d ih =>
   intro i m acc h1 h2 h3 h4
   obtain ⟨m, rfl⟩ : ∃ k, m = k + 1 := ⟨m - 1, by omega⟩
   rw [Y0K]
   by_cases hi : i < D.length
   · have hd := List.drop_eq_getElem_cons hi
     rw [if_pos (by omega), idx_nat, List.getElem?_eq_getElem hi, bsome, hd, uq_cons]
     by_cases c1 : D[i] = 95
     · rw [if_pos c1, if_pos c1, app_ok (by simp; omega), bsome, chk_succ (by omega), bsome, ih (d - 1) (by omega) (i + 1) m _ (by omega) (by omega) (by omega) (by simp; omega)]
       cases uq (D.drop (i + 1)) <;> simp
     · rw [if_neg c1, if_neg c1, bsome]
       by_cases c2 : D[i] = 61
       · rw [if_pos c2, if_pos c2, chk_succ (by omega), bsome, cut_from rfl (by omega), bsome]
         by_cases hs : (D.drop (i + 1)).length < 2
         · rw [pair_short hs, bsome]
           dsimp only
           rw [if_neg Bool.false_ne_true]
           have : hexd2 (D.drop (i + 1)) = none := by
            cases hx : hexd2 (D.drop (i + 1)) with
            | none => rfl
            | some p => have := hexd2_len hx; omega
           rw [this]; rfl
         · rw [List.length_drop] at hs
           have e1 := List.drop_eq_getElem_cons (show i + 1 < D.length by omega)
           have e2 := List.drop_eq_getElem_cons (show i + 1 + 1 < D.length by omega)
           rw [e1, e2]
           obtain ⟨c, hc1, hc2⟩ := pair_eq D[i + 1] D[i + 1 + 1] (D.drop (i + 1 + 1 + 1))
           rw [hc1, bsome]
           dsimp only [hexd2]
           cases hx : hex2 D[i + 1] D[i + 1 + 1] with
           | none => rw [if_neg (by simp)]; rfl
           | some z =>
             obtain rfl := hc2 z hx
             rw [if_pos (by simp), app_ok (by simp; omega), bsome, show (i : Int) + 2 = ((i + 1 + 1 : Nat) : Int) by omega, chk_ok (by omega) (by omega), bsome, chk_succ (by omega), bsome, ih (d - 3) (by omega) (i + 1 + 1 + 1) m _ (by omega) (by omega) (by omega) (by simp; omega)]
             rw [Option.map_some, bsome]
             dsimp only
             cases uq (D.drop (i + 1 + 1 + 1)) <;> simp
       · rw [if_neg c2, if_neg c2, bsome]
         by_cases c3 : 33 ≤ D[i].toNat
         · rw [if_pos c3, bsome, bsome]
           by_cases c4 : D[i].toNat ≤ 126
           · rw [if_pos (decide_eq_true c4), if_pos ⟨c3, c4⟩, bsome, app_ok (by simp; omega), bsome, chk_succ (by omega), bsome, ih (d - 1) (by omega) (i + 1) m _ (by omega) (by omega) (by omega) (by simp; omega)]
             cases uq (D.drop (i + 1)) <;> simp
           · rw [if_neg (by rw [decide_eq_true_eq]; exact c4), if_neg (fun e => c4 e.2)]
         · rw [if_neg c3, bsome, if_neg Bool.false_ne_true, if_neg (fun e => c3 e.1)]
   · rw [if_neg (by omega), List.drop_eq_nil_of_le (by omega), uq_nil]; simp
def bytesP (K D : List UInt8) : Option (List UInt8) := if lower K = [98] then (if B64.chars64 (B64.lenient D) = D then some (B64.lenient D) else none) else if lower K = [113] then uq D else none
theorem lower_one (K : List UInt8) (a b : UInt8) (h : ∀ c, lowB c = b ↔ c = a ∨ c = b) : lower K = [b] ↔ K = [a] ∨ K = [b] := by
 rcases K with _ | ⟨c, _ | ⟨d, K⟩⟩
 · simp [lower]
 · simp [lower, h c]
 · simp [lower]
theorem lowB_b (c : UInt8) : lowB c = 98 ↔ c = 66 ∨ c = 98 := by
 refine allB (p := fun c => lowB c = 98 ↔ c = 66 ∨ c = 98) ?_ c
 decide +kernel
theorem lowB_q (c : UInt8) : lowB c = 113 ↔ c = 81 ∨ c = 113 := by
 refine allB (p := fun c => lowB c = 113 ↔ c = 81 ∨ c = 113) ?_ c
 decide +kernel
theorem kind_b (K : List UInt8) : (if K = [66] then some (decide (K = [66])) else some (decide (K = [98]))) = some (decide (lower K = [98])) := by
 have h := lower_one K 66 98 lowB_b
 by_cases h1 : K = [66]
 · rw [if_pos h1, decide_eq_true h1, decide_eq_true (h.2 (.inl h1))]
 · rw [if_neg h1]; congr 1; rw [decide_eq_decide, h]; simp [h1]
theorem kind_q (K : List UInt8) : (if K = [81] then some (decide (K = [81])) else some (decide (K = [113]))) = some (decide (lower K = [113])) := by
 have h := lower_one K 81 113 lowB_q
 by_cases h1 : K = [81]
 · rw [if_pos h1, decide_eq_true h1, decide_eq_true (h.2 (.inl h1))]
 · rw [if_neg h1]; congr 1; rw [decide_eq_decide, h]; simp [h1]
theorem lenient_len (D : List UInt8) : (B64.lenient D).length ≤ D.length := by
 unfold B64.lenient
 refine Nat.le_trans (B64.lrun_len _) ?_
 unfold B64.upto61
 exact (List.takeWhile_sublist _).length_le
theorem uqF_len : ∀ (n : Nat) (l r : List UInt8), uqF n l = some r → r.length ≤ l.length := by
 intro n
 induction n with
 | zero => intro l r h; cases h
 | succ n ih =>
   intro l r h
   cases l with
   | nil => rw [uqF] at h; cases h; simp
   | cons c t =>
     rw [uqF] at h
     split at h
     · obtain ⟨y, hy, rfl⟩ := Option.map_eq_some_iff.1 h
       have := ih t y hy; simp; omega
     · split at h
       · obtain ⟨p, hp, h⟩ := bnd h
         obtain ⟨y, hy, rfl⟩ := Option.map_eq_some_iff.1 h
         have := ih p.2 y hy
         obtain ⟨h3, h4⟩ := hexd2_len hp
         rw [h3, List.length_drop] at this
         simp; omega
       · split at h
         · obtain ⟨y, hy, rfl⟩ := Option.map_eq_some_iff.1 h
           have := ih t y hy; simp; omega
         · cases h
theorem Y4L (K D : List UInt8) (hD : D.length ≤ 10000) : ∃ b, Y2y K D = some (b, (bytesP K D).isSome) ∧ b.length ≤ D.length ∧ ∀ x, bytesP K D = some x → b = x := by
 have hl := lenient_len D
 unfold Y2y bytesP
 rw [kind_b, bsome]
 by_cases h1 : lower K = [98]
 · rw [if_pos (decide_eq_true h1), if_pos h1, toB_ok (by omega), bsome]
   unfold Y2P
   rw [if_pos (by omega), bsome]
   dsimp only
   rw [flat_eq _ (by omega), bsome]
   refine ⟨B64.lenient D, ?_, hl, fun x hx => ?_⟩
   · by_cases h2 : B64.chars64 (B64.lenient D) = D
     · rw [decide_eq_true h2, if_pos h2]; rfl
     · rw [decide_eq_false h2, if_neg h2]; rfl
   · split at hx
     · cases hx; rfl
     · cases hx
 · rw [if_neg (by rw [decide_eq_true_eq]; exact h1), if_neg h1, kind_q, bsome]
   by_cases h2 : lower K = [113]
   · rw [if_pos (decide_eq_true h2), if_pos h2]
     have := uq_L1 D (by omega) D.length 0 FU [] (by omega) (by rw [FU_eq]; omega) (by omega) (by simp)
     rw [show ((0 : Nat) : Int) = 0 from rfl, List.drop_zero] at this
     rw [this, bsome]
     cases hq : uq D with
     | none => exact ⟨[], rfl, by simp, fun x hx => by cases hx⟩
     | some r => exact ⟨r, rfl, uqF_len _ _ _ hq, fun x hx => by cases hx; rfl⟩
   · rw [if_neg (by rw [decide_eq_true_eq]; exact h2), if_neg h2]
     exact ⟨[], rfl, by simp, fun x hx => by cases hx⟩
def body (A K D : List UInt8) : Option (List UInt8) := (setOf A).bind fun k => (bytesP K D).map (decoded k)
def pw (t : List UInt8) : Option (List UInt8 × Nat) :=
 if [61, 63] <+: t then (sp3 (t.drop 2)).bind fun p => if [61] <+: p.2.2.2 ∧ p.1.length + p.2.1.length + p.2.2.1.length + 6 ≤ 75 then (body p.1 p.2.1 p.2.2.1).map fun x => (x, p.1.length + p.2.1.length + p.2.2.1.length + 6) else none else none
theorem pre_take {c : UInt8} {r : List UInt8} {n : Nat} (hn : 1 ≤ n) : [c] <+: r.take n ↔ [c] <+: r := by
 rw [pre1, pre1]
 cases r with
 | nil => simp
 | cons a r => obtain ⟨n, rfl⟩ : ∃ k, n = k + 1 := ⟨n - 1, by omega⟩; simp
theorem decode_prog (A b : List UInt8) (hA : A.length ≤ 10000) (hb : b.length ≤ 10000) : ∃ x n m, Y2h A b = some (x, (n, m)) ∧ (decide (n = (0 : Int)) = (setOf A).isSome) ∧ ∀ k, setOf A = some k → x = decoded k b := by
 unfold Y2h
 rw [if_pos ⟨by omega, by omega⟩]
 cases h : setOf A with
 | none => exact ⟨[], 18, -2, rfl, rfl, fun k hk => by cases hk⟩
 | some k => exact ⟨decoded k b, 0, 0, rfl, rfl, fun k' hk => by cases hk; rfl⟩
theorem read_eq (t : List UInt8) (ht : t.length ≤ 10000) : ∃ x n, Y29 t = some (x, n, (pw t).isSome) ∧ ∀ p, pw t = some p → x = p.1 ∧ n = (p.2 : Int) := by
 unfold Y29 pw
 rw [prefix_eq t [61, 63] (by omega), bsome]
 by_cases hp : [61, 63] <+: t
 · have hl2 : 2 ≤ t.length := hp.length_le
   rw [if_pos (decide_eq_true hp), if_pos hp, cut_of (i := 2) (a := 2) (b := min t.length 75) rfl (by omega) (by omega) (by omega), bsome]
   have hw : (t.take (min t.length 75)).drop 2 = (t.drop 2).take 73 := by
    rw [List.drop_take]
    by_cases h75 : t.length ≤ 75
    · rw [Nat.min_eq_left h75, List.take_of_length_le (by rw [List.length_drop]; omega), List.take_of_length_le (by rw [List.length_drop]; omega)]
    · rw [Nat.min_eq_right (by omega)]
   rw [hw]
   unfold Y1F
   have hxl : ((t.drop 2).take 73).length ≤ 73 := List.length_take_le _ _
   rw [if_pos ⟨by omega, by decide, by decide, by decide⟩, bsome, show (4 : Int).toNat = 4 from rfl]
   have hst := sp3_take (t.drop 2) 73
   cases hs : sp3 (t.drop 2) with
   | none =>
     rw [hs] at hst
     have h4 := split4_none hst
     rw [if_pos (by omega), bsome, if_pos rfl]
     exact ⟨_, _, rfl, fun p hp => by cases hp⟩
   | some p =>
     obtain ⟨A, K, D, r⟩ := p
     rw [hs] at hst
     dsimp only at hst
     have hxe := (sp3_some hs).1
     have hlen := congrArg List.length hxe
     simp only [List.length_append, List.length_cons, List.length_drop] at hlen
     rw [bsome]
     dsimp only
     by_cases hn : A.length + K.length + D.length + 2 < 73
     · rw [if_pos hn] at hst
       have h4 := split4_some hst
       rw [h4]
       simp only [List.length_cons, List.length_nil]
       rw [if_neg (by omega)]
       have i0 : idx [A, K, D, r.take (73 - (A.length + K.length + D.length + 3))] 0 = some A := rfl
       have i1 : idx [A, K, D, r.take (73 - (A.length + K.length + D.length + 3))] 1 = some K := rfl
       have i2 : idx [A, K, D, r.take (73 - (A.length + K.length + D.length + 3))] 2 = some D := rfl
       have i3 : idx [A, K, D, r.take (73 - (A.length + K.length + D.length + 3))] 3 = some (r.take (73 - (A.length + K.length + D.length + 3))) := rfl
       rw [i0, i1, i2, i3, bsome, prefix_eq _ _ (by rw [List.length_take]; omega), bsome, bsome]
       have hpt : ([61] <+: r.take (73 - (A.length + K.length + D.length + 3))) ↔ ([61] <+: r ∧ A.length + K.length + D.length + 6 ≤ 75) := by
        by_cases h1 : 1 ≤ 73 - (A.length + K.length + D.length + 3)
        · rw [pre_take h1]
          exact ⟨fun h => ⟨h, by omega⟩, fun h => h.1⟩
        · rw [show 73 - (A.length + K.length + D.length + 3) = 0 by omega, List.take_zero]
          exact ⟨fun h => by have := h.length_le; simp at this, fun h => by omega⟩
       by_cases hq : [61] <+: r ∧ A.length + K.length + D.length + 6 ≤ 75
       · rw [decide_eq_true (hpt.2 hq), if_neg (by decide), if_pos hq, bsome, bsome]
         obtain ⟨b, hb1, hbl, hb2⟩ := Y4L K D (by omega)
         rw [hb1, bsome]
         dsimp only
         rw [bsome]
         obtain ⟨x, n, m, hx1, hx2, hx3⟩ := decode_prog A b (by omega) (by omega)
         rw [hx1, bsome]
         dsimp only
         rw [bsome, chk_ok (by omega) (by omega), bsome, bsome, chk_ok (by omega) (by omega), bsome, bsome, chk_ok (by omega) (by omega), bsome, chk_ok (by omega) (by omega), bsome]
         unfold Y19 body
         cases hbp : bytesP K D with
         | none =>
           simp only [Option.isSome_none, Bool.false_eq_true, if_false, bsome]
           cases hA : setOf A with
           | none => exact ⟨_, _, rfl, fun p hp => by cases hp⟩
           | some k => exact ⟨_, _, rfl, fun p hp => by cases hp⟩
         | some y =>
           obtain rfl := hb2 y hbp
           simp only [Option.isSome_some, if_true, bsome]
           cases hA : setOf A with
           | none =>
             rw [hA] at hx2
             simp only [Option.isSome_none] at hx2
             rw [hx2]
             exact ⟨_, _, rfl, fun p hp => by cases hp⟩
           | some k =>
             rw [hA] at hx2
             simp only [Option.isSome_some] at hx2
             rw [hx2, hx3 k hA]
             refine ⟨_, _, rfl, fun p hp => ?_⟩
             cases hp
             exact ⟨rfl, by dsimp only; omega⟩
       · rw [decide_eq_false (fun e => hq (hpt.1 e)), if_pos (by decide), if_neg hq]
         exact ⟨_, _, rfl, fun p hp => by cases hp⟩
     · rw [if_neg hn] at hst
       have h4 := split4_none hst
       rw [if_pos (by omega), bsome, if_pos rfl, if_neg (fun e => by have := e.2; omega)]
       exact ⟨_, _, rfl, fun p hp => by cases hp⟩
 · rw [if_neg (by rw [decide_eq_true_eq]; exact hp), if_neg hp]
   exact ⟨_, _, rfl, fun p hp => by cases hp⟩
end Go.Ph.Wd
end
section
namespace Go.Ph.Wd
open Go.Ph.Pl Go.Ph.Pf
open Go.Ph.Gr (chars Ch byts segs)
open Go.Ph.Chs (vld setN setOf encK decoded utf8 lower lowB)
open Go.Ph.Utf (rune dr)
theorem bytesP_len {K D b : List UInt8} (hD : D.length ≤ 10000) (h : bytesP K D = some b) : b.length ≤ D.length := by
 obtain ⟨x, _, h2, h3⟩ := Y4L K D hD
 rw [h3 b h] at h2; exact h2
theorem decW_len : ∀ (n : Nat) (l : List UInt8), l.length ≤ n → (Chs.decW l).length ≤ l.length := by
 intro n
 induction n with
 | zero => intro l h; obtain rfl := List.eq_nil_of_length_eq_zero (Nat.le_zero.1 h); simp [Chs.decW]
 | succ n ih =>
   intro l h
   match l, h with
   | [], _ => simp [Chs.decW]
   | [_], _ => simp [Chs.decW]
   | [a, b], _ => simp [Chs.decW]
   | [a, b, c], _ => simp [Chs.decW]
   | a :: b :: c :: d :: r, h =>
     simp only [List.length_cons] at h
     rw [Chs.decW]
     split
     · have := ih r (by omega); simp only [List.length_cons]; omega
     · have := ih (c :: d :: r) (by simp only [List.length_cons]; omega); simp only [List.length_cons] at this ⊢; omega
theorem decK_len (k : Nat) (l : List UInt8) : (Chs.decK k l).length ≤ l.length := by
 unfold Chs.decK
 split
 · simp [Chs.decS]
 · split
   · simp [Chs.decS]
   · split
     · unfold Chs.decU; rw [List.length_map]; exact chars_len l
     · exact decW_len _ l (Nat.le_refl _)
theorem decoded_len (k : Nat) (l : List UInt8) : (decoded k l).length ≤ 4 * l.length := by
 unfold decoded
 have h1 := flatMap_len utf8 4 (Chs.decK k l) (fun a _ => (Chs.Y23 a).2)
 have h2 := decK_len k l
 omega
theorem pw_size {t : List UInt8} (ht : t.length ≤ 10000) {p : List UInt8 × Nat} (h : pw t = some p) : 6 ≤ p.2 ∧ p.2 ≤ t.length ∧ p.1.length ≤ 4 * p.2 := by
 unfold pw at h
 split at h
 case isFalse => cases h
 obtain ⟨⟨A, K, D, r⟩, h1, h⟩ := bnd h
 dsimp only at h
 split at h
 case isFalse => cases h
 rename_i hq
 obtain ⟨x, hx, hp⟩ := Option.map_eq_some_iff.1 h
 subst hp
 have hl := congrArg List.length (sp3_some h1).1
 have hr := hq.1.length_le
 simp only [List.length_drop, List.length_append, List.length_cons, List.length_nil] at hl hr
 unfold body at hx
 obtain ⟨k, _, hx⟩ := bnd hx
 obtain ⟨b, hb, hx⟩ := Option.map_eq_some_iff.1 hx
 have h2 := bytesP_len (by omega) hb
 have h3 := decoded_len k b
 subst hx
 dsimp only
 exact ⟨by omega, by omega, by omega⟩
def blk (c : UInt8) : Bool := decide (c = 32 ∨ c = 9)
def after (u : List UInt8) : List UInt8 := if (pw (u.dropWhile blk)).isSome then u.dropWhile blk else u
theorem after_len (u : List UInt8) : (after u).length ≤ u.length := by
 unfold after
 split
 · exact (List.dropWhile_suffix _).length_le
 · exact Nat.le_refl _
def unF : Nat → List UInt8 → List UInt8
 | 0, _ => []
 | n + 1, t => match t with
   | [] => []
   | c :: r => match pw (c :: r) with
     | none => c :: unF n r
     | some p => p.1 ++ unF n (after ((c :: r).drop p.2))
theorem unF_more : ∀ (n m : Nat) (t : List UInt8), t.length ≤ 10000 → t.length < n → t.length < m → unF n t = unF m t := by
 intro n
 induction n with
 | zero => intro m t _ h; omega
 | succ n ih =>
   intro m t ht h1 h2
   obtain ⟨m, rfl⟩ : ∃ k, m = k + 1 := ⟨m - 1, by omega⟩
   cases t with
   | nil => rfl
   | cons c r =>
     rw [unF, unF]
     simp only [List.length_cons] at ht h1 h2
     cases hp : pw (c :: r) with
     | none => dsimp only; rw [ih m r (by omega) (by omega) (by omega)]
     | some p =>
       dsimp only
       have hz := pw_size (by simp only [List.length_cons]; omega) hp
       have ha := after_len ((c :: r).drop p.2)
       simp only [List.length_drop, List.length_cons] at ha hz
       rw [ih m _ (by omega) (by omega) (by omega)]
def un (t : List UInt8) : List UInt8 := unF (t.length + 1) t
theorem un_nil : un [] = [] := rfl
theorem un_none {c : UInt8} {r : List UInt8} (h : pw (c :: r) = none) : un (c :: r) = c :: un r := by
 unfold un
 rw [unF, h]
 rfl
theorem un_some {t : List UInt8} {p : List UInt8 × Nat} (ht : t.length ≤ 10000) (h : pw t = some p) : un t = p.1 ++ un (after (t.drop p.2)) := by
 have hz := pw_size ht h
 cases t with
 | nil => simp at hz; omega
 | cons c r =>
   have ha := after_len ((c :: r).drop p.2)
   simp only [List.length_drop, List.length_cons] at ha hz ht
   unfold un
   rw [unF, h]
   dsimp only
   rw [unF_more _ ((after ((c :: r).drop p.2)).length + 1) _ (by omega) (by simp only [List.length_cons]; omega) (by omega)]
theorem pw_front {c : UInt8} {r : List UInt8} (h : c ≠ 61) : pw (c :: r) = none := by
 unfold pw
 rw [if_neg]
 intro e
 obtain ⟨t, ht⟩ := e
 cases ht
 exact h rfl
theorem blk_ne {c : UInt8} (h : blk c = true) : c ≠ 61 := by
 intro e; subst e; exact absurd h (by decide)
theorem un_blanks {v : List UInt8} : ∀ {b : List UInt8}, (∀ x ∈ b, blk x = true) → un (b ++ v) = b ++ un v
 | [], _ => rfl
 | c :: b, h => by
   rw [List.cons_append, un_none (pw_front (blk_ne (h c (by simp)))), un_blanks (fun x hx => h x (by simp [hx])), List.cons_append]
theorem dropWhile_blanks {v : List UInt8} : ∀ {b : List UInt8}, (∀ x ∈ b, blk x = true) → (b ++ v).dropWhile blk = v.dropWhile blk
 | [], _ => rfl
 | c :: b, h => by
   rw [List.cons_append, List.dropWhile_cons_of_pos (h c (by simp)), dropWhile_blanks (fun x hx => h x (by simp [hx]))]
theorem blank_eq (c : UInt8) : Y14 c = some (blk c) := by
 unfold Y14 blk
 by_cases h : c = 32
 · rw [if_pos h, bsome, decide_eq_true (.inl h)]
 · rw [if_neg h, bsome]; simp [h]
def fin (s : List UInt8) (p : List UInt8 × Int) : Option (List UInt8) := if (0 : Int) ≤ p.2 then (cut s p.2 (s.length : Int)).bind fun s81 => (Y08 p.1 s81).bind fun (n82, b83, l84) => some l84 else some p.1
theorem dec_end {s : List UInt8} {m i : Nat} {out : List UInt8} {g : Int} (hi : ¬ i < s.length) : Y04 s (m + 1) out g (i : Int) = some (out, g) := by
 rw [Y04, if_neg (by omega)]
theorem dec_word {s : List UInt8} {m i : Nat} {out : List UInt8} {g : Int} {x : List UInt8} {k : Nat} (hi : i < s.length) (hs : s.length ≤ 4000) (hk : k ≤ 10000) (ho : out.length + x.length ≤ 1000000)
 (hr : Y29 (s.drop i) = some (x, (k : Int), true)) : Y04 s (m + 1) out g (i : Int) = Y04 s m (out ++ x) ((i + k : Nat) : Int) ((i + k : Nat) : Int) := by
 rw [Y04, if_pos (by omega), cut_from rfl (by omega), bsome, hr, bsome]
 dsimp only
 rw [if_pos rfl]
 unfold Y08
 rw [app_ok (by omega), bsome, bsome]
 dsimp only
 rw [show (i : Int) + (k : Int) = ((i + k : Nat) : Int) by omega, chk_ok (by omega) (by omega), bsome]
theorem dec_free {s : List UInt8} {m i : Nat} {out x : List UInt8} {n : Int} (hi : i < s.length) (hs : s.length ≤ 4000) (ho : out.length ≤ 1000000)
 (hr : Y29 (s.drop i) = some (x, n, false)) : Y04 s (m + 1) out (-1) (i : Int) = Y04 s m (out ++ [s[i]]) (-1) ((i + 1 : Nat) : Int) := by
 rw [Y04, if_pos (by omega), cut_from rfl (by omega), bsome, hr, bsome]
 dsimp only
 rw [if_neg Bool.false_ne_true, if_pos (by decide), idx_nat, List.getElem?_eq_getElem hi, bsome]
 unfold Y0m
 rw [app_ok (by simp; omega), bsome, bsome]
 dsimp only
 rw [bsome, if_neg (by decide), bsome, if_neg Bool.false_ne_true, bsome]
 dsimp only
 rw [chk_succ (by omega), bsome]
theorem dec_blank {s : List UInt8} {m i g : Nat} {out x : List UInt8} {n : Int} (hi : i < s.length) (hs : s.length ≤ 4000) (hb : blk s[i] = true)
 (hr : Y29 (s.drop i) = some (x, n, false)) : Y04 s (m + 1) out (g : Int) (i : Int) = Y04 s m out (g : Int) ((i + 1 : Nat) : Int) := by
 rw [Y04, if_pos (by omega), cut_from rfl (by omega), bsome, hr, bsome]
 dsimp only
 rw [if_neg Bool.false_ne_true, if_neg (by omega), bsome, if_pos (by omega), idx_nat, List.getElem?_eq_getElem hi, bsome, blank_eq, hb, bsome, bsome, if_neg (by decide), bsome]
 dsimp only
 rw [chk_succ (by omega), bsome]
theorem dec_flush {s : List UInt8} {m i g : Nat} {out x : List UInt8} {n : Int} (hi : i < s.length) (hs : s.length ≤ 4000) (hg : g ≤ i) (ho : out.length ≤ 1000000) (hb : blk s[i] = false)
 (hr : Y29 (s.drop i) = some (x, n, false)) : Y04 s (m + 1) out (g : Int) (i : Int) = Y04 s m (out ++ (s.take (i + 1)).drop g) (-1) ((i + 1 : Nat) : Int) := by
 have hl : ((s.take (i + 1)).drop g).length ≤ 4000 := by rw [List.length_drop, List.length_take]; omega
 rw [Y04, if_pos (by omega), cut_from rfl (by omega), bsome, hr, bsome]
 dsimp only
 rw [if_neg Bool.false_ne_true, if_neg (by omega), bsome, if_pos (by omega), idx_nat, List.getElem?_eq_getElem hi, bsome, blank_eq, hb, bsome, bsome, if_pos (by decide), chk_succ (by omega), bsome, cut_of (a := g) (b := i + 1) rfl rfl (by omega) (by omega), bsome]
 unfold Y08
 rw [app_ok (by omega), bsome, bsome]
 dsimp only
 rw [bsome]
 dsimp only
 rw [bsome]
theorem dec_L1 (s : List UInt8) (hs : s.length ≤ 4000) : ∀ (d i m : Nat), s.length - i ≤ d → d < m → i ≤ s.length →
 (∀ out : List UInt8, out.length ≤ 4 * i → (Y04 s m out (-1) (i : Int)).bind (fin s) = some (out ++ un (s.drop i))) ∧
 (∀ (out : List UInt8) (g : Nat), out.length ≤ 4 * g → g ≤ i → (∀ x ∈ (s.take i).drop g, blk x = true) → (Y04 s m out (g : Int) (i : Int)).bind (fin s) = some (out ++ un (after (s.drop g)))) := by
 intro d
 induction d using Nat.strongRecOn with
 | ind d ih =>
   intro i m h1 h2 h3
   obtain ⟨m, rfl⟩ : ∃ k, m = k + 1 := ⟨m - 1, by omega⟩
   have hgap : ∀ g, g ≤ i → s.drop g = (s.take i).drop g ++ s.drop i := by
    intro g hg
    conv => lhs; rw [← List.take_append_drop i s]
    rw [List.drop_append_of_le_length (by rw [List.length_take]; omega)]
   by_cases hi : i < s.length
   · have hd := List.drop_eq_getElem_cons hi
     obtain ⟨x, n, hr, hx⟩ := read_eq (s.drop i) (by rw [List.length_drop]; omega)
     cases hp : pw (s.drop i) with
     | some p =>
       obtain ⟨rfl, rfl⟩ := hx p hp
       rw [hp, Option.isSome_some] at hr
       have hz := pw_size (by rw [List.length_drop]; omega) hp
       rw [List.length_drop] at hz
       have hun := un_some (by rw [List.length_drop]; omega) hp
       rw [List.drop_drop] at hun
       have key : ∀ (out : List UInt8) (g : Int), out.length ≤ 4 * i → (Y04 s (m + 1) out g (i : Int)).bind (fin s) = some (out ++ un (s.drop i)) := by
        intro out g ho
        rw [dec_word hi hs (by omega) (by omega) hr, (ih (d - p.2) (by omega) (i + p.2) m (by omega) (by omega) (by omega)).2 (out ++ p.1) (i + p.2) (by rw [List.length_append]; omega) (Nat.le_refl _) (by rw [List.drop_eq_nil_of_le (by rw [List.length_take]; omega)]; simp), hun, List.append_assoc]
       refine ⟨fun out ho => key out _ ho, fun out g ho hg hb => ?_⟩
       rw [key out _ (by omega)]
       have hnb : (s.drop i).dropWhile blk = s.drop i := by
        rw [hd] at hp ⊢
        refine List.dropWhile_cons_of_neg (fun e => ?_)
        rw [pw_front (blk_ne e)] at hp; cases hp
       have : after (s.drop g) = s.drop i := by
        unfold after
        rw [hgap g hg, dropWhile_blanks hb, hnb, hp, Option.isSome_some, if_pos rfl]
       rw [this]
     | none =>
       rw [hp, Option.isSome_none] at hr
       have hun : un (s.drop i) = s[i] :: un (s.drop (i + 1)) := by rw [hd] at hp ⊢; exact un_none hp
       refine ⟨fun out ho => ?_, fun out g ho hg hb => ?_⟩
       · rw [dec_free hi hs (by omega) hr, (ih (d - 1) (by omega) (i + 1) m (by omega) (by omega) (by omega)).1 _ (by rw [List.length_append, List.length_singleton]; omega), hun]
         simp
       · have ht : (s.take (i + 1)).drop g = (s.take i).drop g ++ [s[i]] := by
          rw [List.take_succ_eq_append_getElem hi, List.drop_append_of_le_length (by rw [List.length_take]; omega)]
         by_cases hbk : blk s[i] = true
         · rw [dec_blank hi hs hbk hr]
           refine (ih (d - 1) (by omega) (i + 1) m (by omega) (by omega) (by omega)).2 out g ho (by omega) ?_
           rw [ht]
           intro x hx
           rcases List.mem_append.1 hx with h | h
           · exact hb x h
           · rw [List.mem_singleton.1 h]; exact hbk
         · rw [dec_flush hi hs hg (by omega) (by simpa using hbk) hr, (ih (d - 1) (by omega) (i + 1) m (by omega) (by omega) (by omega)).1 _ (by rw [List.length_append, List.length_drop, List.length_take]; omega)]
           have hnb : (s.drop i).dropWhile blk = s.drop i := by rw [hd]; exact List.dropWhile_cons_of_neg hbk
           have : after (s.drop g) = s.drop g := by
            unfold after
            rw [if_neg]
            rw [hgap g hg, dropWhile_blanks hb, hnb, hp]
            decide
           rw [this, hgap g hg, un_blanks hb, hun, ht]
           simp
   · have he : s.drop i = [] := List.drop_eq_nil_of_le (by omega)
     refine ⟨fun out ho => ?_, fun out g ho hg hb => ?_⟩
     · rw [dec_end hi, bsome, he]
       unfold fin
       dsimp only
       rw [if_neg (by decide), un_nil, List.append_nil]
     · rw [dec_end hi, bsome]
       unfold fin
       dsimp only
       rw [if_pos (by omega), cut_from rfl (by omega), bsome]
       unfold Y08
       rw [app_ok (by rw [List.length_drop]; omega), bsome, bsome]
       have : after (s.drop g) = s.drop g := by
        unfold after
        rw [if_neg]
        rw [hgap g hg, dropWhile_blanks hb, he]
        decide
       rw [this]
       dsimp only
       rw [hgap g hg, un_blanks hb, he, un_nil]
theorem decode_eq {s : List UInt8} (hs : s.length ≤ 4000) : Y1a s = some (un s, (0, 0)) := by
 have h := (dec_L1 s hs s.length 0 FU (by omega) (by unfold FU; omega) (by omega)).1 [] (by simp)
 rw [Int.natCast_zero, List.drop_zero, List.nil_append] at h
 unfold Y1a
 rw [if_neg (by omega)]
 obtain ⟨⟨o, g⟩, h1, h2⟩ := bnd h
 rw [h1, bsome]
 unfold fin at h2
 dsimp only at h2 ⊢
 rw [h2, bsome]
 rfl
end Go.Ph.Wd
end
