/-
  Dct3: own texts of this repository (wip/tpl, wip/plans), merged and shaken by wip/tools/pack.py.
-/
import Derived.KernelRfl
import Derived.Test.YtkmjdamkifbddaaGreatDoorE3d
set_option maxRecDepth 100000
set_option linter.unusedVariables false
set_option linter.unusedSimpArgs false
section
namespace Go.Proofs.YtkmjdamkifbddaaGreatDoor
open Go Go.RowKit Go.Ph Go.Ph.Pl Go.Ph.Pf
theorem Y0Z {p0 : (List UInt8 × Int)} {p1 : List (List UInt8 × Bool)} {bp0 : Nat} {vp1 : Value} {r : (((List UInt8 × List UInt8 × List UInt8) × (List UInt8 × Int)) ⊕ Int)} (h : Y0l p0 p1 = some r) : CtS Tryz.prog 123 [ptr bp0 0, vp1] [.blk bp0 (.cells #[S p0.1, I p0.2] 72)] (fun M => GlF (fun w => ∃ m, w.cell? ⟨2, 0, none⟩ = some (.int .i64 m)) M ∧ Tabs M ∧ SlS M 2 xenc136 vp1 p1) (fun x => fun v M its => v = Value.agg #[S x.1.1, S x.1.2.1, S x.1.2.2] ∧ its = [.blk bp0 (.cells #[S x.2.1, I x.2.2] 72)]) (fun n => Value.iface 69 (Value.agg #[I n])) r := by
 refine CtS.of Tryz.func123 (enters Tryz.func123 (by kernel_rfl) rfl) rfl rfl rfl ?_
 intro w0 M0 H hp
 obtain ⟨hg_maxl, hg_tabs, hp1⟩ := hp
 unfold Y0l at h
 refine SQ (RG (WR.alloc [_, _, _] H Tryz.zeroValue24 rfl (Wn.none rfl) rfl ?_))
 intro bk4 w H
 refine NL (TN (SQ (SQ ?_)))
 obtain ⟨o1, e2, h⟩ := bnd h
 refine WC.cutX (fun e w => ∃ (b3 : Bool) (M : Mem), e = [(0, ptr bp0 0), (1, vp1), (4, ptr bk4 0), (32, Value.bool b3)] ∧ StX (feet [.blk bp0 (.cells #[S p0.1, I p0.2] 72)]) w0 M0 M [.blk bp0 (.cells #[S p0.1, I p0.2] 72), .blk bk4 (.cells #[S [], S [], S []] 24)] w ∧ GlF (fun w => ∃ m, w.cell? ⟨2, 0, none⟩ = some (.int .i64 m)) M ∧ Tabs M ∧ SlS M 2 xenc136 vp1 p1 ∧ some b3 = some o1) [] ?_ ?_ (trivial)
 ·
  refine RG (MV rfl rfl (ST (Ex.lenSlS Tryz.underlying107 hp1 rfl) rfl ?_))
  by_cases hk4 : (p1.length : Int) = (1 : Int)
  ·
   rw [if_pos hk4] at e2
   obtain ⟨a5, hxa5, e2⟩ := bnd e2
   obtain ⟨bk12, o12, ha12, hc12⟩ := hp1.atC hxa5
   obtain ⟨b6, hx7, e2⟩ := bnd e2
   rcases b6 with _ | _
   ·
    rw [if_neg Bool.false_ne_true] at e2
    refine WR.stepE (v' := .bool false) (Ex.neqC rfl rfl) (congrArg Value.bool (by rw [decide_eq_true hk4]; rfl)) (Wn.none rfl) rfl rfl ?_
    refine MV rfl rfl (SG (Ex.move rfl) rfl rfl rfl (SG (Ex.idxAt ha12 Tryz.underlying107 Tryz.sizeOf136 rfl rfl) rfl rfl rfl (SG (Ex.fieldAddr Tryz.underlying136 rfl Tryz.sizeOf9 (by decide) rfl) rfl rfl rfl (SG (Ex.loadM H rfl (hc12.at (j := 0) rfl) Tryz.isAgg9) rfl rfl rfl (WR.call H (Y2m hx7) rfl trivial (Wn.some rfl rfl rfl) rfl ?_)))))
    intro v15 M w H hle hR
    replace hg_maxl := hg_maxl.mono hle
    replace hg_tabs := hg_tabs.mono hle
    replace hp1 := hp1.mono hle
    replace hc12 := hc12.mono hle
    obtain rfl := hR
    refine SG (Ex.not rfl) rfl rfl rfl (PF rfl rfl rfl (MV rfl rfl (WR.skipN 13 rfl rfl (PT rfl rfl rfl (NL ?_)))))
    exact WQ.meetN [(0, _), (1, _), (4, _), (32, _)] ⟨rfl, rfl, rfl, rfl, trivial⟩ ⟨_, _, rfl, (H.pick (L' := [.blk bp0 (.cells #[S p0.1, I p0.2] 72), .blk bk4 (.cells #[S [], S [], S []] 24)]) (by repeat first | exact kPn | refine kPc (by repeat first | exact .head | apply Rem.tail) ?_)), hg_maxl, hg_tabs, hp1, e2⟩
   ·
    rw [if_pos rfl] at e2
    obtain ⟨a8, hxa8, e2⟩ := bnd e2
    obtain ⟨bk20, o20, ha20, hc20⟩ := hp1.atC hxa8
    by_cases hk9 : a8.2 = true
    ·
     rw [if_pos hk9] at e2
     refine WR.stepE (v' := .bool false) (Ex.neqC rfl rfl) (congrArg Value.bool (by rw [decide_eq_true hk4]; rfl)) (Wn.none rfl) rfl rfl ?_
     refine MV rfl rfl (SG (Ex.move rfl) rfl rfl rfl (SG (Ex.idxAt ha12 Tryz.underlying107 Tryz.sizeOf136 rfl rfl) rfl rfl rfl (SG (Ex.fieldAddr Tryz.underlying136 rfl Tryz.sizeOf9 (by decide) rfl) rfl rfl rfl (SG (Ex.loadM H rfl (hc12.at (j := 0) rfl) Tryz.isAgg9) rfl rfl rfl (WR.call H (Y2m hx7) rfl trivial (Wn.some rfl rfl rfl) rfl ?_)))))
     intro v15 M w H hle hR
     replace hg_maxl := hg_maxl.mono hle
     replace hg_tabs := hg_tabs.mono hle
     replace hp1 := hp1.mono hle
     replace hc12 := hc12.mono hle
     replace hc20 := hc20.mono hle
     obtain rfl := hR
     refine SG (Ex.not rfl) rfl rfl rfl (PF rfl rfl rfl (MV rfl rfl (SG (Ex.move rfl) rfl rfl rfl (SG (Ex.idxAt ha20 Tryz.underlying107 Tryz.sizeOf136 rfl rfl) rfl rfl rfl (SG (Ex.fieldAddr Tryz.underlying136 rfl Tryz.sizeOf4 (by decide) rfl) rfl rfl rfl (SG (Ex.loadM H rfl (hc20.at (j := 1) rfl) Tryz.isAgg4) rfl rfl rfl (WR.stepE (v' := .bool false) (Ex.not rfl) (congrArg Value.bool (by rw [hk9]; rfl)) (Wn.some rfl rfl rfl) rfl rfl ?_)))))))
     refine SG (Ex.move rfl) rfl rfl rfl (WR.skipN 6 rfl rfl (SG (Ex.pickF rfl rfl) rfl rfl rfl (PF rfl rfl rfl (NL ?_))))
     exact WQ.meetN [(0, _), (1, _), (4, _), (32, _)] ⟨rfl, rfl, rfl, rfl, trivial⟩ ⟨_, _, rfl, (H.pick (L' := [.blk bp0 (.cells #[S p0.1, I p0.2] 72), .blk bk4 (.cells #[S [], S [], S []] 24)]) (by repeat first | exact kPn | refine kPc (by repeat first | exact .head | apply Rem.tail) ?_)), hg_maxl, hg_tabs, hp1, e2⟩
    ·
     rw [if_neg hk9] at e2
     obtain ⟨a10, hxa10, e2⟩ := bnd e2
     obtain ⟨bk26, o26, ha26, hc26⟩ := hp1.atC hxa10
     obtain ⟨b11, hx12, e2⟩ := bnd e2
     refine WR.stepE (v' := .bool false) (Ex.neqC rfl rfl) (congrArg Value.bool (by rw [decide_eq_true hk4]; rfl)) (Wn.none rfl) rfl rfl ?_
     refine MV rfl rfl (SG (Ex.move rfl) rfl rfl rfl (SG (Ex.idxAt ha12 Tryz.underlying107 Tryz.sizeOf136 rfl rfl) rfl rfl rfl (SG (Ex.fieldAddr Tryz.underlying136 rfl Tryz.sizeOf9 (by decide) rfl) rfl rfl rfl (SG (Ex.loadM H rfl (hc12.at (j := 0) rfl) Tryz.isAgg9) rfl rfl rfl (WR.call H (Y2m hx7) rfl trivial (Wn.some rfl rfl rfl) rfl ?_)))))
     intro v15 M w H hle hR
     replace hg_maxl := hg_maxl.mono hle
     replace hg_tabs := hg_tabs.mono hle
     replace hp1 := hp1.mono hle
     replace hc12 := hc12.mono hle
     replace hc20 := hc20.mono hle
     replace hc26 := hc26.mono hle
     obtain rfl := hR
     refine SG (Ex.not rfl) rfl rfl rfl (PF rfl rfl rfl (MV rfl rfl (SG (Ex.move rfl) rfl rfl rfl (SG (Ex.idxAt ha20 Tryz.underlying107 Tryz.sizeOf136 rfl rfl) rfl rfl rfl (SG (Ex.fieldAddr Tryz.underlying136 rfl Tryz.sizeOf4 (by decide) rfl) rfl rfl rfl (SG (Ex.loadM H rfl (hc20.at (j := 1) rfl) Tryz.isAgg4) rfl rfl rfl (WR.stepE (v' := .bool true) (Ex.not rfl) (congrArg Value.bool (by rw [(Bool.of_not_eq_true hk9)]; rfl)) (Wn.some rfl rfl rfl) rfl rfl ?_)))))))
     refine SG (Ex.move rfl) rfl rfl rfl (SG (Ex.move rfl) rfl rfl rfl (SG (Ex.idxAt ha26 Tryz.underlying107 Tryz.sizeOf136 rfl rfl) rfl rfl rfl (SG (Ex.fieldAddr Tryz.underlying136 rfl Tryz.sizeOf9 (by decide) rfl) rfl rfl rfl (SG (Ex.loadM H rfl (hc26.at (j := 0) rfl) Tryz.isAgg9) rfl rfl rfl (WR.call H (Y3v hx12) rfl ⟨hg_maxl, hg_tabs⟩ (Wn.some rfl rfl rfl) rfl ?_)))))
     intro v29 M w H hle hR
     replace hg_maxl := hg_maxl.mono hle
     replace hg_tabs := hg_tabs.mono hle
     replace hp1 := hp1.mono hle
     replace hc12 := hc12.mono hle
     replace hc20 := hc20.mono hle
     replace hc26 := hc26.mono hle
     obtain rfl := hR
     refine SG (Ex.not rfl) rfl rfl rfl (SG (Ex.pickT rfl rfl) rfl rfl rfl (PF rfl rfl rfl (NL ?_)))
     exact WQ.meetN [(0, _), (1, _), (4, _), (32, _)] ⟨rfl, rfl, rfl, rfl, trivial⟩ ⟨_, _, rfl, (H.pick (L' := [.blk bp0 (.cells #[S p0.1, I p0.2] 72), .blk bk4 (.cells #[S [], S [], S []] 24)]) (by repeat first | exact kPn | refine kPc (by repeat first | exact .head | apply Rem.tail) ?_)), hg_maxl, hg_tabs, hp1, e2⟩
  ·
   rw [if_neg hk4] at e2
   refine WR.stepE (v' := .bool true) (Ex.neqC rfl rfl) (congrArg Value.bool (by rw [decide_eq_false hk4]; rfl)) (Wn.none rfl) rfl rfl ?_
   refine MV rfl rfl (WR.skipN 6 rfl rfl (PT rfl rfl rfl (MV rfl rfl (WR.skipN 13 rfl rfl (PT rfl rfl rfl (NL ?_))))))
   exact WQ.meetN [(0, _), (1, _), (4, _), (32, _)] ⟨rfl, rfl, rfl, rfl, trivial⟩ ⟨_, _, rfl, (H.pick (L' := [.blk bp0 (.cells #[S p0.1, I p0.2] 72), .blk bk4 (.cells #[S [], S [], S []] 24)]) (by repeat first | exact kPn | refine kPc (by repeat first | exact .head | apply Rem.tail) ?_)), hg_maxl, hg_tabs, hp1, e2⟩
 ·
  rintro e w ⟨b3, M, rfl, H, hg_maxl, hg_tabs, hp1, q13⟩
  obtain rfl := oI q13
  refine TN ?_
  obtain ⟨o14, e15, h⟩ := bnd h
  refine WC.cutX (fun e w => ∃ (s16 : List UInt8) (n17 : Int) (M : Mem), e = [(0, ptr bp0 0), (1, vp1), (4, ptr bk4 0)] ∧ StX (feet [.blk bp0 (.cells #[S p0.1, I p0.2] 72)]) w0 M0 M [.blk bp0 (.cells #[S s16, I n17] 72), .blk bk4 (.cells #[S [], S [], S []] 24)] w ∧ GlF (fun w => ∃ m, w.cell? ⟨2, 0, none⟩ = some (.int .i64 m)) M ∧ Tabs M ∧ SlS M 2 xenc136 vp1 p1 ∧ some (.inl (s16, n17)) = some o14) [] ?_ ?_ (trivial)
  ·
   refine WC.condB rfl (fun hk18 => ?_) (fun hk18 => ?_)
   ·
    subst hk18
    rw [if_pos rfl] at e15
    obtain ⟨o21, hx20, e15⟩ := bnd e15
    rcases o21 with o19 | n22
    ·
     try dsimp only at e15
     refine RG (MV rfl rfl ?_)
     refine WR.callX (A := [.blk bp0 (.cells #[S p0.1, I p0.2] 72)]) (B := [.blk bk4 (.cells #[S [], S [], S []] 24)]) (H.pick (L' := [.blk bp0 (.cells #[S p0.1, I p0.2] 72), .blk bk4 (.cells #[S [], S [], S []] 24)]) (by repeat first | exact kPn | refine kPc (by repeat first | exact .head | apply Rem.tail) ?_)) (Y03 hx20) (.left (Spl.all _)) rfl trivial (Wn.none rfl) rfl ?_
     intro v34 M w its H hle hR
     replace hg_maxl := hg_maxl.mono hle
     replace hg_tabs := hg_tabs.mono hle
     replace hp1 := hp1.mono hle
     try dsimp only at hR
     obtain ⟨rfl, rfl⟩ := hR
     simp only [List.cons_append, List.nil_append] at H
     refine NL ?_
     exact WQ.meetN [(0, _), (1, _), (4, _)] ⟨rfl, rfl, rfl, trivial⟩ ⟨_, _, _, rfl, H, hg_maxl, hg_tabs, hp1, e15⟩
    ·
     try dsimp only at e15
     obtain rfl := oI e15
     try dsimp only at h
     obtain rfl := oI h
     refine RG (MV rfl rfl ?_)
     refine WR.callPan (A := [.blk bp0 (.cells #[S p0.1, I p0.2] 72)]) (B := [.blk bk4 (.cells #[S [], S [], S []] 24)]) (H.pick (L' := [.blk bp0 (.cells #[S p0.1, I p0.2] 72), .blk bk4 (.cells #[S [], S [], S []] 24)]) (by repeat first | exact kPn | refine kPc (by repeat first | exact .head | apply Rem.tail) ?_)) (Y03 hx20) (.left (Spl.all _)) rfl trivial (Wn.none rfl) ?_
     intro M w H hle
     (repeat (first | refine WQ.pThen ?_ | refine WQ.pIn ?_ | refine WQ.pCut ?_ | refine WQ.pSc ?_))
     exact WQ.pBody H
   ·
    subst hk18
    rw [if_neg Bool.false_ne_true] at e15
    refine SK ?_
    exact WQ.meetN [(0, _), (1, _), (4, _)] ⟨rfl, rfl, rfl, trivial⟩ ⟨_, _, _, rfl, H, hg_maxl, hg_tabs, hp1, e15⟩
  ·
   rintro e w ⟨s16, n17, M, rfl, H, hg_maxl, hg_tabs, hp1, q23⟩
   obtain rfl := oI q23
   try dsimp only at h
   refine TN (SQ ?_)
   obtain ⟨o26, hx25, h⟩ := bnd h
   rcases o26 with o24 | n27
   ·
    try dsimp only at h
    refine RG (MV rfl rfl ?_)
    refine WR.callX (A := [.blk bp0 (.cells #[S s16, I n17] 72)]) (B := [.blk bk4 (.cells #[S [], S [], S []] 24)]) (H.pick (L' := [.blk bp0 (.cells #[S s16, I n17] 72), .blk bk4 (.cells #[S [], S [], S []] 24)]) (by repeat first | exact kPn | refine kPc (by repeat first | exact .head | apply Rem.tail) ?_)) (Y0H hx25) (.left (Spl.all _)) rfl trivial (Wn.none rfl) rfl ?_
    intro v36 M w its H hle hR
    replace hg_maxl := hg_maxl.mono hle
    replace hg_tabs := hg_tabs.mono hle
    replace hp1 := hp1.mono hle
    try dsimp only at hR
    obtain ⟨rfl, rfl⟩ := hR
    simp only [List.cons_append, List.nil_append] at H
    refine NL (TN (SQ ?_))
    obtain ⟨o31, hx30, h⟩ := bnd h
    rcases o31 with ⟨n28, o29⟩ | n32
    ·
     try dsimp only at h
     obtain ⟨⟨w33, b34⟩, hx35, h⟩ := bnd h
     try dsimp only at h
     refine RG (MV rfl rfl ?_)
     refine WR.callX (A := [.blk bp0 (.cells #[S o24.1, I o24.2] 72)]) (B := [.blk bk4 (.cells #[S [], S [], S []] 24)]) (H.pick (L' := [.blk bp0 (.cells #[S o24.1, I o24.2] 72), .blk bk4 (.cells #[S [], S [], S []] 24)]) (by repeat first | exact kPn | refine kPc (by repeat first | exact .head | apply Rem.tail) ?_)) (Y0n hx30) (.left (Spl.all _)) rfl trivial (Wn.none rfl) rfl ?_
     intro v39 M w its H hle hR
     replace hg_maxl := hg_maxl.mono hle
     replace hg_tabs := hg_tabs.mono hle
     replace hp1 := hp1.mono hle
     try dsimp only at hR
     obtain ⟨rfl, rfl⟩ := hR
     simp only [List.cons_append, List.nil_append] at H
     refine ST (Ex.anyOk Tryz.underlying136 Tryz.zeroValue136 rfl hx35 rfl) rfl (MV rfl rfl (ST (Ex.extract rfl rfl) rfl (ST (Ex.extract rfl rfl) rfl (WR.alloc [_, _] H Tryz.zeroValue136 rfl (Wn.none rfl) rfl ?_))))
     intro bk5 w H
     refine WR.store [_, _] H rfl rfl rfl (by repeat first | exact .head | apply Upd.tail) Tryz.sizeOf136 rfl (by rfl) (by rfl) (Wn.none rfl) ?_
     intro w H
     refine AS rfl rfl (NL (TN (SQ (SQ ?_))))
     obtain ⟨o36, e37, h⟩ := bnd h
     refine WC.cutX (fun e w => ∃ (b38 : Bool) (M : Mem), e = [(0, ptr bp0 0), (1, vp1), (4, ptr bk4 0), (5, ptr bk5 0), (54, Value.bool b38)] ∧ StX (feet [.blk bp0 (.cells #[S p0.1, I p0.2] 72)]) w0 M0 M [.blk bp0 (.cells #[S o29.1, I o29.2] 72), .blk bk4 (.cells #[S [], S [], S []] 24), .blk bk5 (.cells #[S w33.1, Value.bool w33.2] 136)] w ∧ GlF (fun w => ∃ m, w.cell? ⟨2, 0, none⟩ = some (.int .i64 m)) M ∧ Tabs M ∧ SlS M 2 xenc136 vp1 p1 ∧ some b38 = some o36) [] ?_ ?_ (trivial)
     ·
      refine RG (MV rfl rfl (ST (Ex.not rfl) rfl (MV rfl rfl ?_)))
      rcases b34 with _ | _
      ·
       rw [if_neg Bool.false_ne_true] at e37
       refine GT rfl rfl rfl (GT rfl rfl rfl (PT rfl rfl rfl (MV rfl rfl (WR.skipN 4 rfl rfl (PT rfl rfl rfl (NL ?_))))))
       exact WQ.meetN [(0, _), (1, _), (4, _), (5, _), (54, _)] ⟨rfl, rfl, rfl, rfl, rfl, trivial⟩ ⟨_, _, rfl, (H.pick (L' := [.blk bp0 (.cells #[S o29.1, I o29.2] 72), .blk bk4 (.cells #[S [], S [], S []] 24), .blk bk5 (.cells #[S w33.1, Value.bool w33.2] 136)]) (by repeat first | exact kPn | refine kPc (by repeat first | exact .head | apply Rem.tail) ?_)), hg_maxl, hg_tabs, hp1, e37⟩
      ·
       rw [if_pos rfl] at e37
       by_cases hk39 : w33.2 = true
       ·
        rw [if_pos hk39] at e37
        refine SG (Ex.fieldAddr Tryz.underlying136 rfl Tryz.sizeOf4 (by decide) rfl) rfl rfl rfl (WR.stepE (v' := .bool true) (Ex.load1 H rfl (by repeat first | exact kMh | apply kMt) Tryz.isAgg4 (by rfl)) (congrArg Value.bool hk39) (Wn.some rfl rfl rfl) rfl rfl ?_)
        refine PF rfl rfl rfl (MV rfl rfl (WR.skipN 4 rfl rfl (PT rfl rfl rfl (NL ?_))))
        exact WQ.meetN [(0, _), (1, _), (4, _), (5, _), (54, _)] ⟨rfl, rfl, rfl, rfl, rfl, trivial⟩ ⟨_, _, rfl, (H.pick (L' := [.blk bp0 (.cells #[S o29.1, I o29.2] 72), .blk bk4 (.cells #[S [], S [], S []] 24), .blk bk5 (.cells #[S w33.1, Value.bool w33.2] 136)]) (by repeat first | exact kPn | refine kPc (by repeat first | exact .head | apply Rem.tail) ?_)), hg_maxl, hg_tabs, hp1, e37⟩
       ·
        rw [if_neg hk39] at e37
        obtain ⟨b40, hx41, e37⟩ := bnd e37
        refine SG (Ex.fieldAddr Tryz.underlying136 rfl Tryz.sizeOf4 (by decide) rfl) rfl rfl rfl (WR.stepE (v' := .bool false) (Ex.load1 H rfl (by repeat first | exact kMh | apply kMt) Tryz.isAgg4 (by rfl)) (congrArg Value.bool (Bool.of_not_eq_true hk39)) (Wn.some rfl rfl rfl) rfl rfl ?_)
        refine PF rfl rfl rfl (MV rfl rfl (SG (Ex.fieldAddr Tryz.underlying136 rfl Tryz.sizeOf9 (by decide) rfl) rfl rfl rfl (SG (Ex.load1 H rfl (by repeat first | exact kMh | apply kMt) Tryz.isAgg9 (by rfl)) rfl rfl rfl ?_)))
        refine WR.call H (Y3u hx41) rfl ⟨hg_maxl, hg_tabs⟩ (Wn.some rfl rfl rfl) rfl ?_
        intro v52 M w H hle hR
        replace hg_maxl := hg_maxl.mono hle
        replace hg_tabs := hg_tabs.mono hle
        replace hp1 := hp1.mono hle
        obtain rfl := hR
        refine SG (Ex.not rfl) rfl rfl rfl (PF rfl rfl rfl (NL ?_))
        exact WQ.meetN [(0, _), (1, _), (4, _), (5, _), (54, _)] ⟨rfl, rfl, rfl, rfl, rfl, trivial⟩ ⟨_, _, rfl, (H.pick (L' := [.blk bp0 (.cells #[S o29.1, I o29.2] 72), .blk bk4 (.cells #[S [], S [], S []] 24), .blk bk5 (.cells #[S w33.1, Value.bool w33.2] 136)]) (by repeat first | exact kPn | refine kPc (by repeat first | exact .head | apply Rem.tail) ?_)), hg_maxl, hg_tabs, hp1, e37⟩
     ·
      rintro e w ⟨b38, M, rfl, H, hg_maxl, hg_tabs, hp1, q42⟩
      obtain rfl := oI q42
      refine TN ?_
      obtain ⟨o43, e44, h⟩ := bnd h
      refine WC.cutX (fun e w => ∃ (s45 : List UInt8) (n46 : Int) (M : Mem), e = [(1, vp1), (4, ptr bk4 0), (5, ptr bk5 0)] ∧ StX (feet [.blk bp0 (.cells #[S p0.1, I p0.2] 72)]) w0 M0 M [.blk bk4 (.cells #[S [], S [], S []] 24), .blk bk5 (.cells #[S w33.1, Value.bool w33.2] 136), .blk bp0 (.cells #[S s45, I n46] 72)] w ∧ GlF (fun w => ∃ m, w.cell? ⟨2, 0, none⟩ = some (.int .i64 m)) M ∧ Tabs M ∧ SlS M 2 xenc136 vp1 p1 ∧ some (.inl (s45, n46)) = some o43) [] ?_ ?_ (trivial)
      ·
       refine WC.condB rfl (fun hk47 => ?_) (fun hk47 => ?_)
       ·
        subst hk47
        rw [if_pos rfl] at e44
        obtain ⟨o50, hx49, e44⟩ := bnd e44
        rcases o50 with o48 | n51
        ·
         try dsimp only at e44
         refine RG (MV rfl rfl ?_)
         refine WR.callX (A := [.blk bp0 (.cells #[S o29.1, I o29.2] 72)]) (B := [.blk bk4 (.cells #[S [], S [], S []] 24), .blk bk5 (.cells #[S w33.1, Value.bool w33.2] 136)]) (H.pick (L' := [.blk bp0 (.cells #[S o29.1, I o29.2] 72), .blk bk4 (.cells #[S [], S [], S []] 24), .blk bk5 (.cells #[S w33.1, Value.bool w33.2] 136)]) (by repeat first | exact kPn | refine kPc (by repeat first | exact .head | apply Rem.tail) ?_)) (Y03 hx49) (.left (Spl.all _)) rfl trivial (Wn.none rfl) rfl ?_
         intro v56 M w its H hle hR
         replace hg_maxl := hg_maxl.mono hle
         replace hg_tabs := hg_tabs.mono hle
         replace hp1 := hp1.mono hle
         try dsimp only at hR
         obtain ⟨rfl, rfl⟩ := hR
         simp only [List.cons_append, List.nil_append] at H
         refine NL ?_
         exact WQ.meetN [(1, _), (4, _), (5, _)] ⟨rfl, rfl, rfl, trivial⟩ ⟨_, _, _, rfl, (H.pick (L' := [.blk bk4 (.cells #[S [], S [], S []] 24), .blk bk5 (.cells #[S w33.1, Value.bool w33.2] 136), .blk bp0 (.cells #[S o48.1, I o48.2] 72)]) (by repeat first | exact kPn | refine kPc (by repeat first | exact .head | apply Rem.tail) ?_)), hg_maxl, hg_tabs, hp1, e44⟩
        ·
         try dsimp only at e44
         obtain rfl := oI e44
         try dsimp only at h
         obtain rfl := oI h
         refine RG (MV rfl rfl ?_)
         refine WR.callPan (A := [.blk bp0 (.cells #[S o29.1, I o29.2] 72)]) (B := [.blk bk4 (.cells #[S [], S [], S []] 24), .blk bk5 (.cells #[S w33.1, Value.bool w33.2] 136)]) (H.pick (L' := [.blk bp0 (.cells #[S o29.1, I o29.2] 72), .blk bk4 (.cells #[S [], S [], S []] 24), .blk bk5 (.cells #[S w33.1, Value.bool w33.2] 136)]) (by repeat first | exact kPn | refine kPc (by repeat first | exact .head | apply Rem.tail) ?_)) (Y03 hx49) (.left (Spl.all _)) rfl trivial (Wn.none rfl) ?_
         intro M w H hle
         (repeat (first | refine WQ.pThen ?_ | refine WQ.pIn ?_ | refine WQ.pCut ?_ | refine WQ.pSc ?_))
         exact WQ.pBody H
       ·
        subst hk47
        rw [if_neg Bool.false_ne_true] at e44
        refine SK ?_
        exact WQ.meetN [(1, _), (4, _), (5, _)] ⟨rfl, rfl, rfl, trivial⟩ ⟨_, _, _, rfl, (H.pick (L' := [.blk bk4 (.cells #[S [], S [], S []] 24), .blk bk5 (.cells #[S w33.1, Value.bool w33.2] 136), .blk bp0 (.cells #[S o29.1, I o29.2] 72)]) (by repeat first | exact kPn | refine kPc (by repeat first | exact .head | apply Rem.tail) ?_)), hg_maxl, hg_tabs, hp1, e44⟩
      ·
       rintro e w ⟨s45, n46, M, rfl, H, hg_maxl, hg_tabs, hp1, q52⟩
       obtain rfl := oI q52
       try dsimp only at h
       refine TN (SQ ?_)
       obtain ⟨a53, hxa53, h⟩ := bnd h
       obtain ⟨bk58, o58, ha58, hc58⟩ := hp1.atC hxa53
       refine WC.draw (m := 8) rfl rfl H ?_
       intro w H
       refine WA.take (i := 0) rfl (by kernel_rfl) (by kernel_rfl) (by kernel_rfl) (fun _ => Ex.move rfl) (Wn.none rfl) rfl rfl (fun _ _ => rfl) (WA.take (i := 1) rfl (by kernel_rfl) (by kernel_rfl) (by kernel_rfl) (fun _ => Ex.idxAt ha58 Tryz.underlying107 Tryz.sizeOf136 rfl rfl) (Wn.none rfl) rfl rfl (fun _ _ => rfl) (WA.take (i := 2) rfl (by kernel_rfl) (by kernel_rfl) (by kernel_rfl) (fun _ => Ex.fieldAddr Tryz.underlying136 rfl Tryz.sizeOf9 (by decide) rfl) (Wn.none rfl) rfl rfl (fun _ _ => rfl) (WA.take (i := 4) rfl (by kernel_rfl) (by kernel_rfl) (by kernel_rfl) (fun _ => Ex.fieldAddr Tryz.underlying136 rfl Tryz.sizeOf9 (by decide) rfl) (Wn.none rfl) rfl rfl (fun _ _ => rfl) (WA.takeM (i := 3) [5] rfl (by kernel_rfl) (by kernel_rfl) (by kernel_rfl) (Ex.loadM H rfl (hc58.at (j := 0) rfl) Tryz.isAgg9) (Wn.none rfl) rfl rfl (fun _ _ => rfl) (WA.seq (fuel := 0) [5, 6, 7] rfl (by kernel_rfl) (ST (Ex.load1 H rfl (by repeat first | exact kMh | apply kMt) Tryz.isAgg9 (by rfl)) rfl ?_))))))
       refine ST (Ex.build [S [], S a53.1, S w33.1] Tryz.underlying24 Tryz.zeroValue24 (xplaces24 Tryz.underlying24) rfl rfl) rfl (WR.store [_, _, _] H rfl rfl rfl (by repeat first | exact .head | apply Upd.tail) Tryz.sizeOf24 rfl (by rfl) (by rfl) (Wn.none rfl) ?_)
       intro w H
       refine NA (WA.done (by kernel_rfl) (TN (RT ?_)))
       obtain rfl := oI h
       exact WQ.retX1 (its := [.blk bp0 (.cells #[S s45, I n46] 72)]) rfl ⟨_, rfl, H.loadAgg (by repeat first | exact kMh | apply kMt) Tryz.isAgg24 Tryz.sizeOf24 (by rfl)⟩ H (by repeat first | exact kPn | refine kPc (by repeat first | exact .head | apply Rem.tail) ?_) ⟨rfl, rfl⟩
    ·
     try dsimp only at h
     obtain rfl := oI h
     refine RG (MV rfl rfl ?_)
     refine WR.callPan (A := [.blk bp0 (.cells #[S o24.1, I o24.2] 72)]) (B := [.blk bk4 (.cells #[S [], S [], S []] 24)]) (H.pick (L' := [.blk bp0 (.cells #[S o24.1, I o24.2] 72), .blk bk4 (.cells #[S [], S [], S []] 24)]) (by repeat first | exact kPn | refine kPc (by repeat first | exact .head | apply Rem.tail) ?_)) (Y0n hx30) (.left (Spl.all _)) rfl trivial (Wn.none rfl) ?_
     intro M w H hle
     (repeat (first | refine WQ.pThen ?_ | refine WQ.pIn ?_ | refine WQ.pCut ?_ | refine WQ.pSc ?_))
     exact WQ.pBody H
   ·
    try dsimp only at h
    obtain rfl := oI h
    refine RG (MV rfl rfl ?_)
    refine WR.callPan (A := [.blk bp0 (.cells #[S s16, I n17] 72)]) (B := [.blk bk4 (.cells #[S [], S [], S []] 24)]) (H.pick (L' := [.blk bp0 (.cells #[S s16, I n17] 72), .blk bk4 (.cells #[S [], S [], S []] 24)]) (by repeat first | exact kPn | refine kPc (by repeat first | exact .head | apply Rem.tail) ?_)) (Y0H hx25) (.left (Spl.all _)) rfl trivial (Wn.none rfl) ?_
    intro M w H hle
    (repeat (first | refine WQ.pThen ?_ | refine WQ.pIn ?_ | refine WQ.pCut ?_ | refine WQ.pSc ?_))
    exact WQ.pBody H
theorem Y4A {p0 : List UInt8} {vp0 : Value} {r : List UInt8} (h : Y33 p0 = some r) : Ct Tryz.prog 141 [vp0] (fun M => GlF (fun w => ∃ m, w.cell? ⟨2, 0, none⟩ = some (.int .i64 m)) M ∧ Sl M encB vp0 p0) (fun v M => v = S r) := by
 refine Ct.of Tryz.func141 (enters Tryz.func141 (by kernel_rfl) rfl) rfl rfl rfl ?_
 intro w0 M0 H hp
 obtain ⟨hg_maxl, hp0⟩ := hp
 unfold Y33 at h
 refine SQ (RG (AS rfl rfl (NL (TN (SQ ?_)))))
 obtain ⟨⟨l1, ⟨n2, n3⟩⟩, hx4, h⟩ := bnd h
 try dsimp only at h
 refine RG (MV rfl rfl (WR.call H (Y4f hx4) rfl (hp0) (Wn.none rfl) rfl ?_))
 intro v7 M w H hle hR
 replace hg_maxl := hg_maxl.mono hle
 replace hp0 := hp0.mono hle
 try dsimp only at hR
 obtain ⟨x7_0, rfl, f7_0⟩ := hR
 refine MV rfl rfl (ST (Ex.extract rfl rfl) rfl (ST (Ex.extract rfl rfl) rfl (WR.alloc [_, _] H Tryz.zeroValue27 rfl (Wn.none rfl) rfl ?_)))
 intro bk4 w H
 refine AS rfl rfl (WR.store [_, _] H rfl rfl rfl (by repeat first | exact .head | apply Upd.tail) Tryz.sizeOf27 rfl (by rfl) (by rfl) (Wn.none rfl) ?_)
 intro w H
 refine NL (TN (SQ ?_))
 obtain ⟨s5, hx6, h⟩ := bnd h
 refine RG (MV rfl rfl (ST (Ex.toStr Tryz.underlying88 Tryz.underlying5 Tryz.underlying9 H (f7_0) rfl) rfl (WR.call H (Y3L hx6) rfl (hg_maxl) (Wn.none rfl) rfl ?_)))
 intro v12 M w H hle hR
 replace hg_maxl := hg_maxl.mono hle
 replace hp0 := hp0.mono hle
 replace f7_0 := f7_0.mono hle
 obtain rfl := hR
 refine AS rfl rfl (NL (TN (RT ?_)))
 obtain rfl := oI h
 exact WQ.ret1 rfl rfl H.ext rfl
theorem Y4e {p0 : UInt8} {r : (UInt8 × Bool)} (h : Y3p p0 = some r) : Ct Tryz.prog 227 [encB p0] (fun M => True) (fun v M => v = Value.tuple #[encB r.1, Value.bool r.2]) := by
 refine Ct.of Tryz.func227 (enters Tryz.func227 (by kernel_rfl) rfl) rfl rfl rfl ?_
 intro w0 M0 H hp
 unfold Y3p at h
 refine SQ (RG (AS rfl rfl (AS rfl rfl (NL (TN (SQ (BL (SQ ?_))))))))
 obtain ⟨o1, e2, h⟩ := bnd h
 refine WC.cutX (fun e w => ∃ (b3 : Bool) (M : Mem), e = [(0, encB p0), (4, Value.bool b3)] ∧ St w0 M0 M [] w ∧ some b3 = some o1) [] ?_ ?_ (trivial)
 ·
  by_cases hk4 : 48 ≤ p0.toNat
  ·
   rw [if_pos hk4] at e2
   refine RG (MV rfl rfl (WR.stepE (v' := .bool true) (Ex.geqB (i := p0.toNat) (j := 48) rfl rfl) (congrArg Value.bool (decide_eq_true hk4)) (Wn.none rfl) rfl rfl (MV rfl rfl (SG (Ex.move rfl) rfl rfl rfl (SG (Ex.leqB (i := p0.toNat) (j := 57) rfl rfl) rfl rfl rfl (PT rfl rfl rfl (AS rfl rfl (NL ?_))))))))
   exact WQ.meetN [(0, _), (4, _)] ⟨rfl, rfl, trivial⟩ ⟨_, _, rfl, H, e2⟩
  ·
   rw [if_neg hk4] at e2
   refine RG (MV rfl rfl (WR.stepE (v' := .bool false) (Ex.geqB (i := p0.toNat) (j := 48) rfl rfl) (congrArg Value.bool (decide_eq_false hk4)) (Wn.none rfl) rfl rfl (MV rfl rfl (GF rfl rfl rfl (GF rfl rfl rfl (PF rfl rfl rfl (AS rfl rfl (NL ?_))))))))
   exact WQ.meetN [(0, _), (4, _)] ⟨rfl, rfl, trivial⟩ ⟨_, _, rfl, H, e2⟩
 ·
  rintro e w ⟨b3, M, rfl, H, q5⟩
  obtain rfl := oI q5
  refine TN ?_
  refine WC.condB rfl (fun hk6 => ?_) (fun hk6 => ?_)
  ·
   subst hk6
   rw [if_pos rfl] at h
   refine SQ (RG (MV rfl rfl (ST (Ex.subB (c := p0) (d := 48) rfl rfl) rfl (AS rfl rfl (AS rfl rfl (NL (TN (RT ?_))))))))
   obtain rfl := oI h
   exact WQ.ret2 rfl rfl rfl H.ext rfl
  ·
   subst hk6
   rw [if_neg Bool.false_ne_true] at h
   refine SQ ?_
   obtain ⟨o7, e8, h⟩ := bnd h
   refine WC.cutX (fun e w => ∃ (b9 : Bool) (M : Mem), e = [(0, encB p0), (13, Value.bool b9)] ∧ St w0 M0 M [] w ∧ some b9 = some o7) [] ?_ ?_ (trivial)
   ·
    by_cases hk10 : 65 ≤ p0.toNat
    ·
     rw [if_pos hk10] at e8
     refine RG (MV rfl rfl (WR.stepE (v' := .bool true) (Ex.geqB (i := p0.toNat) (j := 65) rfl rfl) (congrArg Value.bool (decide_eq_true hk10)) (Wn.none rfl) rfl rfl (MV rfl rfl (SG (Ex.move rfl) rfl rfl rfl (SG (Ex.leqB (i := p0.toNat) (j := 70) rfl rfl) rfl rfl rfl (PT rfl rfl rfl (AS rfl rfl (NL ?_))))))))
     exact WQ.meetN [(0, _), (13, _)] ⟨rfl, rfl, trivial⟩ ⟨_, _, rfl, H, e8⟩
    ·
     rw [if_neg hk10] at e8
     refine RG (MV rfl rfl (WR.stepE (v' := .bool false) (Ex.geqB (i := p0.toNat) (j := 65) rfl rfl) (congrArg Value.bool (decide_eq_false hk10)) (Wn.none rfl) rfl rfl (MV rfl rfl (GF rfl rfl rfl (GF rfl rfl rfl (PF rfl rfl rfl (AS rfl rfl (NL ?_))))))))
     exact WQ.meetN [(0, _), (13, _)] ⟨rfl, rfl, trivial⟩ ⟨_, _, rfl, H, e8⟩
   ·
    rintro e w ⟨b9, M, rfl, H, q11⟩
    obtain rfl := oI q11
    refine TN ?_
    refine WC.condB rfl (fun hk12 => ?_) (fun hk12 => ?_)
    ·
     subst hk12
     rw [if_pos rfl] at h
     refine SQ (RG (MV rfl rfl (ST (Ex.subB (c := p0) (d := 65) rfl rfl) rfl (ST (Ex.addB (c := (p0 - (65 : UInt8))) (d := 10) rfl rfl) rfl (AS rfl rfl (AS rfl rfl (NL (TN (RT ?_)))))))))
     obtain rfl := oI h
     exact WQ.ret2 rfl rfl rfl H.ext rfl
    ·
     subst hk12
     rw [if_neg Bool.false_ne_true] at h
     refine SQ ?_
     obtain ⟨o13, e14, h⟩ := bnd h
     refine WC.cutX (fun e w => ∃ (b15 : Bool) (M : Mem), e = [(0, encB p0), (23, Value.bool b15)] ∧ St w0 M0 M [] w ∧ some b15 = some o13) [] ?_ ?_ (trivial)
     ·
      by_cases hk16 : 97 ≤ p0.toNat
      ·
       rw [if_pos hk16] at e14
       refine RG (MV rfl rfl (WR.stepE (v' := .bool true) (Ex.geqB (i := p0.toNat) (j := 97) rfl rfl) (congrArg Value.bool (decide_eq_true hk16)) (Wn.none rfl) rfl rfl (MV rfl rfl (SG (Ex.move rfl) rfl rfl rfl (SG (Ex.leqB (i := p0.toNat) (j := 102) rfl rfl) rfl rfl rfl (PT rfl rfl rfl (AS rfl rfl (NL ?_))))))))
       exact WQ.meetN [(0, _), (23, _)] ⟨rfl, rfl, trivial⟩ ⟨_, _, rfl, H, e14⟩
      ·
       rw [if_neg hk16] at e14
       refine RG (MV rfl rfl (WR.stepE (v' := .bool false) (Ex.geqB (i := p0.toNat) (j := 97) rfl rfl) (congrArg Value.bool (decide_eq_false hk16)) (Wn.none rfl) rfl rfl (MV rfl rfl (GF rfl rfl rfl (GF rfl rfl rfl (PF rfl rfl rfl (AS rfl rfl (NL ?_))))))))
       exact WQ.meetN [(0, _), (23, _)] ⟨rfl, rfl, trivial⟩ ⟨_, _, rfl, H, e14⟩
     ·
      rintro e w ⟨b15, M, rfl, H, q17⟩
      obtain rfl := oI q17
      refine TN ?_
      refine WC.condB rfl (fun hk18 => ?_) (fun hk18 => ?_)
      ·
       subst hk18
       rw [if_pos rfl] at h
       refine SQ (RG (MV rfl rfl (ST (Ex.subB (c := p0) (d := 97) rfl rfl) rfl (ST (Ex.addB (c := (p0 - (97 : UInt8))) (d := 10) rfl rfl) rfl (AS rfl rfl (AS rfl rfl (NL (TN (RT ?_)))))))))
       obtain rfl := oI h
       exact WQ.ret2 rfl rfl rfl H.ext rfl
      ·
       subst hk18
       rw [if_neg Bool.false_ne_true] at h
       refine SK (IB (TN (SQ (RG (AS rfl rfl (AS rfl rfl (NL (TN (RT ?_)))))))))
       obtain rfl := oI h
       exact WQ.ret2 rfl rfl rfl H.ext rfl
theorem Y4B {p0 : List UInt8} {r : (UInt8 × Bool)} (h : Y2I p0 = some r) : Ct Tryz.prog 210 [S p0] (fun M => True) (fun v M => v = Value.tuple #[encB r.1, Value.bool r.2]) := by
 refine Ct.of Tryz.func210 (enters Tryz.func210 (by kernel_rfl) rfl) rfl rfl rfl ?_
 intro w0 M0 H hp
 unfold Y2I at h
 refine SQ (RG (AS rfl rfl (AS rfl rfl (NL (TN (SQ (SQ (RG (MV rfl rfl (ST (Ex.lenStr Tryz.underlying9 rfl) rfl (ST (Ex.lss rfl rfl) rfl (NL (TN ?_)))))))))))))
 refine WC.condB rfl (fun hk1 => ?_) (fun hk1 => ?_)
 ·
  replace hk1 : (p0.length : Int) < (2 : Int) := of_decide_eq_true hk1
  rw [if_pos hk1] at h
  refine SQ (RG (AS rfl rfl (AS rfl rfl (NL (TN (RT ?_))))))
  obtain rfl := oI h
  exact WQ.ret2 rfl rfl rfl H.ext rfl
 ·
  replace hk1 : ¬ ((p0.length : Int) < (2 : Int)) := of_decide_eq_false hk1
  rw [if_neg hk1] at h
  refine SK (TN (SQ ?_))
  obtain ⟨c2, hxc2, h⟩ := bnd h
  obtain ⟨⟨c3, b4⟩, hx5, h⟩ := bnd h
  try dsimp only at h
  refine RG (MV rfl rfl (ST (Ex.idxStrC Tryz.underlying9 rfl rfl hxc2) rfl (WR.call H (Y4e hx5) rfl trivial (Wn.none rfl) rfl ?_)))
  intro v14 M w H hle hR
  try dsimp only at hR
  obtain rfl := hR
  refine MV rfl rfl (ST (Ex.extract rfl rfl) rfl (ST (Ex.extract rfl rfl) rfl (AS rfl rfl (AS rfl rfl (NL (TN (SQ ?_)))))))
  obtain ⟨c6, hxc6, h⟩ := bnd h
  obtain ⟨⟨c7, b8⟩, hx9, h⟩ := bnd h
  try dsimp only at h
  refine RG (MV rfl rfl (ST (Ex.idxStrC Tryz.underlying9 rfl rfl hxc6) rfl (WR.call H (Y4e hx9) rfl trivial (Wn.none rfl) rfl ?_)))
  intro v20 M w H hle hR
  try dsimp only at hR
  obtain rfl := hR
  refine MV rfl rfl (ST (Ex.extract rfl rfl) rfl (ST (Ex.extract rfl rfl) rfl (AS rfl rfl (AS rfl rfl (NL (TN (SQ ?_)))))))
  obtain ⟨o10, e11, h⟩ := bnd h
  refine WC.cutX (fun e w => ∃ (c12 : UInt8) (b13 : Bool) (M : Mem), e = [(2, encB c12), (3, Value.bool b13)] ∧ St w0 M0 M [] w ∧ some (c12, b13) = some o10) [] ?_ ?_ (trivial)
  ·
   refine RG (MV rfl rfl (ST (Ex.shlB (c := c3) (m := 4) rfl rfl (by decide)) rfl (MV rfl rfl (ST (Ex.orB (c := (UInt8.ofNat (c3.toNat * 2 ^ 4))) (d := c7) rfl rfl) rfl (MV rfl rfl (MV rfl rfl ?_))))))
   rcases b4 with _ | _
   ·
    rw [if_neg Bool.false_ne_true] at e11
    refine GF rfl rfl rfl (PF rfl rfl rfl (AS rfl rfl (AS rfl rfl (NL ?_))))
    exact WQ.meetN [(2, _), (3, _)] ⟨rfl, rfl, trivial⟩ ⟨_, _, _, rfl, H, e11⟩
   ·
    rw [if_pos rfl] at e11
    refine SG (Ex.move rfl) rfl rfl rfl (PT rfl rfl rfl (AS rfl rfl (AS rfl rfl (NL ?_))))
    exact WQ.meetN [(2, _), (3, _)] ⟨rfl, rfl, trivial⟩ ⟨_, _, _, rfl, H, e11⟩
  ·
   rintro e w ⟨c12, b13, M, rfl, H, q14⟩
   obtain rfl := oI q14
   try dsimp only at h
   refine TN (RT ?_)
   obtain rfl := oI h
   exact WQ.ret2 rfl rfl rfl H.ext rfl
theorem Y4k {p0 : List UInt8} {p1 : List UInt8} {r : (List UInt8 × Bool)} (h : Y2y p0 p1 = some r) : Ct Tryz.prog 185 [S p0, S p1] (fun M => GlF (fun w => ∃ m, w.cell? ⟨2, 0, none⟩ = some (.int .i64 m)) M) (fun v M => ∃ x0, v = Value.tuple #[x0, Value.bool r.2] ∧ Sl M encB x0 r.1) := by
 refine Ct.of Tryz.func185 (enters Tryz.func185 (by kernel_rfl) rfl) rfl rfl rfl ?_
 intro w0 M0 H hp
 have hg_maxl := hp
 unfold Y2y at h
 refine SQ (RG (AS rfl rfl (AS rfl rfl (NL (TN (SQ (SQ (RG (MV rfl rfl (NL (TN (BL (SQ (SQ (RG (ST (Ex.strEql rfl rfl) rfl (AS rfl rfl (NL (TN ?_)))))))))))))))))))
 obtain ⟨o1, e2, h⟩ := bnd h
 refine WC.cutX (fun e w => ∃ (b3 : Bool) (M : Mem), e = [(1, S p1), (12, S p0), (13, Value.bool b3)] ∧ St w0 M0 M [] w ∧ GlF (fun w => ∃ m, w.cell? ⟨2, 0, none⟩ = some (.int .i64 m)) M ∧ some b3 = some o1) [] ?_ ?_ (trivial)
 ·
  refine WC.condB rfl (fun hk4 => ?_) (fun hk4 => ?_)
  ·
   replace hk4 : p0 = [66] := of_decide_eq_true hk4
   rw [if_pos hk4] at e2
   refine SK ?_
   exact WQ.meetN [(1, _), (12, _), (13, _)] ⟨rfl, rfl, rfl, trivial⟩ ⟨_, _, rfl, H, hg_maxl, e2⟩
  ·
   replace hk4 : ¬ (p0 = [66]) := of_decide_eq_false hk4
   rw [if_neg hk4] at e2
   refine RG (ST (Ex.strEql rfl rfl) rfl (AS rfl rfl (NL ?_)))
   exact WQ.meetN [(1, _), (12, _), (13, _)] ⟨rfl, rfl, rfl, trivial⟩ ⟨_, _, rfl, H, hg_maxl, e2⟩
 ·
  rintro e w ⟨b3, M, rfl, H, hg_maxl, q5⟩
  obtain rfl := oI q5
  refine TN ?_
  refine WC.condB rfl (fun hk6 => ?_) (fun hk6 => ?_)
  ·
   subst hk6
   rw [if_pos rfl] at h
   refine SQ ?_
   obtain ⟨l7, hxl7, h⟩ := bnd h
   obtain ⟨⟨l8, ⟨n9, n10⟩⟩, hx11, h⟩ := bnd h
   try dsimp only at h
   refine RG (MV rfl rfl (WR.bytesC H Tryz.underlying9 Tryz.underlying88 Tryz.underlying5 rfl hxl7 (Wn.none rfl) rfl ?_))
   intro v18 M w H hle hs18
   replace hg_maxl := hg_maxl.mono hle
   refine WR.call H (Y4b hx11) rfl (hs18) (Wn.none rfl) rfl ?_
   intro v19 M w H hle hR
   replace hg_maxl := hg_maxl.mono hle
   replace hs18 := hs18.mono hle
   try dsimp only at hR
   obtain ⟨x19_0, rfl, f19_0⟩ := hR
   refine MV rfl rfl (ST (Ex.extract rfl rfl) rfl (ST (Ex.extract rfl rfl) rfl (WR.alloc [_, _] H Tryz.zeroValue27 rfl (Wn.none rfl) rfl ?_)))
   intro bk7 w H
   refine AS rfl rfl (WR.store [_, _] H rfl rfl rfl (by repeat first | exact .head | apply Upd.tail) Tryz.sizeOf27 rfl (by rfl) (by rfl) (Wn.none rfl) ?_)
   intro w H
   refine NL (TN (SQ ?_))
   obtain ⟨s12, hx13, h⟩ := bnd h
   refine RG (MV rfl rfl (MV rfl rfl (WR.call H (Y4A hx13) rfl ⟨hg_maxl, f19_0⟩ (Wn.none rfl) rfl ?_)))
   intro v24 M w H hle hR
   replace hg_maxl := hg_maxl.mono hle
   replace hs18 := hs18.mono hle
   replace f19_0 := f19_0.mono hle
   obtain rfl := hR
   refine MV rfl rfl (ST (Ex.strEql rfl rfl) rfl (AS rfl rfl (AS rfl rfl (NL (TN (RT ?_))))))
   obtain rfl := oI h
   exact WQ.ret2 rfl rfl rfl H.ext (⟨_, rfl, f19_0⟩)
  ·
   subst hk6
   rw [if_neg Bool.false_ne_true] at h
   refine SQ (SQ (RG (ST (Ex.strEql rfl rfl) rfl (AS rfl rfl (NL (TN ?_))))))
   obtain ⟨o14, e15, h⟩ := bnd h
   refine WC.cutX (fun e w => ∃ (b16 : Bool) (M : Mem), e = [(1, S p1), (27, Value.bool b16)] ∧ St w0 M0 M [] w ∧ GlF (fun w => ∃ m, w.cell? ⟨2, 0, none⟩ = some (.int .i64 m)) M ∧ some b16 = some o14) [] ?_ ?_ (trivial)
   ·
    refine WC.condB rfl (fun hk17 => ?_) (fun hk17 => ?_)
    ·
     replace hk17 : p0 = [81] := of_decide_eq_true hk17
     rw [if_pos hk17] at e15
     refine SK ?_
     exact WQ.meetN [(1, _), (27, _)] ⟨rfl, rfl, trivial⟩ ⟨_, _, rfl, H, hg_maxl, e15⟩
    ·
     replace hk17 : ¬ (p0 = [81]) := of_decide_eq_false hk17
     rw [if_neg hk17] at e15
     refine RG (ST (Ex.strEql rfl rfl) rfl (AS rfl rfl (NL ?_)))
     exact WQ.meetN [(1, _), (27, _)] ⟨rfl, rfl, trivial⟩ ⟨_, _, rfl, H, hg_maxl, e15⟩
   ·
    rintro e w ⟨b16, M, rfl, H, hg_maxl, q18⟩
    obtain rfl := oI q18
    refine TN ?_
    refine WC.condB rfl (fun hk19 => ?_) (fun hk19 => ?_)
    ·
     subst hk19
     rw [if_pos rfl] at h
     refine SQ (RG (AS rfl rfl (NL (TN (SQ (SQ (RG (AS rfl rfl (NL (TN ?_))))))))))
     obtain ⟨o20, e21, h⟩ := bnd h
     refine WC.cutX (fun e w => ∃ (l23 : List UInt8) (v24 : Value) (M : Mem), e = [(8, v24)] ∧ St w0 M0 M [RowI 5 encB v24 l23] w ∧ GlF (fun w => ∃ m, w.cell? ⟨2, 0, none⟩ = some (.int .i64 m)) M ∧ some (.inl l23) = some o20) [] ?_ ?_ (trivial)
     ·
      refine BL ?_
      replace H := H.newRow 5 encB
      refine WC.loopP (fun m e w => ∃ (l26 : List UInt8) (v27 : Value) (n28 : Int) (M : Mem), e = [(1, S p1), (8, v27), (9, I n28)] ∧ St w0 M0 M [RowI 5 encB v27 l26] w ∧ GlF (fun w => ∃ m, w.cell? ⟨2, 0, none⟩ = some (.int .i64 m)) M ∧ Y0K p1 m l26 n28 = some o20) FU [(1, _), (8, _), (9, _)] ⟨rfl, rfl, rfl, trivial⟩ ⟨_, _, _, _, rfl, H, hg_maxl, e21⟩ ?_
      rintro m29 e w ⟨l26, v27, n28, M, rfl, H, hg_maxl, e21⟩
      rcases m29 with _ | m29
      · rw [Y0K] at e21; cases e21
      rw [Y0K] at e21
      refine SQ (SQ (RG (MV rfl rfl (MV rfl rfl (ST (Ex.lenStr Tryz.underlying9 rfl) rfl (ST (Ex.lss rfl rfl) rfl (NL (TN ?_))))))))
      refine WC.condB rfl (fun hk31 => ?_) (fun hk31 => ?_)
      ·
       replace hk31 : n28 < (p1.length : Int) := of_decide_eq_true hk31
       rw [if_pos hk31] at e21
       refine SK (TN (SQ (BL (BL (SQ ?_)))))
       obtain ⟨c32, hxc32, e21⟩ := bnd e21
       refine RG (MV rfl rfl (MV rfl rfl (ST (Ex.idxStrC Tryz.underlying9 rfl rfl hxc32) rfl (ST (Ex.eqlB (c := c32) (d := 95) rfl rfl) rfl (AS rfl rfl (NL (TN ?_)))))))
       refine WC.condB rfl (fun hk33 => ?_) (fun hk33 => ?_)
       ·
        replace hk33 : c32 = 95 := of_decide_eq_true hk33
        rw [if_pos hk33] at e21
        obtain ⟨l34, hxl34, e21⟩ := bnd e21
        refine RG (MV rfl rfl (WR.lit (enc := encB) xty88 ([32] : List UInt8) H rfl (by rfl) (fun _ => rfl) rfl rfl (Wn.none rfl) rfl ?_))
        intro v42 M w H hle hs42
        replace hg_maxl := hg_maxl.mono hle
        refine WR.appC (l := l26) xty88 rfl (fun _ => rfl) H rfl (fun _ => by repeat first | exact .head | apply Upd.tail) rfl (hs42) hxl34 (Wn.none rfl) rfl ?_
        intro v43 w H
        refine AS rfl rfl (NL (IB (IB (TN ?_))))
        obtain ⟨n35, hxn35, e21⟩ := bnd e21
        refine RG (MV rfl rfl (ST (Ex.addC rfl rfl hxn35) rfl (AS rfl rfl (NL ?_))))
        exact WQ.againP m29 [(1, _), (8, _), (9, _)] ⟨rfl, rfl, rfl, trivial⟩ ⟨_, _, _, _, rfl, H, hg_maxl, e21⟩ (Nat.lt_succ_self _)
       ·
        replace hk33 : ¬ (c32 = 95) := of_decide_eq_false hk33
        rw [if_neg hk33] at e21
        refine SQ ?_
        obtain ⟨c36, hxc36, e21⟩ := bnd e21
        refine RG (MV rfl rfl (MV rfl rfl (ST (Ex.idxStrC Tryz.underlying9 rfl rfl hxc36) rfl (ST (Ex.eqlB (c := c36) (d := 61) rfl rfl) rfl (AS rfl rfl (NL (TN ?_)))))))
        refine WC.condB rfl (fun hk37 => ?_) (fun hk37 => ?_)
        ·
         replace hk37 : c36 = 61 := of_decide_eq_true hk37
         rw [if_pos hk37] at e21
         refine SQ ?_
         obtain ⟨n38, hxn38, e21⟩ := bnd e21
         obtain ⟨s39, hxs39, e21⟩ := bnd e21
         obtain ⟨⟨c40, b41⟩, hx42, e21⟩ := bnd e21
         try dsimp only at e21
         refine RG (MV rfl rfl (MV rfl rfl (ST (Ex.addC rfl rfl hxn38) rfl (ST (Ex.sliceL Tryz.underlying9 rfl rfl hxs39) rfl (WR.call H (Y4B hx42) rfl trivial (Wn.none rfl) rfl ?_)))))
         intro v54 M w H hle hR
         replace hg_maxl := hg_maxl.mono hle
         try dsimp only at hR
         obtain rfl := hR
         refine MV rfl rfl (ST (Ex.extract rfl rfl) rfl (ST (Ex.extract rfl rfl) rfl (AS rfl rfl (AS rfl rfl (NL (TN (SQ (SQ (RG (MV rfl rfl (ST (Ex.not rfl) rfl (NL (TN ?_)))))))))))))
         refine WC.condB rfl (fun hk43 => ?_) (fun hk43 => ?_)
         ·
          replace hk43 : b41 = false := by simpa using hk43
          subst hk43
          rw [if_neg Bool.false_ne_true] at e21
          refine SQ (RG (AS rfl rfl (AS rfl rfl (NL (TN (RT ?_))))))
          obtain rfl := oI e21
          try dsimp only at h
          obtain rfl := oI h
          exact WQ.ret2 rfl rfl rfl H.ext (⟨_, rfl, Sl.nil _ _⟩)
         ·
          replace hk43 : b41 = true := by simpa using hk43
          subst hk43
          rw [if_pos rfl] at e21
          refine SK (TN (SQ ?_))
          obtain ⟨l44, hxl44, e21⟩ := bnd e21
          refine RG (MV rfl rfl (MV rfl rfl (WR.lit (enc := encB) xty88 ([c40] : List UInt8) H rfl (by rfl) (fun _ => rfl) rfl rfl (Wn.none rfl) rfl ?_)))
          intro v61 M w H hle hs61
          replace hg_maxl := hg_maxl.mono hle
          refine WR.appC (l := l26) xty88 rfl (fun _ => rfl) H rfl (fun _ => by repeat first | exact .head | apply Upd.tail) rfl (hs61) hxl44 (Wn.none rfl) rfl ?_
          intro v62 w H
          refine AS rfl rfl (NL (TN ?_))
          obtain ⟨n45, hxn45, e21⟩ := bnd e21
          refine RG (MV rfl rfl (ST (Ex.addC rfl rfl hxn45) rfl (AS rfl rfl (NL (IB (IB (TN ?_)))))))
          obtain ⟨n46, hxn46, e21⟩ := bnd e21
          refine RG (MV rfl rfl (ST (Ex.addC rfl rfl hxn46) rfl (AS rfl rfl (NL ?_))))
          exact WQ.againP m29 [(1, _), (8, _), (9, _)] ⟨rfl, rfl, rfl, trivial⟩ ⟨_, _, _, _, rfl, H, hg_maxl, e21⟩ (Nat.lt_succ_self _)
        ·
         replace hk37 : ¬ (c36 = 61) := of_decide_eq_false hk37
         rw [if_neg hk37] at e21
         refine SQ ?_
         obtain ⟨o47, e48, e21⟩ := bnd e21
         refine WC.cutX (fun e w => ∃ (b49 : Bool) (M : Mem), e = [(1, S p1), (8, v27), (9, I n28), (65, Value.bool b49)] ∧ St w0 M0 M [RowI 5 encB v27 l26] w ∧ GlF (fun w => ∃ m, w.cell? ⟨2, 0, none⟩ = some (.int .i64 m)) M ∧ some b49 = some o47) [] ?_ ?_ (trivial)
         ·
          obtain ⟨c50, hxc50, e48⟩ := bnd e48
          refine RG (MV rfl rfl (MV rfl rfl (ST (Ex.idxStrC Tryz.underlying9 rfl rfl hxc50) rfl ?_)))
          by_cases hk51 : 33 ≤ c50.toNat
          ·
           rw [if_pos hk51] at e48
           obtain ⟨c52, hxc52, e48⟩ := bnd e48
           refine WR.stepE (v' := .bool true) (Ex.geqB (i := c50.toNat) (j := 33) rfl rfl) (congrArg Value.bool (decide_eq_true hk51)) (Wn.none rfl) rfl rfl (MV rfl rfl (SG (Ex.move rfl) rfl rfl rfl (SG (Ex.move rfl) rfl rfl rfl (SG (Ex.idxStrC Tryz.underlying9 rfl rfl hxc52) rfl rfl rfl (SG (Ex.leqB (i := c52.toNat) (j := 126) rfl rfl) rfl rfl rfl (PT rfl rfl rfl (AS rfl rfl (NL ?_))))))))
           exact WQ.meetN [(1, _), (8, _), (9, _), (65, _)] ⟨rfl, rfl, rfl, rfl, trivial⟩ ⟨_, _, rfl, H, hg_maxl, e48⟩
          ·
           rw [if_neg hk51] at e48
           refine WR.stepE (v' := .bool false) (Ex.geqB (i := c50.toNat) (j := 33) rfl rfl) (congrArg Value.bool (decide_eq_false hk51)) (Wn.none rfl) rfl rfl (MV rfl rfl (WR.skipN 4 rfl rfl (PF rfl rfl rfl (AS rfl rfl (NL ?_)))))
           exact WQ.meetN [(1, _), (8, _), (9, _), (65, _)] ⟨rfl, rfl, rfl, rfl, trivial⟩ ⟨_, _, rfl, H, hg_maxl, e48⟩
         ·
          rintro e w ⟨b49, M, rfl, H, hg_maxl, q53⟩
          obtain rfl := oI q53
          refine TN ?_
          refine WC.condB rfl (fun hk54 => ?_) (fun hk54 => ?_)
          ·
           subst hk54
           rw [if_pos rfl] at e21
           obtain ⟨c55, hxc55, e21⟩ := bnd e21
           obtain ⟨l56, hxl56, e21⟩ := bnd e21
           refine RG (MV rfl rfl (MV rfl rfl (MV rfl rfl (ST (Ex.idxStrC Tryz.underlying9 rfl rfl hxc55) rfl (WR.lit (enc := encB) xty88 ([c55] : List UInt8) H rfl (by rfl) (fun _ => rfl) rfl rfl (Wn.none rfl) rfl ?_)))))
           intro v80 M w H hle hs80
           replace hg_maxl := hg_maxl.mono hle
           refine WR.appC (l := l26) xty88 rfl (fun _ => rfl) H rfl (fun _ => by repeat first | exact .head | apply Upd.tail) rfl (hs80) hxl56 (Wn.none rfl) rfl ?_
           intro v81 w H
           refine AS rfl rfl (NL (IB (IB (TN ?_))))
           obtain ⟨n57, hxn57, e21⟩ := bnd e21
           refine RG (MV rfl rfl (ST (Ex.addC rfl rfl hxn57) rfl (AS rfl rfl (NL ?_))))
           exact WQ.againP m29 [(1, _), (8, _), (9, _)] ⟨rfl, rfl, rfl, trivial⟩ ⟨_, _, _, _, rfl, H, hg_maxl, e21⟩ (Nat.lt_succ_self _)
          ·
           subst hk54
           rw [if_neg Bool.false_ne_true] at e21
           refine SQ (RG (AS rfl rfl (AS rfl rfl (NL (TN (RT ?_))))))
           obtain rfl := oI e21
           try dsimp only at h
           obtain rfl := oI h
           exact WQ.ret2 rfl rfl rfl H.ext (⟨_, rfl, Sl.nil _ _⟩)
      ·
       replace hk31 : ¬ (n28 < (p1.length : Int)) := of_decide_eq_false hk31
       rw [if_neg hk31] at e21
       refine WC.exit (WQ.thenExit (WQ.thenExit (WQ.exitHere ?_)))
       exact WQ.meetN [(8, _)] ⟨rfl, trivial⟩ ⟨_, _, _, rfl, H, hg_maxl, e21⟩
     ·
      rintro e w ⟨l23, v24, M, rfl, H, hg_maxl, q58⟩
      obtain rfl := oI q58
      try dsimp only at h
      refine TN (SQ (RG (MV rfl rfl (AS rfl rfl (AS rfl rfl (NL (TN (RT ?_))))))))
      obtain ⟨M, hle, hs59, H⟩ := H.freezeRow (v := v24) (enc := encB) (t := 5) (by repeat first | exact .head | apply Rem.tail)
      replace hg_maxl := hg_maxl.mono hle
      obtain rfl := oI h
      exact WQ.ret2 rfl rfl rfl H.ext (⟨_, rfl, hs59⟩)
    ·
     subst hk19
     rw [if_neg Bool.false_ne_true] at h
     refine SK (IB (TN (SQ (RG (AS rfl rfl (AS rfl rfl (NL (TN (RT ?_)))))))))
     obtain rfl := oI h
     exact WQ.ret2 rfl rfl rfl H.ext (⟨_, rfl, Sl.nil _ _⟩)
set_option maxHeartbeats 4000000 in
theorem Y4C {p0 : List UInt8} {r : (List UInt8 × Int × Bool)} (h : Y29 p0 = some r) : Ct Tryz.prog 156 [S p0] (fun M => GlF (fun w => ∃ m, w.cell? ⟨2, 0, none⟩ = some (.int .i64 m)) M) (fun v M => v = Value.tuple #[S r.1, I r.2.1, Value.bool r.2.2]) := by
 refine Ct.of Tryz.func156 (enters Tryz.func156 (by kernel_rfl) rfl) rfl rfl rfl ?_
 intro w0 M0 H hp
 have hg_maxl := hp
 unfold Y29 at h
 refine SQ (RG (AS rfl rfl (AS rfl rfl (AS rfl rfl (NL (TN (SQ (SQ ?_))))))))
 obtain ⟨b1, hx2, h⟩ := bnd h
 refine RG (MV rfl rfl (WR.call H (Y2g hx2) rfl trivial (Wn.none rfl) rfl ?_))
 intro v11 M w H hle hR
 replace hg_maxl := hg_maxl.mono hle
 obtain rfl := hR
 refine ST (Ex.not rfl) rfl (NL (TN ?_))
 refine WC.condB rfl (fun hk3 => ?_) (fun hk3 => ?_)
 ·
  replace hk3 : b1 = false := by simpa using hk3
  subst hk3
  rw [if_neg Bool.false_ne_true] at h
  refine SQ (RG (AS rfl rfl (AS rfl rfl (AS rfl rfl (NL (TN (RT ?_)))))))
  obtain rfl := oI h
  exact WQ.ret3 rfl rfl rfl rfl H.ext rfl
 ·
  replace hk3 : b1 = true := by simpa using hk3
  subst hk3
  rw [if_pos rfl] at h
  refine SK (TN (SQ ?_))
  obtain ⟨s4, hxs4, h⟩ := bnd h
  obtain ⟨l5, hx6, h⟩ := bnd h
  refine RG (MV rfl rfl (MV rfl rfl (ST (Ex.lenStr Tryz.underlying9 rfl) rfl (ST (Ex.min2 rfl rfl) rfl (ST (Ex.sliceC Tryz.underlying9 rfl rfl rfl hxs4) rfl (WR.call H (Y4c hx6) rfl (hg_maxl) (Wn.none rfl) rfl ?_))))))
  intro v18 M w H hle hR
  replace hg_maxl := hg_maxl.mono hle
  have f18_0 := hR
  refine AS rfl rfl (NL (TN (SQ (SQ ?_))))
  obtain ⟨o7, e8, h⟩ := bnd h
  refine WC.cutX (fun e w => ∃ (b9 : Bool) (M : Mem), e = [(5, v18), (28, Value.bool b9)] ∧ St w0 M0 M [] w ∧ GlF (fun w => ∃ m, w.cell? ⟨2, 0, none⟩ = some (.int .i64 m)) M ∧ Sl M encS v18 l5 ∧ some b9 = some o7) [] ?_ ?_ (trivial)
  ·
   refine RG (MV rfl rfl (ST (Ex.lenSl Tryz.underlying55 f18_0 rfl) rfl ?_))
   by_cases hk10 : (l5.length : Int) < (4 : Int)
   ·
    rw [if_pos hk10] at e8
    refine WR.stepE (v' := .bool true) (Ex.lss rfl rfl) (congrArg Value.bool (decide_eq_true hk10)) (Wn.none rfl) rfl rfl (MV rfl rfl (WR.skipN 5 rfl rfl (PT rfl rfl rfl (NL ?_))))
    exact WQ.meetN [(5, _), (28, _)] ⟨rfl, rfl, trivial⟩ ⟨_, _, rfl, H, hg_maxl, f18_0, e8⟩
   ·
    rw [if_neg hk10] at e8
    obtain ⟨a11, hxa11, e8⟩ := bnd e8
    obtain ⟨bk24, o24, ha24, hc24⟩ := f18_0.atC hxa11
    obtain ⟨b12, hx13, e8⟩ := bnd e8
    refine WR.stepE (v' := .bool false) (Ex.lss rfl rfl) (congrArg Value.bool (decide_eq_false hk10)) (Wn.none rfl) rfl rfl (MV rfl rfl (SG (Ex.move rfl) rfl rfl rfl (SG (Ex.idxAt ha24 Tryz.underlying55 Tryz.sizeOf9 rfl rfl) rfl rfl rfl (SG (Ex.loadM H rfl hc24 Tryz.isAgg9) rfl rfl rfl (WR.call H (Y2g hx13) rfl trivial (Wn.some rfl rfl rfl) rfl ?_)))))
    intro v26 M w H hle hR
    replace hg_maxl := hg_maxl.mono hle
    replace f18_0 := f18_0.mono hle
    replace hc24 := hc24.mono hle
    obtain rfl := hR
    refine SG (Ex.not rfl) rfl rfl rfl (PF rfl rfl rfl (NL ?_))
    exact WQ.meetN [(5, _), (28, _)] ⟨rfl, rfl, trivial⟩ ⟨_, _, rfl, H, hg_maxl, f18_0, e8⟩
  ·
   rintro e w ⟨b9, M, rfl, H, hg_maxl, f18_0, q14⟩
   obtain rfl := oI q14
   refine TN ?_
   refine WC.condB rfl (fun hk15 => ?_) (fun hk15 => ?_)
   ·
    subst hk15
    rw [if_pos rfl] at h
    refine SQ (RG (AS rfl rfl (AS rfl rfl (AS rfl rfl (NL (TN (RT ?_)))))))
    obtain rfl := oI h
    exact WQ.ret3 rfl rfl rfl rfl H.ext rfl
   ·
    subst hk15
    rw [if_neg Bool.false_ne_true] at h
    refine SK (TN (SQ ?_))
    obtain ⟨a16, hxa16, h⟩ := bnd h
    obtain ⟨bk31, o31, ha31, hc31⟩ := f18_0.atC hxa16
    obtain ⟨a17, hxa17, h⟩ := bnd h
    obtain ⟨bk34, o34, ha34, hc34⟩ := f18_0.atC hxa17
    obtain ⟨⟨l18, b19⟩, hx20, h⟩ := bnd h
    try dsimp only at h
    refine WC.draw (m := 12) rfl rfl H ?_
    intro w H
    refine WA.take (i := 0) rfl (by kernel_rfl) (by kernel_rfl) (by kernel_rfl) (fun _ => Ex.move rfl) (Wn.none rfl) rfl rfl (fun _ _ => rfl) (WA.take (i := 1) rfl (by kernel_rfl) (by kernel_rfl) (by kernel_rfl) (fun _ => Ex.idxAt ha31 Tryz.underlying55 Tryz.sizeOf9 rfl rfl) (Wn.none rfl) rfl rfl (fun _ _ => rfl) (WA.take (i := 3) rfl (by kernel_rfl) (by kernel_rfl) (by kernel_rfl) (fun _ => Ex.move rfl) (Wn.none rfl) rfl rfl (fun _ _ => rfl) (WA.take (i := 4) rfl (by kernel_rfl) (by kernel_rfl) (by kernel_rfl) (fun _ => Ex.idxAt ha34 Tryz.underlying55 Tryz.sizeOf9 rfl rfl) (Wn.none rfl) rfl rfl (fun _ _ => rfl) (WA.takeM (i := 2) [5] rfl (by kernel_rfl) (by kernel_rfl) (by kernel_rfl) (Ex.loadM H rfl hc31 Tryz.isAgg9) (Wn.none rfl) rfl rfl (fun _ _ => rfl) (WA.seq (fuel := 4) [5, 6, 7] rfl (by kernel_rfl) (ST (Ex.loadM H rfl hc34 Tryz.isAgg9) rfl (WR.call H (Y4k hx20) rfl (hg_maxl) (Wn.none rfl) rfl ?_)))))))
    intro v36 M w H hle hR
    replace hg_maxl := hg_maxl.mono hle
    replace f18_0 := f18_0.mono hle
    replace hc31 := hc31.mono hle
    replace hc34 := hc34.mono hle
    try dsimp only at hR
    obtain ⟨x36_0, rfl, f36_0⟩ := hR
    refine MV rfl rfl (NA (WA.take (i := 8) rfl (by kernel_rfl) (by kernel_rfl) (by kernel_rfl) (fun _ => Ex.extract rfl rfl) (Wn.none rfl) rfl rfl (fun _ _ => rfl) (WA.take (i := 9) rfl (by kernel_rfl) (by kernel_rfl) (by kernel_rfl) (fun _ => Ex.extract rfl rfl) (Wn.none rfl) rfl rfl (fun _ _ => rfl) (WA.seq (fuel := 0) [10, 11] rfl (by kernel_rfl) (AS rfl rfl (AS rfl rfl (NA (WA.done (by kernel_rfl) (TN (SQ ?_))))))))))
    obtain ⟨a21, hxa21, h⟩ := bnd h
    obtain ⟨bk41, o41, ha41, hc41⟩ := f18_0.atC hxa21
    obtain ⟨⟨s22, ⟨n23, n24⟩⟩, hx25, h⟩ := bnd h
    try dsimp only at h
    refine RG (MV rfl rfl (ST (Ex.idxAt ha41 Tryz.underlying55 Tryz.sizeOf9 rfl rfl) rfl (ST (Ex.loadM H rfl hc41 Tryz.isAgg9) rfl (MV rfl rfl (WR.call H (Y4a hx25) rfl (f36_0) (Wn.none rfl) rfl ?_)))))
    intro v44 M w H hle hR
    replace hg_maxl := hg_maxl.mono hle
    replace f18_0 := f18_0.mono hle
    replace hc31 := hc31.mono hle
    replace hc34 := hc34.mono hle
    replace f36_0 := f36_0.mono hle
    replace hc41 := hc41.mono hle
    try dsimp only at hR
    obtain rfl := hR
    refine MV rfl rfl (ST (Ex.extract rfl rfl) rfl (ST (Ex.extract rfl rfl) rfl (WR.alloc [_, _] H Tryz.zeroValue27 rfl (Wn.none rfl) rfl ?_)))
    intro bk9 w H
    refine AS rfl rfl (WR.store [_, _] H rfl rfl rfl (by repeat first | exact .head | apply Upd.tail) Tryz.sizeOf27 rfl (by rfl) (by rfl) (Wn.none rfl) ?_)
    intro w H
    refine NL (TN (SQ ?_))
    obtain ⟨o26, e27, h⟩ := bnd h
    refine WC.cutX (fun e w => ∃ (s28 : List UInt8) (n29 : Int) (b30 : Bool) (M : Mem), e = [(2, S s28), (3, I n29), (4, Value.bool b30)] ∧ St w0 M0 M [] w ∧ GlF (fun w => ∃ m, w.cell? ⟨2, 0, none⟩ = some (.int .i64 m)) M ∧ some (s28, n29, b30) = some o26) [] ?_ ?_ (trivial)
    ·
     obtain ⟨a31, hxa31, e27⟩ := bnd e27
     obtain ⟨bk49, o49, ha49, hc49⟩ := f18_0.atC hxa31
     obtain ⟨n32, hxn32, e27⟩ := bnd e27
     obtain ⟨a33, hxa33, e27⟩ := bnd e27
     obtain ⟨bk54, o54, ha54, hc54⟩ := f18_0.atC hxa33
     obtain ⟨n34, hxn34, e27⟩ := bnd e27
     obtain ⟨a35, hxa35, e27⟩ := bnd e27
     obtain ⟨bk59, o59, ha59, hc59⟩ := f18_0.atC hxa35
     obtain ⟨n36, hxn36, e27⟩ := bnd e27
     obtain ⟨n37, hxn37, e27⟩ := bnd e27
     rcases b19 with _ | _
     ·
      rw [if_neg Bool.false_ne_true] at e27
      refine WC.sub (e' := [(5, _), (7, _), (8, _), (9, _)]) ⟨rfl, rfl, rfl, rfl, trivial⟩ (WC.draw (m := 26) rfl rfl H ?_)
      intro w H
      refine WA.conf (c := 26) [(47, S s22, []), (48, v18, []), (49, ptr bk49 o49, [1]), (50, S a31, [2]), (51, I (a31.length : Int), [3]), (52, I n32, [4]), (53, v18, []), (54, ptr bk54 o54, [6]), (55, S a33, [7]), (56, I (a33.length : Int), [8]), (57, I n34, [5, 9]), (58, v18, []), (59, ptr bk59 o59, [11]), (60, S a35, [12]), (61, I (a35.length : Int), [13]), (62, I n36, [10, 14]), (63, I n37, [15]), (64, Value.bool false, []), (65, Value.bool false, [17]), (66, undef, [18]), (67, undef, [18]), (68, undef, [18]), (69, Value.bool false, [18, 21]), (2, S s22, [0]), (3, I n37, [16]), (4, Value.bool false, [22])] rfl rfl (by kernel_rfl) rfl rfl H ⟨⟨_, rfl, fun E w M H hle Qk kk => ?_⟩, ⟨_, rfl, fun E w M H hle Qk kk => ?_⟩, ⟨_, rfl, fun E w M H hle Qk kk => ?_⟩, ⟨_, rfl, fun E w M H hle Qk kk => ?_⟩, ⟨_, rfl, fun E w M H hle Qk kk => ?_⟩, ⟨_, rfl, fun E w M H hle Qk kk => ?_⟩, ⟨_, rfl, fun E w M H hle Qk kk => ?_⟩, ⟨_, rfl, fun E w M H hle Qk kk => ?_⟩, ⟨_, rfl, fun E w M H hle Qk kk => ?_⟩, ⟨_, rfl, fun E w M H hle Qk kk => ?_⟩, ⟨_, rfl, fun E w M H hle Qk kk => ?_⟩, ⟨_, rfl, fun E w M H hle Qk kk => ?_⟩, ⟨_, rfl, fun E w M H hle Qk kk => ?_⟩, ⟨_, rfl, fun E w M H hle Qk kk => ?_⟩, ⟨_, rfl, fun E w M H hle Qk kk => ?_⟩, ⟨_, rfl, fun E w M H hle Qk kk => ?_⟩, ⟨_, rfl, fun E w M H hle Qk kk => ?_⟩, ⟨_, rfl, fun E w M H hle Qk kk => ?_⟩, ⟨_, rfl, fun E w M H hle Qk kk => ?_⟩, ⟨_, rfl, fun E w M H hle Qk kk => ?_⟩, ⟨_, rfl, fun E w M H hle Qk kk => ?_⟩, ⟨_, rfl, fun E w M H hle Qk kk => ?_⟩, ⟨_, rfl, fun E w M H hle Qk kk => ?_⟩, ⟨_, rfl, fun E w M H hle Qk kk => ?_⟩, ⟨_, rfl, fun E w M H hle Qk kk => ?_⟩, ⟨_, rfl, fun E w M H hle Qk kk => ?_⟩, trivial⟩ ?_
      ·
       have hg_maxl := hg_maxl.mono hle
       have f18_0 := f18_0.mono hle
       have hc31 := hc31.mono hle
       have hc34 := hc34.mono hle
       have f36_0 := f36_0.mono hle
       have hc41 := hc41.mono hle
       have hc49 := hc49.mono hle
       have hc54 := hc54.mono hle
       have hc59 := hc59.mono hle
       refine MV rfl rfl ?_
       exact WR.nil (kk _ _ H (Mem.le.refl _))
      ·
       have hg_maxl := hg_maxl.mono hle
       have f18_0 := f18_0.mono hle
       have hc31 := hc31.mono hle
       have hc34 := hc34.mono hle
       have f36_0 := f36_0.mono hle
       have hc41 := hc41.mono hle
       have hc49 := hc49.mono hle
       have hc54 := hc54.mono hle
       have hc59 := hc59.mono hle
       refine MV rfl rfl ?_
       exact WR.nil (kk _ _ H (Mem.le.refl _))
      ·
       have hg_maxl := hg_maxl.mono hle
       have f18_0 := f18_0.mono hle
       have hc31 := hc31.mono hle
       have hc34 := hc34.mono hle
       have f36_0 := f36_0.mono hle
       have hc41 := hc41.mono hle
       have hc49 := hc49.mono hle
       have hc54 := hc54.mono hle
       have hc59 := hc59.mono hle
       refine ST (Ex.idxAt ha49 Tryz.underlying55 Tryz.sizeOf9 rfl rfl) rfl ?_
       exact WR.nil (kk _ _ H (Mem.le.refl _))
      ·
       have hg_maxl := hg_maxl.mono hle
       have f18_0 := f18_0.mono hle
       have hc31 := hc31.mono hle
       have hc34 := hc34.mono hle
       have f36_0 := f36_0.mono hle
       have hc41 := hc41.mono hle
       have hc49 := hc49.mono hle
       have hc54 := hc54.mono hle
       have hc59 := hc59.mono hle
       refine ST (Ex.loadM H rfl hc49 Tryz.isAgg9) rfl ?_
       exact WR.nil (kk _ _ H (Mem.le.refl _))
      ·
       have hg_maxl := hg_maxl.mono hle
       have f18_0 := f18_0.mono hle
       have hc31 := hc31.mono hle
       have hc34 := hc34.mono hle
       have f36_0 := f36_0.mono hle
       have hc41 := hc41.mono hle
       have hc49 := hc49.mono hle
       have hc54 := hc54.mono hle
       have hc59 := hc59.mono hle
       refine ST (Ex.lenStr Tryz.underlying9 rfl) rfl ?_
       exact WR.nil (kk _ _ H (Mem.le.refl _))
      ·
       have hg_maxl := hg_maxl.mono hle
       have f18_0 := f18_0.mono hle
       have hc31 := hc31.mono hle
       have hc34 := hc34.mono hle
       have f36_0 := f36_0.mono hle
       have hc41 := hc41.mono hle
       have hc49 := hc49.mono hle
       have hc54 := hc54.mono hle
       have hc59 := hc59.mono hle
       refine ST (Ex.addC rfl rfl hxn32) rfl ?_
       exact WR.nil (kk _ _ H (Mem.le.refl _))
      ·
       have hg_maxl := hg_maxl.mono hle
       have f18_0 := f18_0.mono hle
       have hc31 := hc31.mono hle
       have hc34 := hc34.mono hle
       have f36_0 := f36_0.mono hle
       have hc41 := hc41.mono hle
       have hc49 := hc49.mono hle
       have hc54 := hc54.mono hle
       have hc59 := hc59.mono hle
       refine MV rfl rfl ?_
       exact WR.nil (kk _ _ H (Mem.le.refl _))
      ·
       have hg_maxl := hg_maxl.mono hle
       have f18_0 := f18_0.mono hle
       have hc31 := hc31.mono hle
       have hc34 := hc34.mono hle
       have f36_0 := f36_0.mono hle
       have hc41 := hc41.mono hle
       have hc49 := hc49.mono hle
       have hc54 := hc54.mono hle
       have hc59 := hc59.mono hle
       refine ST (Ex.idxAt ha54 Tryz.underlying55 Tryz.sizeOf9 rfl rfl) rfl ?_
       exact WR.nil (kk _ _ H (Mem.le.refl _))
      ·
       have hg_maxl := hg_maxl.mono hle
       have f18_0 := f18_0.mono hle
       have hc31 := hc31.mono hle
       have hc34 := hc34.mono hle
       have f36_0 := f36_0.mono hle
       have hc41 := hc41.mono hle
       have hc49 := hc49.mono hle
       have hc54 := hc54.mono hle
       have hc59 := hc59.mono hle
       refine ST (Ex.loadM H rfl hc54 Tryz.isAgg9) rfl ?_
       exact WR.nil (kk _ _ H (Mem.le.refl _))
      ·
       have hg_maxl := hg_maxl.mono hle
       have f18_0 := f18_0.mono hle
       have hc31 := hc31.mono hle
       have hc34 := hc34.mono hle
       have f36_0 := f36_0.mono hle
       have hc41 := hc41.mono hle
       have hc49 := hc49.mono hle
       have hc54 := hc54.mono hle
       have hc59 := hc59.mono hle
       refine ST (Ex.lenStr Tryz.underlying9 rfl) rfl ?_
       exact WR.nil (kk _ _ H (Mem.le.refl _))
      ·
       have hg_maxl := hg_maxl.mono hle
       have f18_0 := f18_0.mono hle
       have hc31 := hc31.mono hle
       have hc34 := hc34.mono hle
       have f36_0 := f36_0.mono hle
       have hc41 := hc41.mono hle
       have hc49 := hc49.mono hle
       have hc54 := hc54.mono hle
       have hc59 := hc59.mono hle
       refine ST (Ex.addC rfl rfl hxn34) rfl ?_
       exact WR.nil (kk _ _ H (Mem.le.refl _))
      ·
       have hg_maxl := hg_maxl.mono hle
       have f18_0 := f18_0.mono hle
       have hc31 := hc31.mono hle
       have hc34 := hc34.mono hle
       have f36_0 := f36_0.mono hle
       have hc41 := hc41.mono hle
       have hc49 := hc49.mono hle
       have hc54 := hc54.mono hle
       have hc59 := hc59.mono hle
       refine MV rfl rfl ?_
       exact WR.nil (kk _ _ H (Mem.le.refl _))
      ·
       have hg_maxl := hg_maxl.mono hle
       have f18_0 := f18_0.mono hle
       have hc31 := hc31.mono hle
       have hc34 := hc34.mono hle
       have f36_0 := f36_0.mono hle
       have hc41 := hc41.mono hle
       have hc49 := hc49.mono hle
       have hc54 := hc54.mono hle
       have hc59 := hc59.mono hle
       refine ST (Ex.idxAt ha59 Tryz.underlying55 Tryz.sizeOf9 rfl rfl) rfl ?_
       exact WR.nil (kk _ _ H (Mem.le.refl _))
      ·
       have hg_maxl := hg_maxl.mono hle
       have f18_0 := f18_0.mono hle
       have hc31 := hc31.mono hle
       have hc34 := hc34.mono hle
       have f36_0 := f36_0.mono hle
       have hc41 := hc41.mono hle
       have hc49 := hc49.mono hle
       have hc54 := hc54.mono hle
       have hc59 := hc59.mono hle
       refine ST (Ex.loadM H rfl hc59 Tryz.isAgg9) rfl ?_
       exact WR.nil (kk _ _ H (Mem.le.refl _))
      ·
       have hg_maxl := hg_maxl.mono hle
       have f18_0 := f18_0.mono hle
       have hc31 := hc31.mono hle
       have hc34 := hc34.mono hle
       have f36_0 := f36_0.mono hle
       have hc41 := hc41.mono hle
       have hc49 := hc49.mono hle
       have hc54 := hc54.mono hle
       have hc59 := hc59.mono hle
       refine ST (Ex.lenStr Tryz.underlying9 rfl) rfl ?_
       exact WR.nil (kk _ _ H (Mem.le.refl _))
      ·
       have hg_maxl := hg_maxl.mono hle
       have f18_0 := f18_0.mono hle
       have hc31 := hc31.mono hle
       have hc34 := hc34.mono hle
       have f36_0 := f36_0.mono hle
       have hc41 := hc41.mono hle
       have hc49 := hc49.mono hle
       have hc54 := hc54.mono hle
       have hc59 := hc59.mono hle
       refine ST (Ex.addC rfl rfl hxn36) rfl ?_
       exact WR.nil (kk _ _ H (Mem.le.refl _))
      ·
       have hg_maxl := hg_maxl.mono hle
       have f18_0 := f18_0.mono hle
       have hc31 := hc31.mono hle
       have hc34 := hc34.mono hle
       have f36_0 := f36_0.mono hle
       have hc41 := hc41.mono hle
       have hc49 := hc49.mono hle
       have hc54 := hc54.mono hle
       have hc59 := hc59.mono hle
       refine ST (Ex.addC rfl rfl hxn37) rfl ?_
       exact WR.nil (kk _ _ H (Mem.le.refl _))
      ·
       have hg_maxl := hg_maxl.mono hle
       have f18_0 := f18_0.mono hle
       have hc31 := hc31.mono hle
       have hc34 := hc34.mono hle
       have f36_0 := f36_0.mono hle
       have hc41 := hc41.mono hle
       have hc49 := hc49.mono hle
       have hc54 := hc54.mono hle
       have hc59 := hc59.mono hle
       refine MV rfl rfl ?_
       exact WR.nil (kk _ _ H (Mem.le.refl _))
      ·
       have hg_maxl := hg_maxl.mono hle
       have f18_0 := f18_0.mono hle
       have hc31 := hc31.mono hle
       have hc34 := hc34.mono hle
       have f36_0 := f36_0.mono hle
       have hc41 := hc41.mono hle
       have hc49 := hc49.mono hle
       have hc54 := hc54.mono hle
       have hc59 := hc59.mono hle
       refine MV rfl rfl ?_
       exact WR.nil (kk _ _ H (Mem.le.refl _))
      ·
       have hg_maxl := hg_maxl.mono hle
       have f18_0 := f18_0.mono hle
       have hc31 := hc31.mono hle
       have hc34 := hc34.mono hle
       have f36_0 := f36_0.mono hle
       have hc41 := hc41.mono hle
       have hc49 := hc49.mono hle
       have hc54 := hc54.mono hle
       have hc59 := hc59.mono hle
       refine GF rfl rfl rfl ?_
       exact WR.nil (kk _ _ H (Mem.le.refl _))
      ·
       have hg_maxl := hg_maxl.mono hle
       have f18_0 := f18_0.mono hle
       have hc31 := hc31.mono hle
       have hc34 := hc34.mono hle
       have f36_0 := f36_0.mono hle
       have hc41 := hc41.mono hle
       have hc49 := hc49.mono hle
       have hc54 := hc54.mono hle
       have hc59 := hc59.mono hle
       refine GF rfl rfl rfl ?_
       exact WR.nil (kk _ _ H (Mem.le.refl _))
      ·
       have hg_maxl := hg_maxl.mono hle
       have f18_0 := f18_0.mono hle
       have hc31 := hc31.mono hle
       have hc34 := hc34.mono hle
       have f36_0 := f36_0.mono hle
       have hc41 := hc41.mono hle
       have hc49 := hc49.mono hle
       have hc54 := hc54.mono hle
       have hc59 := hc59.mono hle
       refine GF rfl rfl rfl ?_
       exact WR.nil (kk _ _ H (Mem.le.refl _))
      ·
       have hg_maxl := hg_maxl.mono hle
       have f18_0 := f18_0.mono hle
       have hc31 := hc31.mono hle
       have hc34 := hc34.mono hle
       have f36_0 := f36_0.mono hle
       have hc41 := hc41.mono hle
       have hc49 := hc49.mono hle
       have hc54 := hc54.mono hle
       have hc59 := hc59.mono hle
       refine PF rfl rfl rfl ?_
       exact WR.nil (kk _ _ H (Mem.le.refl _))
      ·
       have hg_maxl := hg_maxl.mono hle
       have f18_0 := f18_0.mono hle
       have hc31 := hc31.mono hle
       have hc34 := hc34.mono hle
       have f36_0 := f36_0.mono hle
       have hc41 := hc41.mono hle
       have hc49 := hc49.mono hle
       have hc54 := hc54.mono hle
       have hc59 := hc59.mono hle
       refine AS rfl rfl ?_
       exact WR.nil (kk _ _ H (Mem.le.refl _))
      ·
       have hg_maxl := hg_maxl.mono hle
       have f18_0 := f18_0.mono hle
       have hc31 := hc31.mono hle
       have hc34 := hc34.mono hle
       have f36_0 := f36_0.mono hle
       have hc41 := hc41.mono hle
       have hc49 := hc49.mono hle
       have hc54 := hc54.mono hle
       have hc59 := hc59.mono hle
       refine AS rfl rfl ?_
       exact WR.nil (kk _ _ H (Mem.le.refl _))
      ·
       have hg_maxl := hg_maxl.mono hle
       have f18_0 := f18_0.mono hle
       have hc31 := hc31.mono hle
       have hc34 := hc34.mono hle
       have f36_0 := f36_0.mono hle
       have hc41 := hc41.mono hle
       have hc49 := hc49.mono hle
       have hc54 := hc54.mono hle
       have hc59 := hc59.mono hle
       refine AS rfl rfl ?_
       exact WR.nil (kk _ _ H (Mem.le.refl _))
      ·
       intro w M H hle
       replace hg_maxl := hg_maxl.mono hle
       replace f18_0 := f18_0.mono hle
       replace hc31 := hc31.mono hle
       replace hc34 := hc34.mono hle
       replace f36_0 := f36_0.mono hle
       replace hc41 := hc41.mono hle
       replace hc49 := hc49.mono hle
       replace hc54 := hc54.mono hle
       replace hc59 := hc59.mono hle
       refine WA.done (by kernel_rfl) ?_
       exact WQ.meetN [(2, _), (3, _), (4, _)] ⟨rfl, rfl, rfl, trivial⟩ ⟨_, _, _, _, rfl, (H.pick (L' := []) (by repeat first | exact kPn | refine kPc (by repeat first | exact .head | apply Rem.tail) ?_)), hg_maxl, e27⟩
     ·
      rw [if_pos rfl] at e27
      obtain ⟨b38, hx39, e27⟩ := bnd e27
      refine WC.sub (e' := [(5, _), (7, _), (8, _), (9, _)]) ⟨rfl, rfl, rfl, rfl, trivial⟩ (WC.draw (m := 26) rfl rfl H ?_)
      intro w H
      refine WA.conf (c := 26) [(47, S s22, []), (48, v18, []), (49, ptr bk49 o49, [1]), (50, S a31, [2]), (51, I (a31.length : Int), [3]), (52, I n32, [4]), (53, v18, []), (54, ptr bk54 o54, [6]), (55, S a33, [7]), (56, I (a33.length : Int), [8]), (57, I n34, [5, 9]), (58, v18, []), (59, ptr bk59 o59, [11]), (60, S a35, [12]), (61, I (a35.length : Int), [13]), (62, I n36, [10, 14]), (63, I n37, [15]), (64, Value.bool true, []), (65, Value.bool true, [17]), (66, Value.agg #[I n23, I n24], [18]), (67, Value.bool b38, [18, 19]), (68, Value.bool (!b38), [18, 20]), (69, Value.bool (!b38), [18, 21]), (2, S s22, [0]), (3, I n37, [16]), (4, Value.bool (!b38), [22])] rfl rfl (by kernel_rfl) rfl rfl H ⟨⟨_, rfl, fun E w M H hle Qk kk => ?_⟩, ⟨_, rfl, fun E w M H hle Qk kk => ?_⟩, ⟨_, rfl, fun E w M H hle Qk kk => ?_⟩, ⟨_, rfl, fun E w M H hle Qk kk => ?_⟩, ⟨_, rfl, fun E w M H hle Qk kk => ?_⟩, ⟨_, rfl, fun E w M H hle Qk kk => ?_⟩, ⟨_, rfl, fun E w M H hle Qk kk => ?_⟩, ⟨_, rfl, fun E w M H hle Qk kk => ?_⟩, ⟨_, rfl, fun E w M H hle Qk kk => ?_⟩, ⟨_, rfl, fun E w M H hle Qk kk => ?_⟩, ⟨_, rfl, fun E w M H hle Qk kk => ?_⟩, ⟨_, rfl, fun E w M H hle Qk kk => ?_⟩, ⟨_, rfl, fun E w M H hle Qk kk => ?_⟩, ⟨_, rfl, fun E w M H hle Qk kk => ?_⟩, ⟨_, rfl, fun E w M H hle Qk kk => ?_⟩, ⟨_, rfl, fun E w M H hle Qk kk => ?_⟩, ⟨_, rfl, fun E w M H hle Qk kk => ?_⟩, ⟨_, rfl, fun E w M H hle Qk kk => ?_⟩, ⟨_, rfl, fun E w M H hle Qk kk => ?_⟩, ⟨_, rfl, fun E w M H hle Qk kk => ?_⟩, ⟨_, rfl, fun E w M H hle Qk kk => ?_⟩, ⟨_, rfl, fun E w M H hle Qk kk => ?_⟩, ⟨_, rfl, fun E w M H hle Qk kk => ?_⟩, ⟨_, rfl, fun E w M H hle Qk kk => ?_⟩, ⟨_, rfl, fun E w M H hle Qk kk => ?_⟩, ⟨_, rfl, fun E w M H hle Qk kk => ?_⟩, trivial⟩ ?_
      ·
       have hg_maxl := hg_maxl.mono hle
       have f18_0 := f18_0.mono hle
       have hc31 := hc31.mono hle
       have hc34 := hc34.mono hle
       have f36_0 := f36_0.mono hle
       have hc41 := hc41.mono hle
       have hc49 := hc49.mono hle
       have hc54 := hc54.mono hle
       have hc59 := hc59.mono hle
       refine MV rfl rfl ?_
       exact WR.nil (kk _ _ H (Mem.le.refl _))
      ·
       have hg_maxl := hg_maxl.mono hle
       have f18_0 := f18_0.mono hle
       have hc31 := hc31.mono hle
       have hc34 := hc34.mono hle
       have f36_0 := f36_0.mono hle
       have hc41 := hc41.mono hle
       have hc49 := hc49.mono hle
       have hc54 := hc54.mono hle
       have hc59 := hc59.mono hle
       refine MV rfl rfl ?_
       exact WR.nil (kk _ _ H (Mem.le.refl _))
      ·
       have hg_maxl := hg_maxl.mono hle
       have f18_0 := f18_0.mono hle
       have hc31 := hc31.mono hle
       have hc34 := hc34.mono hle
       have f36_0 := f36_0.mono hle
       have hc41 := hc41.mono hle
       have hc49 := hc49.mono hle
       have hc54 := hc54.mono hle
       have hc59 := hc59.mono hle
       refine ST (Ex.idxAt ha49 Tryz.underlying55 Tryz.sizeOf9 rfl rfl) rfl ?_
       exact WR.nil (kk _ _ H (Mem.le.refl _))
      ·
       have hg_maxl := hg_maxl.mono hle
       have f18_0 := f18_0.mono hle
       have hc31 := hc31.mono hle
       have hc34 := hc34.mono hle
       have f36_0 := f36_0.mono hle
       have hc41 := hc41.mono hle
       have hc49 := hc49.mono hle
       have hc54 := hc54.mono hle
       have hc59 := hc59.mono hle
       refine ST (Ex.loadM H rfl hc49 Tryz.isAgg9) rfl ?_
       exact WR.nil (kk _ _ H (Mem.le.refl _))
      ·
       have hg_maxl := hg_maxl.mono hle
       have f18_0 := f18_0.mono hle
       have hc31 := hc31.mono hle
       have hc34 := hc34.mono hle
       have f36_0 := f36_0.mono hle
       have hc41 := hc41.mono hle
       have hc49 := hc49.mono hle
       have hc54 := hc54.mono hle
       have hc59 := hc59.mono hle
       refine ST (Ex.lenStr Tryz.underlying9 rfl) rfl ?_
       exact WR.nil (kk _ _ H (Mem.le.refl _))
      ·
       have hg_maxl := hg_maxl.mono hle
       have f18_0 := f18_0.mono hle
       have hc31 := hc31.mono hle
       have hc34 := hc34.mono hle
       have f36_0 := f36_0.mono hle
       have hc41 := hc41.mono hle
       have hc49 := hc49.mono hle
       have hc54 := hc54.mono hle
       have hc59 := hc59.mono hle
       refine ST (Ex.addC rfl rfl hxn32) rfl ?_
       exact WR.nil (kk _ _ H (Mem.le.refl _))
      ·
       have hg_maxl := hg_maxl.mono hle
       have f18_0 := f18_0.mono hle
       have hc31 := hc31.mono hle
       have hc34 := hc34.mono hle
       have f36_0 := f36_0.mono hle
       have hc41 := hc41.mono hle
       have hc49 := hc49.mono hle
       have hc54 := hc54.mono hle
       have hc59 := hc59.mono hle
       refine MV rfl rfl ?_
       exact WR.nil (kk _ _ H (Mem.le.refl _))
      ·
       have hg_maxl := hg_maxl.mono hle
       have f18_0 := f18_0.mono hle
       have hc31 := hc31.mono hle
       have hc34 := hc34.mono hle
       have f36_0 := f36_0.mono hle
       have hc41 := hc41.mono hle
       have hc49 := hc49.mono hle
       have hc54 := hc54.mono hle
       have hc59 := hc59.mono hle
       refine ST (Ex.idxAt ha54 Tryz.underlying55 Tryz.sizeOf9 rfl rfl) rfl ?_
       exact WR.nil (kk _ _ H (Mem.le.refl _))
      ·
       have hg_maxl := hg_maxl.mono hle
       have f18_0 := f18_0.mono hle
       have hc31 := hc31.mono hle
       have hc34 := hc34.mono hle
       have f36_0 := f36_0.mono hle
       have hc41 := hc41.mono hle
       have hc49 := hc49.mono hle
       have hc54 := hc54.mono hle
       have hc59 := hc59.mono hle
       refine ST (Ex.loadM H rfl hc54 Tryz.isAgg9) rfl ?_
       exact WR.nil (kk _ _ H (Mem.le.refl _))
      ·
       have hg_maxl := hg_maxl.mono hle
       have f18_0 := f18_0.mono hle
       have hc31 := hc31.mono hle
       have hc34 := hc34.mono hle
       have f36_0 := f36_0.mono hle
       have hc41 := hc41.mono hle
       have hc49 := hc49.mono hle
       have hc54 := hc54.mono hle
       have hc59 := hc59.mono hle
       refine ST (Ex.lenStr Tryz.underlying9 rfl) rfl ?_
       exact WR.nil (kk _ _ H (Mem.le.refl _))
      ·
       have hg_maxl := hg_maxl.mono hle
       have f18_0 := f18_0.mono hle
       have hc31 := hc31.mono hle
       have hc34 := hc34.mono hle
       have f36_0 := f36_0.mono hle
       have hc41 := hc41.mono hle
       have hc49 := hc49.mono hle
       have hc54 := hc54.mono hle
       have hc59 := hc59.mono hle
       refine ST (Ex.addC rfl rfl hxn34) rfl ?_
       exact WR.nil (kk _ _ H (Mem.le.refl _))
      ·
       have hg_maxl := hg_maxl.mono hle
       have f18_0 := f18_0.mono hle
       have hc31 := hc31.mono hle
       have hc34 := hc34.mono hle
       have f36_0 := f36_0.mono hle
       have hc41 := hc41.mono hle
       have hc49 := hc49.mono hle
       have hc54 := hc54.mono hle
       have hc59 := hc59.mono hle
       refine MV rfl rfl ?_
       exact WR.nil (kk _ _ H (Mem.le.refl _))
      ·
       have hg_maxl := hg_maxl.mono hle
       have f18_0 := f18_0.mono hle
       have hc31 := hc31.mono hle
       have hc34 := hc34.mono hle
       have f36_0 := f36_0.mono hle
       have hc41 := hc41.mono hle
       have hc49 := hc49.mono hle
       have hc54 := hc54.mono hle
       have hc59 := hc59.mono hle
       refine ST (Ex.idxAt ha59 Tryz.underlying55 Tryz.sizeOf9 rfl rfl) rfl ?_
       exact WR.nil (kk _ _ H (Mem.le.refl _))
      ·
       have hg_maxl := hg_maxl.mono hle
       have f18_0 := f18_0.mono hle
       have hc31 := hc31.mono hle
       have hc34 := hc34.mono hle
       have f36_0 := f36_0.mono hle
       have hc41 := hc41.mono hle
       have hc49 := hc49.mono hle
       have hc54 := hc54.mono hle
       have hc59 := hc59.mono hle
       refine ST (Ex.loadM H rfl hc59 Tryz.isAgg9) rfl ?_
       exact WR.nil (kk _ _ H (Mem.le.refl _))
      ·
       have hg_maxl := hg_maxl.mono hle
       have f18_0 := f18_0.mono hle
       have hc31 := hc31.mono hle
       have hc34 := hc34.mono hle
       have f36_0 := f36_0.mono hle
       have hc41 := hc41.mono hle
       have hc49 := hc49.mono hle
       have hc54 := hc54.mono hle
       have hc59 := hc59.mono hle
       refine ST (Ex.lenStr Tryz.underlying9 rfl) rfl ?_
       exact WR.nil (kk _ _ H (Mem.le.refl _))
      ·
       have hg_maxl := hg_maxl.mono hle
       have f18_0 := f18_0.mono hle
       have hc31 := hc31.mono hle
       have hc34 := hc34.mono hle
       have f36_0 := f36_0.mono hle
       have hc41 := hc41.mono hle
       have hc49 := hc49.mono hle
       have hc54 := hc54.mono hle
       have hc59 := hc59.mono hle
       refine ST (Ex.addC rfl rfl hxn36) rfl ?_
       exact WR.nil (kk _ _ H (Mem.le.refl _))
      ·
       have hg_maxl := hg_maxl.mono hle
       have f18_0 := f18_0.mono hle
       have hc31 := hc31.mono hle
       have hc34 := hc34.mono hle
       have f36_0 := f36_0.mono hle
       have hc41 := hc41.mono hle
       have hc49 := hc49.mono hle
       have hc54 := hc54.mono hle
       have hc59 := hc59.mono hle
       refine ST (Ex.addC rfl rfl hxn37) rfl ?_
       exact WR.nil (kk _ _ H (Mem.le.refl _))
      ·
       have hg_maxl := hg_maxl.mono hle
       have f18_0 := f18_0.mono hle
       have hc31 := hc31.mono hle
       have hc34 := hc34.mono hle
       have f36_0 := f36_0.mono hle
       have hc41 := hc41.mono hle
       have hc49 := hc49.mono hle
       have hc54 := hc54.mono hle
       have hc59 := hc59.mono hle
       refine MV rfl rfl ?_
       exact WR.nil (kk _ _ H (Mem.le.refl _))
      ·
       have hg_maxl := hg_maxl.mono hle
       have f18_0 := f18_0.mono hle
       have hc31 := hc31.mono hle
       have hc34 := hc34.mono hle
       have f36_0 := f36_0.mono hle
       have hc41 := hc41.mono hle
       have hc49 := hc49.mono hle
       have hc54 := hc54.mono hle
       have hc59 := hc59.mono hle
       refine MV rfl rfl ?_
       exact WR.nil (kk _ _ H (Mem.le.refl _))
      ·
       have hg_maxl := hg_maxl.mono hle
       have f18_0 := f18_0.mono hle
       have hc31 := hc31.mono hle
       have hc34 := hc34.mono hle
       have f36_0 := f36_0.mono hle
       have hc41 := hc41.mono hle
       have hc49 := hc49.mono hle
       have hc54 := hc54.mono hle
       have hc59 := hc59.mono hle
       refine SG (Ex.loadAgg H rfl (by repeat first | exact kMh | apply kMt) Tryz.isAgg27 Tryz.sizeOf27 (by rfl)) rfl rfl rfl ?_
       exact WR.nil (kk _ _ H (Mem.le.refl _))
      ·
       have hg_maxl := hg_maxl.mono hle
       have f18_0 := f18_0.mono hle
       have hc31 := hc31.mono hle
       have hc34 := hc34.mono hle
       have f36_0 := f36_0.mono hle
       have hc41 := hc41.mono hle
       have hc49 := hc49.mono hle
       have hc54 := hc54.mono hle
       have hc59 := hc59.mono hle
       refine WR.call H (Y1O hx39) rfl trivial (Wn.some rfl rfl rfl) rfl ?_
       intro v67 M w H hle hR
       replace hg_maxl := hg_maxl.mono hle
       replace f18_0 := f18_0.mono hle
       replace hc31 := hc31.mono hle
       replace hc34 := hc34.mono hle
       replace f36_0 := f36_0.mono hle
       replace hc41 := hc41.mono hle
       replace hc49 := hc49.mono hle
       replace hc54 := hc54.mono hle
       replace hc59 := hc59.mono hle
       obtain rfl := hR
       exact WR.nil (kk _ _ H hle)
      ·
       have hg_maxl := hg_maxl.mono hle
       have f18_0 := f18_0.mono hle
       have hc31 := hc31.mono hle
       have hc34 := hc34.mono hle
       have f36_0 := f36_0.mono hle
       have hc41 := hc41.mono hle
       have hc49 := hc49.mono hle
       have hc54 := hc54.mono hle
       have hc59 := hc59.mono hle
       refine SG (Ex.not rfl) rfl rfl rfl ?_
       exact WR.nil (kk _ _ H (Mem.le.refl _))
      ·
       have hg_maxl := hg_maxl.mono hle
       have f18_0 := f18_0.mono hle
       have hc31 := hc31.mono hle
       have hc34 := hc34.mono hle
       have f36_0 := f36_0.mono hle
       have hc41 := hc41.mono hle
       have hc49 := hc49.mono hle
       have hc54 := hc54.mono hle
       have hc59 := hc59.mono hle
       refine PT rfl rfl rfl ?_
       exact WR.nil (kk _ _ H (Mem.le.refl _))
      ·
       have hg_maxl := hg_maxl.mono hle
       have f18_0 := f18_0.mono hle
       have hc31 := hc31.mono hle
       have hc34 := hc34.mono hle
       have f36_0 := f36_0.mono hle
       have hc41 := hc41.mono hle
       have hc49 := hc49.mono hle
       have hc54 := hc54.mono hle
       have hc59 := hc59.mono hle
       refine AS rfl rfl ?_
       exact WR.nil (kk _ _ H (Mem.le.refl _))
      ·
       have hg_maxl := hg_maxl.mono hle
       have f18_0 := f18_0.mono hle
       have hc31 := hc31.mono hle
       have hc34 := hc34.mono hle
       have f36_0 := f36_0.mono hle
       have hc41 := hc41.mono hle
       have hc49 := hc49.mono hle
       have hc54 := hc54.mono hle
       have hc59 := hc59.mono hle
       refine AS rfl rfl ?_
       exact WR.nil (kk _ _ H (Mem.le.refl _))
      ·
       have hg_maxl := hg_maxl.mono hle
       have f18_0 := f18_0.mono hle
       have hc31 := hc31.mono hle
       have hc34 := hc34.mono hle
       have f36_0 := f36_0.mono hle
       have hc41 := hc41.mono hle
       have hc49 := hc49.mono hle
       have hc54 := hc54.mono hle
       have hc59 := hc59.mono hle
       refine AS rfl rfl ?_
       exact WR.nil (kk _ _ H (Mem.le.refl _))
      ·
       intro w M H hle
       replace hg_maxl := hg_maxl.mono hle
       replace f18_0 := f18_0.mono hle
       replace hc31 := hc31.mono hle
       replace hc34 := hc34.mono hle
       replace f36_0 := f36_0.mono hle
       replace hc41 := hc41.mono hle
       replace hc49 := hc49.mono hle
       replace hc54 := hc54.mono hle
       replace hc59 := hc59.mono hle
       refine WA.done (by kernel_rfl) ?_
       exact WQ.meetN [(2, _), (3, _), (4, _)] ⟨rfl, rfl, rfl, trivial⟩ ⟨_, _, _, _, rfl, (H.pick (L' := []) (by repeat first | exact kPn | refine kPc (by repeat first | exact .head | apply Rem.tail) ?_)), hg_maxl, e27⟩
    ·
     rintro e w ⟨s28, n29, b30, M, rfl, H, hg_maxl, q40⟩
     obtain rfl := oI q40
     try dsimp only at h
     refine TN (RT ?_)
     obtain rfl := oI h
     exact WQ.ret3 rfl rfl rfl rfl H.ext rfl
theorem Y32 {p0 : List UInt8} {p1 : UInt8} {bp0 : Nat} {pp0 : Value} {vp0 : Value} {r : (Bool × List UInt8)} (h : Y0m p0 p1 = some r) : CtX Tryz.prog 157 [ptr bp0 0, encB p1] [.blk bp0 (.cells #[pp0, vp0] 96), RowI 5 encB vp0 p0] (fun M => BPM M bp0 pp0) (fun v M its => ∃ x0 qp0 up0, v = x0 ∧ NilB M x0 r.1 ∧ BPM M bp0 qp0 ∧ its = [.blk bp0 (.cells #[qp0, up0] 96), RowI 5 encB up0 r.2]) := by
 refine CtX.of Tryz.func157 (enters Tryz.func157 (by kernel_rfl) rfl) rfl rfl rfl ?_
 intro w0 M0 H hp
 have hp0 := hp
 unfold Y0m at h
 refine SQ (RG (AS rfl rfl (NL (TN (SQ (RG (MV rfl rfl ?_)))))))
 refine WR.callX (A := [.blk bp0 (.cells #[pp0, vp0] 96)]) (B := [RowI 5 encB vp0 p0]) (H.pick (L' := [.blk bp0 (.cells #[pp0, vp0] 96), RowI 5 encB vp0 p0]) (by repeat first | exact kPn | refine kPc (by repeat first | exact .head | apply Rem.tail) ?_)) (copyCheck_ct hp0) (.left (Spl.all _)) rfl trivial (Wn.none rfl) rfl ?_
 intro v6 M w its H hle hR
 replace hp0 := hp0.mono hle
 obtain ⟨rfl, rfl⟩ := hR
 simp only [List.cons_append, List.nil_append] at H
 refine NL (TN (SQ ?_))
 obtain ⟨l2, hxl2, h⟩ := bnd h
 refine RG (MV rfl rfl (MV rfl rfl (ST (Ex.nilCheckP rfl) rfl (ST (Ex.fieldAddr Tryz.underlying96 rfl Tryz.sizeOf88 (by decide) rfl) rfl (ST (Ex.load1 H rfl (by repeat first | exact kMh | apply kMt) Tryz.isAgg88 (by rfl)) rfl ?_)))))
 refine MV rfl rfl (WR.lit (enc := encB) xty88 ([p1] : List UInt8) H rfl (by rfl) (fun _ => rfl) rfl rfl (Wn.none rfl) rfl ?_)
 intro v13 M w H hle hs13
 refine WR.appC (l := p0) xty88 rfl (fun _ => rfl) H rfl (fun _ => by repeat first | exact .head | apply Upd.tail) rfl (hs13) hxl2 (Wn.none rfl) rfl ?_
 intro v14 w H
 refine ST (Ex.nilCheckP rfl) rfl (ST (Ex.fieldAddr Tryz.underlying96 rfl Tryz.sizeOf88 (by decide) rfl) rfl (WR.putV [_, _] H rfl rfl (H.rowOne (by repeat first | exact kMh | apply kMt)) (by repeat first | exact .head | apply Upd.tail) (by rfl) Tryz.sizeOf88 (by first | decide | (simp; done) | (simp; omega)) (Wn.none rfl) ?_))
 intro w H
 refine NL (TN (SQ (RG (AS rfl rfl (NL (TN (RT ?_)))))))
 obtain rfl := oI h
 exact WQ.retX1 (its := [.blk bp0 (.cells #[(ptr bp0 0), v14] 96), RowI 5 encB v14 l2]) rfl rfl H (by repeat first | exact kPn | refine kPc (by repeat first | exact .head | apply Rem.tail) ?_) ⟨_, _, _, rfl, (.inl ⟨rfl, rfl⟩), BPM.self, rfl⟩
theorem Y1c {p0 : List UInt8} {p1 : List UInt8} {bp0 : Nat} {pp0 : Value} {vp0 : Value} {r : (Int × Bool × List UInt8)} (h : Y08 p0 p1 = some r) : CtX Tryz.prog 75 [ptr bp0 0, S p1] [.blk bp0 (.cells #[pp0, vp0] 96), RowI 5 encB vp0 p0] (fun M => BPM M bp0 pp0) (fun v M its => ∃ x1 qp0 up0, v = Value.tuple #[I r.1, x1] ∧ NilB M x1 r.2.1 ∧ BPM M bp0 qp0 ∧ its = [.blk bp0 (.cells #[qp0, up0] 96), RowI 5 encB up0 r.2.2]) := by
 refine CtX.of Tryz.func75 (enters Tryz.func75 (by kernel_rfl) rfl) rfl rfl rfl ?_
 intro w0 M0 H hp
 have hp0 := hp
 unfold Y08 at h
 refine SQ (RG (AS rfl rfl (AS rfl rfl (NL (TN (SQ (RG (MV rfl rfl ?_))))))))
 refine WR.callX (A := [.blk bp0 (.cells #[pp0, vp0] 96)]) (B := [RowI 5 encB vp0 p0]) (H.pick (L' := [.blk bp0 (.cells #[pp0, vp0] 96), RowI 5 encB vp0 p0]) (by repeat first | exact kPn | refine kPc (by repeat first | exact .head | apply Rem.tail) ?_)) (copyCheck_ct hp0) (.left (Spl.all _)) rfl trivial (Wn.none rfl) rfl ?_
 intro v7 M w its H hle hR
 replace hp0 := hp0.mono hle
 obtain ⟨rfl, rfl⟩ := hR
 simp only [List.cons_append, List.nil_append] at H
 refine NL (TN (SQ ?_))
 obtain ⟨l2, hxl2, h⟩ := bnd h
 refine RG (MV rfl rfl (MV rfl rfl (ST (Ex.nilCheckP rfl) rfl (ST (Ex.fieldAddr Tryz.underlying96 rfl Tryz.sizeOf88 (by decide) rfl) rfl (ST (Ex.load1 H rfl (by repeat first | exact kMh | apply kMt) Tryz.isAgg88 (by rfl)) rfl ?_)))))
 refine MV rfl rfl (WR.appStrC (l := p0) xty88 Tryz.underlying9 H rfl (fun _ => by repeat first | exact .head | apply Upd.tail) rfl hxl2 (Wn.none rfl) rfl ?_)
 intro v14 w H
 refine ST (Ex.nilCheckP rfl) rfl (ST (Ex.fieldAddr Tryz.underlying96 rfl Tryz.sizeOf88 (by decide) rfl) rfl (WR.putV [_, _] H rfl rfl (H.rowOne (by repeat first | exact kMh | apply kMt)) (by repeat first | exact .head | apply Upd.tail) (by rfl) Tryz.sizeOf88 (by first | decide | (simp; done) | (simp; omega)) (Wn.none rfl) ?_))
 intro w H
 refine NL (TN (SQ (RG (MV rfl rfl (ST (Ex.lenStr Tryz.underlying9 rfl) rfl (AS rfl rfl (AS rfl rfl (NL (TN (RT ?_))))))))))
 obtain rfl := oI h
 exact WQ.retX2 (its := [.blk bp0 (.cells #[(ptr bp0 0), v14] 96), RowI 5 encB v14 l2]) rfl rfl rfl H (by repeat first | exact kPn | refine kPc (by repeat first | exact .head | apply Rem.tail) ?_) ⟨_, _, _, rfl, (.inl ⟨rfl, rfl⟩), BPM.self, rfl⟩
theorem Y3n {p0 : List UInt8} {bp0 : Nat} {pp0 : Value} {vp0 : Value} {r : List UInt8} (h : Y1v p0 = some r) : CtX Tryz.prog 76 [ptr bp0 0] [.blk bp0 (.cells #[pp0, vp0] 96), RowI 5 encB vp0 p0] (fun M => BPM M bp0 pp0) (fun v M its => v = S r ∧ its = []) := by
 refine CtX.of Tryz.func76 (enters Tryz.func76 (by kernel_rfl) rfl) rfl rfl rfl ?_
 intro w0 M0 H hp
 have hp0 := hp
 unfold Y1v at h
 refine SQ (RG (AS rfl rfl (NL (TN (SQ ?_)))))
 refine WC.cutP (fun e w => ∃  (M : Mem), e = [(2, S p0)] ∧ StX (feet [.blk bp0 (.cells #[pp0, vp0] 96), RowI 5 encB vp0 p0]) w0 M0 M [.blk bp0 (.cells #[pp0, vp0] 96)] w) ?_ ?_
 ·
  refine WC.draw (m := 12) rfl rfl H ?_
  intro w H
  refine WA.take (i := 0) rfl (by kernel_rfl) (by kernel_rfl) (by kernel_rfl) (fun _ => Ex.move rfl) (Wn.none rfl) rfl rfl (fun _ _ => rfl) (WA.take (i := 1) rfl (by kernel_rfl) (by kernel_rfl) (by kernel_rfl) (fun _ => Ex.nilCheckP rfl) (Wn.none rfl) rfl rfl (fun _ _ => rfl) (WA.take (i := 2) rfl (by kernel_rfl) (by kernel_rfl) (by kernel_rfl) (fun _ => Ex.fieldAddr Tryz.underlying96 rfl Tryz.sizeOf88 (by decide) rfl) (Wn.none rfl) rfl rfl (fun _ _ => rfl) (WA.take (i := 5) rfl (by kernel_rfl) (by kernel_rfl) (by kernel_rfl) (fun _ => Ex.move rfl) (Wn.none rfl) rfl rfl (fun _ _ => rfl) (WA.take (i := 6) rfl (by kernel_rfl) (by kernel_rfl) (by kernel_rfl) (fun _ => Ex.nilCheckP rfl) (Wn.none rfl) rfl rfl (fun _ _ => rfl) (WA.take (i := 7) rfl (by kernel_rfl) (by kernel_rfl) (by kernel_rfl) (fun _ => Ex.fieldAddr Tryz.underlying96 rfl Tryz.sizeOf88 (by decide) rfl) (Wn.none rfl) rfl rfl (fun _ _ => rfl) ?_)))))
  refine WA.two (i := 3) (j := 8) (by kernel_rfl) rfl rfl ?_ ?_
  ·
   refine ST (Ex.load1 H rfl (by repeat first | exact kMh | apply kMt) Tryz.isAgg88 (by rfl)) rfl ?_
   refine NA ?_
   refine WA.two (i := 4) (j := 8) (by kernel_rfl) rfl rfl ?_ ?_
   ·
    refine WR.sliceData Tryz.underlying128 H (by repeat first | exact kMh | apply kMt) rfl (Wn.none rfl) rfl ?_
    intro q7 w H hq7
    refine NA (WA.seq (fuel := 0) [8, 9, 10, 11] rfl (by kernel_rfl) (ST (Ex.load1 H rfl (by repeat first | exact kMh | apply kMt) Tryz.isAgg88 (by rfl)) rfl ?_))
    refine ST (Ex.lenRow (l := p0) Tryz.underlying88 H (by repeat first | exact kMh | apply kMt) rfl) rfl ?_
    refine WR.unsafeStr Tryz.underlying128 (by kernel_rfl) H (by repeat first | exact .head | apply Rem.tail) hq7 rfl rfl (Wn.none rfl) rfl ?_
    intro w H
    refine AS rfl rfl (NA (WA.done (by kernel_rfl) ?_))
    exact WQ.meetP [(2, _)] ⟨rfl, trivial⟩ ⟨_, rfl, H⟩
   ·
    refine ST (Ex.load1 H rfl (by repeat first | exact kMh | apply kMt) Tryz.isAgg88 (by rfl)) rfl ?_
    refine NA ?_
    refine WA.two (i := 4) (j := 9) (by kernel_rfl) rfl rfl ?_ ?_
    ·
     refine WR.sliceData Tryz.underlying128 H (by repeat first | exact kMh | apply kMt) rfl (Wn.none rfl) rfl ?_
     intro q7 w H hq7
     refine NA (WA.seq (fuel := 0) [9, 10, 11] rfl (by kernel_rfl) (ST (Ex.lenRow (l := p0) Tryz.underlying88 H (by repeat first | exact kMh | apply kMt) rfl) rfl ?_))
     refine WR.unsafeStr Tryz.underlying128 (by kernel_rfl) H (by repeat first | exact .head | apply Rem.tail) hq7 rfl rfl (Wn.none rfl) rfl ?_
     intro w H
     refine AS rfl rfl (NA (WA.done (by kernel_rfl) ?_))
     exact WQ.meetP [(2, _)] ⟨rfl, trivial⟩ ⟨_, rfl, H⟩
    ·
     refine ST (Ex.lenRow (l := p0) Tryz.underlying88 H (by repeat first | exact kMh | apply kMt) rfl) rfl ?_
     refine NA (WA.seq (fuel := 0) [4, 10, 11] rfl (by kernel_rfl) (WR.sliceData Tryz.underlying128 H (by repeat first | exact kMh | apply kMt) rfl (Wn.none rfl) rfl ?_))
     intro q7 w H hq7
     refine WR.unsafeStr Tryz.underlying128 (by kernel_rfl) H (by repeat first | exact .head | apply Rem.tail) hq7 rfl rfl (Wn.none rfl) rfl ?_
     intro w H
     refine AS rfl rfl (NA (WA.done (by kernel_rfl) ?_))
     exact WQ.meetP [(2, _)] ⟨rfl, trivial⟩ ⟨_, rfl, H⟩
  ·
   refine ST (Ex.load1 H rfl (by repeat first | exact kMh | apply kMt) Tryz.isAgg88 (by rfl)) rfl ?_
   refine NA ?_
   refine WA.two (i := 3) (j := 9) (by kernel_rfl) rfl rfl ?_ ?_
   ·
    refine ST (Ex.load1 H rfl (by repeat first | exact kMh | apply kMt) Tryz.isAgg88 (by rfl)) rfl ?_
    refine NA ?_
    refine WA.two (i := 4) (j := 9) (by kernel_rfl) rfl rfl ?_ ?_
    ·
     refine WR.sliceData Tryz.underlying128 H (by repeat first | exact kMh | apply kMt) rfl (Wn.none rfl) rfl ?_
     intro q7 w H hq7
     refine NA (WA.seq (fuel := 0) [9, 10, 11] rfl (by kernel_rfl) (ST (Ex.lenRow (l := p0) Tryz.underlying88 H (by repeat first | exact kMh | apply kMt) rfl) rfl ?_))
     refine WR.unsafeStr Tryz.underlying128 (by kernel_rfl) H (by repeat first | exact .head | apply Rem.tail) hq7 rfl rfl (Wn.none rfl) rfl ?_
     intro w H
     refine AS rfl rfl (NA (WA.done (by kernel_rfl) ?_))
     exact WQ.meetP [(2, _)] ⟨rfl, trivial⟩ ⟨_, rfl, H⟩
    ·
     refine ST (Ex.lenRow (l := p0) Tryz.underlying88 H (by repeat first | exact kMh | apply kMt) rfl) rfl ?_
     refine NA (WA.seq (fuel := 0) [4, 10, 11] rfl (by kernel_rfl) (WR.sliceData Tryz.underlying128 H (by repeat first | exact kMh | apply kMt) rfl (Wn.none rfl) rfl ?_))
     intro q7 w H hq7
     refine WR.unsafeStr Tryz.underlying128 (by kernel_rfl) H (by repeat first | exact .head | apply Rem.tail) hq7 rfl rfl (Wn.none rfl) rfl ?_
     intro w H
     refine AS rfl rfl (NA (WA.done (by kernel_rfl) ?_))
     exact WQ.meetP [(2, _)] ⟨rfl, trivial⟩ ⟨_, rfl, H⟩
   ·
    refine ST (Ex.lenRow (l := p0) Tryz.underlying88 H (by repeat first | exact kMh | apply kMt) rfl) rfl ?_
    refine NA (WA.seq (fuel := 0) [3, 4, 10, 11] rfl (by kernel_rfl) (ST (Ex.load1 H rfl (by repeat first | exact kMh | apply kMt) Tryz.isAgg88 (by rfl)) rfl ?_))
    refine WR.sliceData Tryz.underlying128 H (by repeat first | exact kMh | apply kMt) rfl (Wn.none rfl) rfl ?_
    intro q7 w H hq7
    refine WR.unsafeStr Tryz.underlying128 (by kernel_rfl) H (by repeat first | exact .head | apply Rem.tail) hq7 rfl rfl (Wn.none rfl) rfl ?_
    intro w H
    refine AS rfl rfl (NA (WA.done (by kernel_rfl) ?_))
    exact WQ.meetP [(2, _)] ⟨rfl, trivial⟩ ⟨_, rfl, H⟩
 ·
  rintro e w ⟨M, rfl, H⟩
  refine TN (RT ?_)
  obtain rfl := oI h
  exact WQ.retX1 (its := []) rfl rfl H (by repeat first | exact kPn | refine kPc (by repeat first | exact .head | apply Rem.tail) ?_) ⟨rfl, rfl⟩
theorem Y4q {p0 : List UInt8} {r : (List UInt8 × (Int × Int))} (h : Y1a p0 = some r) : Ct Tryz.prog 125 [S p0] (fun M => GlF (fun w => ∃ m, w.cell? ⟨2, 0, none⟩ = some (.int .i64 m)) M) (fun v M => v = Value.tuple #[S r.1, Value.agg #[I r.2.1, I r.2.2]]) := by
 refine Ct.of Tryz.func125 (enters Tryz.func125 (by kernel_rfl) rfl) rfl rfl rfl ?_
 intro w0 M0 H hp
 have hg_maxl := hp
 unfold Y1a at h
 refine SQ (RG (AS rfl rfl (WR.alloc [_, _] H Tryz.zeroValue27 rfl (Wn.none rfl) rfl ?_)))
 intro bk3 w H
 refine NL (TN (SQ (SQ (RG (MV rfl rfl (ST (Ex.lenStr Tryz.underlying9 rfl) rfl (ST (Ex.gtr rfl rfl) rfl (NL (TN ?_)))))))))
 refine WC.condB rfl (fun hk1 => ?_) (fun hk1 => ?_)
 ·
  replace hk1 : (4000 : Int) < (p0.length : Int) := of_decide_eq_true hk1
  rw [if_pos hk1] at h
  refine SQ ?_
  obtain ⟨⟨n2, n3⟩, hx4, h⟩ := bnd h
  try dsimp only at h
  refine RG (WR.call H (Y0D hx4) rfl trivial (Wn.none rfl) rfl ?_)
  intro v13 M w H hle hR
  replace hg_maxl := hg_maxl.mono hle
  try dsimp only at hR
  obtain rfl := hR
  refine AS rfl rfl (WR.store [_, _] H rfl rfl rfl (by repeat first | exact .head | apply Upd.tail) Tryz.sizeOf27 rfl (by rfl) (by rfl) (Wn.none rfl) ?_)
  intro w H
  refine NL (TN (RT ?_))
  obtain rfl := oI h
  exact WQ.ret2 rfl rfl ⟨_, rfl, H.loadAgg (by repeat first | exact kMh | apply kMt) Tryz.isAgg27 Tryz.sizeOf27 (by rfl)⟩ H.ext rfl
 ·
  replace hk1 : ¬ ((4000 : Int) < (p0.length : Int)) := of_decide_eq_false hk1
  rw [if_neg hk1] at h
  refine SK (TN (SQ (RG (WR.alloc [_, _] H Tryz.zeroValue96 rfl (Wn.none rfl) rfl ?_))))
  intro bk4 w H
  refine NL (TN (SQ (RG (AS rfl rfl (NL (TN (SQ (SQ (RG (AS rfl rfl (NL (TN ?_))))))))))))
  obtain ⟨o5, e6, h⟩ := bnd h
  refine WC.cutX (fun e w => ∃ (v7 : Value) (l10 : List UInt8) (v11 : Value) (n12 : Int) (M : Mem), e = [(0, S p0), (3, ptr bk3 0), (4, ptr bk4 0), (5, I n12)] ∧ St w0 M0 M [.blk bk3 (.cells #[I 0, I 0] 27), .blk bk4 (.cells #[v7, v11] 96), RowI 5 encB v11 l10] w ∧ GlF (fun w => ∃ m, w.cell? ⟨2, 0, none⟩ = some (.int .i64 m)) M ∧ BPM M bk4 v7 ∧ some (l10, n12) = some o5) [] ?_ ?_ (trivial)
  ·
   refine BL ?_
   replace H := H.newRow 5 encB
   refine WC.loopP (fun m e w => ∃ (v13 : Value) (l16 : List UInt8) (v17 : Value) (n18 : Int) (n19 : Int) (M : Mem), e = [(0, S p0), (3, ptr bk3 0), (4, ptr bk4 0), (5, I n18), (6, I n19)] ∧ St w0 M0 M [.blk bk3 (.cells #[I 0, I 0] 27), .blk bk4 (.cells #[v13, v17] 96), RowI 5 encB v17 l16] w ∧ GlF (fun w => ∃ m, w.cell? ⟨2, 0, none⟩ = some (.int .i64 m)) M ∧ BPM M bk4 v13 ∧ Y04 p0 m l16 n18 n19 = some o5) FU [(0, _), (3, _), (4, _), (5, _), (6, _)] ⟨rfl, rfl, rfl, rfl, rfl, trivial⟩ ⟨_, _, _, _, _, _, rfl, (H.pick (L' := [.blk bk3 (.cells #[I 0, I 0] 27), .blk bk4 (.cells #[(Value.pointer none), (Value.slice none 0 0)] 96), RowI 5 encB (Value.slice none 0 0) []]) (by repeat first | exact kPn | refine kPc (by repeat first | exact .head | apply Rem.tail) ?_)), hg_maxl, BPM.nil, e6⟩ ?_
   rintro m20 e w ⟨v13, l16, v17, n18, n19, M, rfl, H, hg_maxl, hs14, e6⟩
   rcases m20 with _ | m20
   · rw [Y04] at e6; cases e6
   rw [Y04] at e6
   refine SQ (SQ (RG (MV rfl rfl (MV rfl rfl (ST (Ex.lenStr Tryz.underlying9 rfl) rfl (ST (Ex.lss rfl rfl) rfl (NL (TN ?_))))))))
   refine WC.condB rfl (fun hk22 => ?_) (fun hk22 => ?_)
   ·
    replace hk22 : n19 < (p0.length : Int) := of_decide_eq_true hk22
    rw [if_pos hk22] at e6
    refine SK (TN (BL (SQ ?_)))
    obtain ⟨s23, hxs23, e6⟩ := bnd e6
    obtain ⟨⟨s24, n25, b26⟩, hx27, e6⟩ := bnd e6
    try dsimp only at e6
    refine RG (MV rfl rfl (MV rfl rfl (ST (Ex.sliceL Tryz.underlying9 rfl rfl hxs23) rfl (WR.call H (Y4C hx27) rfl (hg_maxl) (Wn.none rfl) rfl ?_))))
    intro v22 M w H hle hR
    replace hg_maxl := hg_maxl.mono hle
    replace hs14 := hs14.mono hle
    try dsimp only at hR
    obtain rfl := hR
    refine MV rfl rfl (ST (Ex.extract rfl rfl) rfl (ST (Ex.extract rfl rfl) rfl (ST (Ex.extract rfl rfl) rfl (AS rfl rfl (AS rfl rfl (AS rfl rfl (NL (TN (SQ (SQ (RG (MV rfl rfl (ST (Ex.not rfl) rfl (NL (TN ?_)))))))))))))))
    refine WC.condB rfl (fun hk28 => ?_) (fun hk28 => ?_)
    ·
     replace hk28 : b26 = false := by simpa using hk28
     subst hk28
     rw [if_neg Bool.false_ne_true] at e6
     refine SQ (SQ (RG (MV rfl rfl (ST (Ex.lss rfl rfl) rfl (NL (TN ?_))))))
     obtain ⟨o29, e30, e6⟩ := bnd e6
     refine WC.cutX (fun e w => ∃ (v31 : Value) (l34 : List UInt8) (v35 : Value) (M : Mem), e = [(0, S p0), (3, ptr bk3 0), (4, ptr bk4 0), (5, I n18), (6, I n19)] ∧ St w0 M0 M [.blk bk3 (.cells #[I 0, I 0] 27), .blk bk4 (.cells #[v31, v35] 96), RowI 5 encB v35 l34] w ∧ GlF (fun w => ∃ m, w.cell? ⟨2, 0, none⟩ = some (.int .i64 m)) M ∧ BPM M bk4 v31 ∧ some l34 = some o29) [] ?_ ?_ (trivial)
     ·
      refine WC.condB rfl (fun hk36 => ?_) (fun hk36 => ?_)
      ·
       replace hk36 : n18 < (0 : Int) := of_decide_eq_true hk36
       rw [if_pos hk36] at e30
       obtain ⟨c37, hxc37, e30⟩ := bnd e30
       obtain ⟨⟨b38, l39⟩, hx40, e30⟩ := bnd e30
       try dsimp only at e30
       refine RG (MV rfl rfl (MV rfl rfl (ST (Ex.idxStrC Tryz.underlying9 rfl rfl hxc37) rfl ?_)))
       refine WR.callX (A := [.blk bk4 (.cells #[v13, v17] 96), RowI 5 encB v17 l16]) (B := [.blk bk3 (.cells #[I 0, I 0] 27)]) (H.pick (L' := [.blk bk4 (.cells #[v13, v17] 96), RowI 5 encB v17 l16, .blk bk3 (.cells #[I 0, I 0] 27)]) (by repeat first | exact kPn | refine kPc (by repeat first | exact .head | apply Rem.tail) ?_)) (Y32 hx40) (.left (.left (Spl.all _))) rfl (hs14) (Wn.none rfl) rfl ?_
       intro v33 M w its H hle hR
       replace hg_maxl := hg_maxl.mono hle
       replace hs14 := hs14.mono hle
       try dsimp only at hR
       obtain ⟨x33_0, q33_0, u33_0, rfl, f33_0, hq33_0, rfl⟩ := hR
       simp only [List.cons_append, List.nil_append] at H
       refine NL ?_
       exact WQ.meetN [(0, _), (3, _), (4, _), (5, _), (6, _)] ⟨rfl, rfl, rfl, rfl, rfl, trivial⟩ ⟨_, _, _, _, rfl, (H.pick (L' := [.blk bk3 (.cells #[I 0, I 0] 27), .blk bk4 (.cells #[q33_0, u33_0] 96), RowI 5 encB u33_0 l39]) (by repeat first | exact kPn | refine kPc (by repeat first | exact .head | apply Rem.tail) ?_)), hg_maxl, hq33_0, e30⟩
      ·
       replace hk36 : ¬ (n18 < (0 : Int)) := of_decide_eq_false hk36
       rw [if_neg hk36] at e30
       refine SK ?_
       exact WQ.meetN [(0, _), (3, _), (4, _), (5, _), (6, _)] ⟨rfl, rfl, rfl, rfl, rfl, trivial⟩ ⟨_, _, _, _, rfl, H, hg_maxl, hs14, e30⟩
     ·
      rintro e w ⟨v31, l34, v35, M, rfl, H, hg_maxl, hs32, q41⟩
      obtain rfl := oI q41
      refine TN (SQ (SQ ?_))
      obtain ⟨o42, e43, e6⟩ := bnd e6
      refine WC.cutX (fun e w => ∃ (b44 : Bool) (M : Mem), e = [(0, S p0), (3, ptr bk3 0), (4, ptr bk4 0), (5, I n18), (6, I n19), (42, Value.bool b44)] ∧ St w0 M0 M [.blk bk3 (.cells #[I 0, I 0] 27), .blk bk4 (.cells #[v31, v35] 96), RowI 5 encB v35 l34] w ∧ GlF (fun w => ∃ m, w.cell? ⟨2, 0, none⟩ = some (.int .i64 m)) M ∧ BPM M bk4 v31 ∧ some b44 = some o42) [] ?_ ?_ (trivial)
      ·
       by_cases hk45 : (0 : Int) ≤ n18
       ·
        rw [if_pos hk45] at e43
        obtain ⟨c46, hxc46, e43⟩ := bnd e43
        obtain ⟨b47, hx48, e43⟩ := bnd e43
        refine RG (MV rfl rfl (WR.stepE (v' := .bool true) (Ex.geq rfl rfl) (congrArg Value.bool (decide_eq_true hk45)) (Wn.none rfl) rfl rfl (MV rfl rfl (SG (Ex.move rfl) rfl rfl rfl (SG (Ex.move rfl) rfl rfl rfl (SG (Ex.idxStrC Tryz.underlying9 rfl rfl hxc46) rfl rfl rfl (WR.call H (Y3U hx48) rfl trivial (Wn.some rfl rfl rfl) rfl ?_)))))))
        intro v40 M w H hle hR
        replace hg_maxl := hg_maxl.mono hle
        replace hs32 := hs32.mono hle
        obtain rfl := hR
        refine SG (Ex.not rfl) rfl rfl rfl (PT rfl rfl rfl (NL ?_))
        exact WQ.meetN [(0, _), (3, _), (4, _), (5, _), (6, _), (42, _)] ⟨rfl, rfl, rfl, rfl, rfl, rfl, trivial⟩ ⟨_, _, rfl, H, hg_maxl, hs32, e43⟩
       ·
        rw [if_neg hk45] at e43
        refine RG (MV rfl rfl (WR.stepE (v' := .bool false) (Ex.geq rfl rfl) (congrArg Value.bool (decide_eq_false hk45)) (Wn.none rfl) rfl rfl (MV rfl rfl (WR.skipN 5 rfl rfl (PF rfl rfl rfl (NL ?_))))))
        exact WQ.meetN [(0, _), (3, _), (4, _), (5, _), (6, _), (42, _)] ⟨rfl, rfl, rfl, rfl, rfl, rfl, trivial⟩ ⟨_, _, rfl, H, hg_maxl, hs32, e43⟩
      ·
       rintro e w ⟨b44, M, rfl, H, hg_maxl, hs32, q49⟩
       obtain rfl := oI q49
       refine TN ?_
       obtain ⟨o50, e51, e6⟩ := bnd e6
       refine WC.cutX (fun e w => ∃ (v52 : Value) (l55 : List UInt8) (v56 : Value) (n57 : Int) (M : Mem), e = [(0, S p0), (3, ptr bk3 0), (4, ptr bk4 0), (5, I n57), (6, I n19)] ∧ St w0 M0 M [.blk bk3 (.cells #[I 0, I 0] 27), .blk bk4 (.cells #[v52, v56] 96), RowI 5 encB v56 l55] w ∧ GlF (fun w => ∃ m, w.cell? ⟨2, 0, none⟩ = some (.int .i64 m)) M ∧ BPM M bk4 v52 ∧ some (l55, n57) = some o50) [] ?_ ?_ (trivial)
       ·
        refine WC.condB rfl (fun hk58 => ?_) (fun hk58 => ?_)
        ·
         subst hk58
         rw [if_pos rfl] at e51
         refine SQ ?_
         obtain ⟨n59, hxn59, e51⟩ := bnd e51
         obtain ⟨s60, hxs60, e51⟩ := bnd e51
         obtain ⟨⟨n61, b62, l63⟩, hx64, e51⟩ := bnd e51
         try dsimp only at e51
         refine RG (MV rfl rfl (MV rfl rfl (MV rfl rfl (ST (Ex.addC rfl rfl hxn59) rfl (ST (Ex.sliceC Tryz.underlying9 rfl rfl rfl hxs60) rfl ?_)))))
         refine WR.callX (A := [.blk bk4 (.cells #[v31, v35] 96), RowI 5 encB v35 l34]) (B := [.blk bk3 (.cells #[I 0, I 0] 27)]) (H.pick (L' := [.blk bk4 (.cells #[v31, v35] 96), RowI 5 encB v35 l34, .blk bk3 (.cells #[I 0, I 0] 27)]) (by repeat first | exact kPn | refine kPc (by repeat first | exact .head | apply Rem.tail) ?_)) (Y1c hx64) (.left (.left (Spl.all _))) rfl (hs32) (Wn.none rfl) rfl ?_
         intro v48 M w its H hle hR
         replace hg_maxl := hg_maxl.mono hle
         replace hs32 := hs32.mono hle
         try dsimp only at hR
         obtain ⟨x48_1, q48_0, u48_0, rfl, f48_1, hq48_0, rfl⟩ := hR
         simp only [List.cons_append, List.nil_append] at H
         refine NL (TN (RG (AS rfl rfl (NL ?_))))
         exact WQ.meetN [(0, _), (3, _), (4, _), (5, _), (6, _)] ⟨rfl, rfl, rfl, rfl, rfl, trivial⟩ ⟨_, _, _, _, _, rfl, (H.pick (L' := [.blk bk3 (.cells #[I 0, I 0] 27), .blk bk4 (.cells #[q48_0, u48_0] 96), RowI 5 encB u48_0 l63]) (by repeat first | exact kPn | refine kPc (by repeat first | exact .head | apply Rem.tail) ?_)), hg_maxl, hq48_0, e51⟩
        ·
         subst hk58
         rw [if_neg Bool.false_ne_true] at e51
         refine SK ?_
         exact WQ.meetN [(0, _), (3, _), (4, _), (5, _), (6, _)] ⟨rfl, rfl, rfl, rfl, rfl, trivial⟩ ⟨_, _, _, _, _, rfl, H, hg_maxl, hs32, e51⟩
       ·
        rintro e w ⟨v52, l55, v56, n57, M, rfl, H, hg_maxl, hs53, q65⟩
        obtain rfl := oI q65
        try dsimp only at e6
        refine TN (SQ ?_)
        obtain ⟨n66, hxn66, e6⟩ := bnd e6
        refine RG (MV rfl rfl (ST (Ex.addC rfl rfl hxn66) rfl (AS rfl rfl (NL (TN (WC.exit (WQ.thenExit (WQ.exitHere ?_))))))))
        exact WQ.againP m20 [(0, _), (3, _), (4, _), (5, _), (6, _)] ⟨rfl, rfl, rfl, rfl, rfl, trivial⟩ ⟨_, _, _, _, _, _, rfl, H, hg_maxl, hs53, e6⟩ (Nat.lt_succ_self _)
    ·
     replace hk28 : b26 = true := by simpa using hk28
     subst hk28
     rw [if_pos rfl] at e6
     refine SK (TN (SQ ?_))
     obtain ⟨⟨n67, b68, l69⟩, hx70, e6⟩ := bnd e6
     try dsimp only at e6
     refine RG (MV rfl rfl ?_)
     refine WR.callX (A := [.blk bk4 (.cells #[v13, v17] 96), RowI 5 encB v17 l16]) (B := [.blk bk3 (.cells #[I 0, I 0] 27)]) (H.pick (L' := [.blk bk4 (.cells #[v13, v17] 96), RowI 5 encB v17 l16, .blk bk3 (.cells #[I 0, I 0] 27)]) (by repeat first | exact kPn | refine kPc (by repeat first | exact .head | apply Rem.tail) ?_)) (Y1c hx70) (.left (.left (Spl.all _))) rfl (hs14) (Wn.none rfl) rfl ?_
     intro v52 M w its H hle hR
     replace hg_maxl := hg_maxl.mono hle
     replace hs14 := hs14.mono hle
     try dsimp only at hR
     obtain ⟨x52_1, q52_0, u52_0, rfl, f52_1, hq52_0, rfl⟩ := hR
     simp only [List.cons_append, List.nil_append] at H
     refine NL (TN (SQ ?_))
     obtain ⟨n71, hxn71, e6⟩ := bnd e6
     refine RG (MV rfl rfl (MV rfl rfl (ST (Ex.addC rfl rfl hxn71) rfl (AS rfl rfl (NL (TN (RG (MV rfl rfl (AS rfl rfl (NL (IB ?_)))))))))))
     exact WQ.againP m20 [(0, _), (3, _), (4, _), (5, _), (6, _)] ⟨rfl, rfl, rfl, rfl, rfl, trivial⟩ ⟨_, _, _, _, _, _, rfl, (H.pick (L' := [.blk bk3 (.cells #[I 0, I 0] 27), .blk bk4 (.cells #[q52_0, u52_0] 96), RowI 5 encB u52_0 l69]) (by repeat first | exact kPn | refine kPc (by repeat first | exact .head | apply Rem.tail) ?_)), hg_maxl, hq52_0, e6⟩ (Nat.lt_succ_self _)
   ·
    replace hk22 : ¬ (n19 < (p0.length : Int)) := of_decide_eq_false hk22
    rw [if_neg hk22] at e6
    refine WC.exit (WQ.thenExit (WQ.thenExit (WQ.exitHere ?_)))
    exact WQ.meetN [(0, _), (3, _), (4, _), (5, _)] ⟨rfl, rfl, rfl, rfl, trivial⟩ ⟨_, _, _, _, _, rfl, H, hg_maxl, hs14, e6⟩
  ·
   rintro e w ⟨v7, l10, v11, n12, M, rfl, H, hg_maxl, hs8, q72⟩
   obtain rfl := oI q72
   try dsimp only at h
   refine TN (SQ (SQ (RG (MV rfl rfl (ST (Ex.geq rfl rfl) rfl (NL (TN ?_)))))))
   obtain ⟨o73, e74, h⟩ := bnd h
   refine WC.cutX (fun e w => ∃ (v75 : Value) (l78 : List UInt8) (v79 : Value) (M : Mem), e = [(3, ptr bk3 0), (4, ptr bk4 0)] ∧ St w0 M0 M [.blk bk3 (.cells #[I 0, I 0] 27), .blk bk4 (.cells #[v75, v79] 96), RowI 5 encB v79 l78] w ∧ GlF (fun w => ∃ m, w.cell? ⟨2, 0, none⟩ = some (.int .i64 m)) M ∧ BPM M bk4 v75 ∧ some l78 = some o73) [] ?_ ?_ (trivial)
   ·
    refine WC.condB rfl (fun hk80 => ?_) (fun hk80 => ?_)
    ·
     replace hk80 : (0 : Int) ≤ n12 := of_decide_eq_true hk80
     rw [if_pos hk80] at e74
     obtain ⟨s81, hxs81, e74⟩ := bnd e74
     obtain ⟨⟨n82, b83, l84⟩, hx85, e74⟩ := bnd e74
     try dsimp only at e74
     refine RG (MV rfl rfl (MV rfl rfl (ST (Ex.sliceL Tryz.underlying9 rfl rfl hxs81) rfl ?_)))
     refine WR.callX (A := [.blk bk4 (.cells #[v7, v11] 96), RowI 5 encB v11 l10]) (B := [.blk bk3 (.cells #[I 0, I 0] 27)]) (H.pick (L' := [.blk bk4 (.cells #[v7, v11] 96), RowI 5 encB v11 l10, .blk bk3 (.cells #[I 0, I 0] 27)]) (by repeat first | exact kPn | refine kPc (by repeat first | exact .head | apply Rem.tail) ?_)) (Y1c hx85) (.left (.left (Spl.all _))) rfl (hs8) (Wn.none rfl) rfl ?_
     intro v62 M w its H hle hR
     replace hg_maxl := hg_maxl.mono hle
     replace hs8 := hs8.mono hle
     try dsimp only at hR
     obtain ⟨x62_1, q62_0, u62_0, rfl, f62_1, hq62_0, rfl⟩ := hR
     simp only [List.cons_append, List.nil_append] at H
     refine NL ?_
     exact WQ.meetN [(3, _), (4, _)] ⟨rfl, rfl, trivial⟩ ⟨_, _, _, _, rfl, (H.pick (L' := [.blk bk3 (.cells #[I 0, I 0] 27), .blk bk4 (.cells #[q62_0, u62_0] 96), RowI 5 encB u62_0 l84]) (by repeat first | exact kPn | refine kPc (by repeat first | exact .head | apply Rem.tail) ?_)), hg_maxl, hq62_0, e74⟩
    ·
     replace hk80 : ¬ ((0 : Int) ≤ n12) := of_decide_eq_false hk80
     rw [if_neg hk80] at e74
     refine SK ?_
     exact WQ.meetN [(3, _), (4, _)] ⟨rfl, rfl, trivial⟩ ⟨_, _, _, _, rfl, H, hg_maxl, hs8, e74⟩
   ·
    rintro e w ⟨v75, l78, v79, M, rfl, H, hg_maxl, hs76, q86⟩
    obtain rfl := oI q86
    refine TN (SQ ?_)
    obtain ⟨s87, hx88, h⟩ := bnd h
    obtain ⟨⟨n89, n90⟩, hx91, h⟩ := bnd h
    try dsimp only at h
    refine RG ?_
    refine WR.callX (A := [.blk bk4 (.cells #[v75, v79] 96), RowI 5 encB v79 l78]) (B := [.blk bk3 (.cells #[I 0, I 0] 27)]) (H.pick (L' := [.blk bk4 (.cells #[v75, v79] 96), RowI 5 encB v79 l78, .blk bk3 (.cells #[I 0, I 0] 27)]) (by repeat first | exact kPn | refine kPc (by repeat first | exact .head | apply Rem.tail) ?_)) (Y3n hx88) (.left (.left (Spl.all _))) rfl (hs76) (Wn.none rfl) rfl ?_
    intro v63 M w its H hle hR
    replace hg_maxl := hg_maxl.mono hle
    replace hs76 := hs76.mono hle
    obtain ⟨rfl, rfl⟩ := hR
    simp only [List.cons_append, List.nil_append] at H
    refine WR.call H (Y1m hx91) rfl trivial (Wn.none rfl) rfl ?_
    intro v64 M w H hle hR
    replace hg_maxl := hg_maxl.mono hle
    replace hs76 := hs76.mono hle
    try dsimp only at hR
    obtain rfl := hR
    refine AS rfl rfl (WR.store [_, _] H rfl rfl rfl (by repeat first | exact .head | apply Upd.tail) Tryz.sizeOf27 rfl (by rfl) (by rfl) (Wn.none rfl) ?_)
    intro w H
    refine NL (TN (RT ?_))
    obtain rfl := oI h
    exact WQ.ret2 rfl rfl ⟨_, rfl, H.loadAgg (by repeat first | exact kMh | apply kMt) Tryz.isAgg27 Tryz.sizeOf27 (by rfl)⟩ H.ext rfl
theorem Y3h {p0 : List (List UInt8)} {p1 : List (List UInt8)} {bp0 : Nat} {vp0 : Value} {bp1 : Nat} {vp1 : Value} {r : (List (List UInt8) × List (List UInt8))} (h : Y1M p0 p1 = some r) : CtX Tryz.prog 124 [ptr bp0 0, ptr bp1 0] [.blk bp0 (.cells #[vp0] 55), RowI 9 encS vp0 p0, .blk bp1 (.cells #[vp1] 55), RowI 9 encS vp1 p1] (fun M => GlF (fun w => ∃ m, w.cell? ⟨2, 0, none⟩ = some (.int .i64 m)) M) (fun v M its => ∃ up0 up1, v = Value.tuple #[] ∧ its = [.blk bp0 (.cells #[up0] 55), RowI 9 encS up0 r.1, .blk bp1 (.cells #[up1] 55), RowI 9 encS up1 r.2]) := by
 refine CtX.of Tryz.func124 (enters Tryz.func124 (by kernel_rfl) rfl) rfl rfl rfl ?_
 intro w0 M0 H hp
 have hg_maxl := hp
 unfold Y1M at h
 refine SQ (RG (ST (Ex.load1 H rfl (by repeat first | exact kMh | apply kMt) Tryz.isAgg55 (by rfl)) rfl ?_))
 refine ST (Ex.lenRow (l := p0) Tryz.underlying55 H (by repeat first | exact kMh | apply kMt) rfl) rfl ?_
 refine ST (Ex.gtr rfl rfl) rfl (NL (TN ?_))
 refine WC.condB rfl (fun hk3 => ?_) (fun hk3 => ?_)
 ·
  replace hk3 : (0 : Int) < (p0.length : Int) := of_decide_eq_true hk3
  rw [if_pos hk3] at h
  refine SQ ?_
  obtain ⟨s4, hx5, h⟩ := bnd h
  obtain ⟨⟨s6, ⟨n7, n8⟩⟩, hx9, h⟩ := bnd h
  try dsimp only at h
  refine RG (ST (Ex.load1 H rfl (by repeat first | exact kMh | apply kMt) Tryz.isAgg55 (by rfl)) rfl ?_)
  refine WR.callLend (l := p0) H (by repeat first | exact kMh | apply kMt) (Y2B hx5) (fun _ _ _ h => h) rfl (fun _ hb1 hbor => hbor) (Wn.none rfl) rfl ?_
  intro v9 M w H hle hR
  replace hg_maxl := hg_maxl.mono hle
  obtain rfl := hR
  refine WR.call H (Y4q hx9) rfl (hg_maxl) (Wn.none rfl) rfl ?_
  intro v10 M w H hle hR
  replace hg_maxl := hg_maxl.mono hle
  try dsimp only at hR
  obtain rfl := hR
  refine MV rfl rfl (ST (Ex.extract rfl rfl) rfl (ST (Ex.extract rfl rfl) rfl (WR.alloc [_, _] H Tryz.zeroValue27 rfl (Wn.none rfl) rfl ?_)))
  intro bk3 w H
  refine AS rfl rfl (WR.store [_, _] H rfl rfl rfl (by repeat first | exact .head | apply Upd.tail) Tryz.sizeOf27 rfl (by rfl) (by rfl) (Wn.none rfl) ?_)
  intro w H
  refine NL (TN ?_)
  obtain ⟨l10, hxl10, h⟩ := bnd h
  refine RG (ST (Ex.load1 H rfl (by repeat first | exact kMh | apply kMt) Tryz.isAgg55 (by rfl)) rfl ?_)
  refine MV rfl rfl (WR.lit (enc := encS) xty55 ([s6] : List (List UInt8)) H rfl (by rfl) (fun _ => rfl) rfl rfl (Wn.none rfl) rfl ?_)
  intro v15 M w H hle hs15
  replace hg_maxl := hg_maxl.mono hle
  refine WR.appC (l := p1) xty55 rfl (fun _ => rfl) H rfl (fun _ => by repeat first | exact .head | apply Upd.tail) rfl (hs15) hxl10 (Wn.none rfl) rfl ?_
  intro v16 w H
  refine WR.putV [_] H rfl rfl (H.rowOne (by repeat first | exact kMh | apply kMt)) (by repeat first | exact .head | apply Upd.tail) (by rfl) Tryz.sizeOf55 (by first | decide | (simp; done) | (simp; omega)) (Wn.none rfl) ?_
  intro w H
  refine WR.putV [_] H rfl rfl (One.slice _ _ _) (by repeat first | exact .head | apply Upd.tail) (by rfl) Tryz.sizeOf55 (by first | decide | (simp; done) | (simp; omega)) (Wn.none rfl) ?_
  intro w H
  refine NL ?_
  replace H := H.newRow 9 encS
  obtain rfl := oI h
  exact WQ.endX0 (its := [.blk bp0 (.cells #[(Value.slice none 0 0)] 55), RowI 9 encS (Value.slice none 0 0) [], .blk bp1 (.cells #[v16] 55), RowI 9 encS v16 l10]) rfl H (by repeat first | exact kPn | refine kPc (by repeat first | exact .head | apply Rem.tail) ?_) ⟨_, _, rfl, rfl⟩
 ·
  replace hk3 : ¬ ((0 : Int) < (p0.length : Int)) := of_decide_eq_false hk3
  rw [if_neg hk3] at h
  refine SK ?_
  obtain rfl := oI h
  exact WQ.endX0 (its := [.blk bp0 (.cells #[vp0] 55), RowI 9 encS vp0 p0, .blk bp1 (.cells #[vp1] 55), RowI 9 encS vp1 p1]) rfl H (by repeat first | exact kPn | refine kPc (by repeat first | exact .head | apply Rem.tail) ?_) ⟨_, _, rfl, rfl⟩
theorem Y3E {p0 : List (List UInt8 × Bool)} {vp0 : Value} {r : List UInt8} (h : Y1D p0 = some r) : Ct Tryz.prog 87 [vp0] (fun M => GlF (fun w => ∃ m, w.cell? ⟨2, 0, none⟩ = some (.int .i64 m)) M ∧ SlS M 2 xenc136 vp0 p0) (fun v M => v = S r) := by
 refine Ct.of Tryz.func87 (enters Tryz.func87 (by kernel_rfl) rfl) rfl rfl rfl ?_
 intro w0 M0 H hp
 obtain ⟨hg_maxl, hp0⟩ := hp
 unfold Y1D at h
 refine SQ (RG (AS rfl rfl (NL (TN (SQ (RG (WR.alloc [_] H Tryz.zeroValue55 rfl (Wn.none rfl) rfl ?_)))))))
 intro bk3 w H
 refine WR.alloc [_] H Tryz.zeroValue55 rfl (Wn.none rfl) rfl ?_
 intro bk4 w H
 refine NL (TN (SQ (RG (ST (Ex.makeFunc rfl) rfl (AS rfl rfl (NL (TN (SQ (SQ (RG (MV rfl rfl (ST (Ex.lenSlS Tryz.underlying107 hp0 rfl) rfl (MV rfl rfl (NL (TN ?_)))))))))))))))
 obtain ⟨o1, e2, h⟩ := bnd h
 refine WC.cutX (fun e w => ∃ (l4 : List (List UInt8)) (v5 : Value) (l7 : List (List UInt8)) (v8 : Value) (M : Mem), e = [(3, ptr bk3 0), (5, (Value.func (.func 124) #[] #[ptr bk4 0, ptr bk3 0]))] ∧ St w0 M0 M [.blk bk3 (.cells #[v5] 55), RowI 9 encS v5 l4, .blk bk4 (.cells #[v8] 55), RowI 9 encS v8 l7] w ∧ GlF (fun w => ∃ m, w.cell? ⟨2, 0, none⟩ = some (.int .i64 m)) M ∧ some (l4, l7) = some o1) [] ?_ ?_ (trivial)
 ·
  refine BL ?_
  replace H := H.newRow 9 encS
  replace H := H.newRow 9 encS
  refine WC.loopP (fun m e w => ∃ (l10 : List (List UInt8)) (v11 : Value) (l13 : List (List UInt8)) (v14 : Value) (n15 : Int) (M : Mem), e = [(3, ptr bk3 0), (4, ptr bk4 0), (5, (Value.func (.func 124) #[] #[ptr bk4 0, ptr bk3 0])), (9, vp0), (10, I (p0.length : Int)), (11, I n15)] ∧ St w0 M0 M [.blk bk3 (.cells #[v11] 55), RowI 9 encS v11 l10, .blk bk4 (.cells #[v14] 55), RowI 9 encS v14 l13] w ∧ GlF (fun w => ∃ m, w.cell? ⟨2, 0, none⟩ = some (.int .i64 m)) M ∧ SlS M 2 xenc136 vp0 p0 ∧ Y0C p0 m l10 l13 n15 = some o1) FU [(3, _), (4, _), (5, _), (9, _), (10, _), (11, _)] ⟨rfl, rfl, rfl, rfl, rfl, rfl, trivial⟩ ⟨_, _, _, _, _, _, rfl, (H.pick (L' := [.blk bk3 (.cells #[(Value.slice none 0 0)] 55), RowI 9 encS (Value.slice none 0 0) [], .blk bk4 (.cells #[(Value.slice none 0 0)] 55), RowI 9 encS (Value.slice none 0 0) []]) (by repeat first | exact kPn | refine kPc (by repeat first | exact .head | apply Rem.tail) ?_)), hg_maxl, hp0, e2⟩ ?_
  rintro m16 e w ⟨l10, v11, l13, v14, n15, M, rfl, H, hg_maxl, hp0, e2⟩
  rcases m16 with _ | m16
  · rw [Y0C] at e2; cases e2
  rw [Y0C] at e2
  refine SQ (RG (ST (Ex.lss rfl rfl) rfl (NL (TN (SQ ?_)))))
  refine WC.condB rfl (fun hk19 => ?_) (fun hk19 => ?_)
  ·
   replace hk19 : n15 < (p0.length : Int) := of_decide_eq_true hk19
   rw [if_pos hk19] at e2
   refine SK (TN (SQ (BL (SQ ?_))))
   obtain ⟨a20, hxa20, e2⟩ := bnd e2
   obtain ⟨bk13, o13, ha13, hc13⟩ := hp0.atC hxa20
   refine RG (ST (Ex.idxAt ha13 Tryz.underlying107 Tryz.sizeOf136 rfl rfl) rfl (ST (Ex.loadAggM H rfl hc13 Tryz.isAgg136 Tryz.sizeOf136 (by rfl)) rfl ?_))
   refine WR.alloc [_, _] H Tryz.zeroValue136 rfl (Wn.none rfl) rfl ?_
   intro bk7 w H
   refine WR.store [_, _] H rfl rfl rfl (by repeat first | exact .head | apply Upd.tail) Tryz.sizeOf136 rfl (by rfl) (by rfl) (Wn.none rfl) ?_
   intro w H
   refine NL (TN (SQ (RG (ST (Ex.fieldAddr Tryz.underlying136 rfl Tryz.sizeOf4 (by decide) rfl) rfl (ST (Ex.load1 H rfl (by repeat first | exact kMh | apply kMt) Tryz.isAgg4 (by rfl)) rfl ?_)))))
   refine NL (TN ?_)
   refine WC.condB rfl (fun hk21 => ?_) (fun hk21 => ?_)
   ·
    rw [if_pos hk21] at e2
    refine SQ ?_
    obtain ⟨⟨o22, o23⟩, hx24, e2⟩ := bnd e2
    try dsimp only at e2
    refine RG (MV rfl rfl ?_)
    refine WR.callVX (cap := [ptr bk4 0, ptr bk3 0]) (A := [.blk bk4 (.cells #[v14] 55), RowI 9 encS v14 l13, .blk bk3 (.cells #[v11] 55), RowI 9 encS v11 l10]) (B := [.blk bk7 (.cells #[S a20.1, Value.bool a20.2] 136)]) (H.pick (L' := [.blk bk4 (.cells #[v14] 55), RowI 9 encS v14 l13, .blk bk3 (.cells #[v11] 55), RowI 9 encS v11 l10, .blk bk7 (.cells #[S a20.1, Value.bool a20.2] 136)]) (by repeat first | exact kPn | refine kPc (by repeat first | exact .head | apply Rem.tail) ?_)) (Y3h hx24) (.left (.left (.left (.left (Spl.all _))))) rfl rfl (hg_maxl) (Wn.none rfl) rfl ?_
    intro v18 M w its H hle hR
    replace hg_maxl := hg_maxl.mono hle
    replace hp0 := hp0.mono hle
    replace hc13 := hc13.mono hle
    try dsimp only at hR
    obtain ⟨u18_0, u18_1, rfl, rfl⟩ := hR
    simp only [List.cons_append, List.nil_append] at H
    refine NL (TN ?_)
    obtain ⟨l25, hxl25, e2⟩ := bnd e2
    refine RG (ST (Ex.load1 H rfl (by repeat first | exact kMh | apply kMt) Tryz.isAgg55 (by rfl)) rfl ?_)
    refine ST (Ex.fieldAddr Tryz.underlying136 rfl Tryz.sizeOf9 (by decide) rfl) rfl (ST (Ex.load1 H rfl (by repeat first | exact kMh | apply kMt) Tryz.isAgg9 (by rfl)) rfl ?_)
    refine WR.lit (enc := encS) xty55 ([a20.1] : List (List UInt8)) H rfl (by rfl) (fun _ => rfl) rfl rfl (Wn.none rfl) rfl ?_
    intro v22 M w H hle hs22
    replace hg_maxl := hg_maxl.mono hle
    replace hp0 := hp0.mono hle
    replace hc13 := hc13.mono hle
    refine WR.appC (l := o23) xty55 rfl (fun _ => rfl) H rfl (fun _ => by repeat first | exact .head | apply Upd.tail) rfl (hs22) hxl25 (Wn.none rfl) rfl ?_
    intro v23 w H
    refine WR.putV [_] H rfl rfl (H.rowOne (by repeat first | exact kMh | apply kMt)) (by repeat first | exact .head | apply Upd.tail) (by rfl) Tryz.sizeOf55 (by first | decide | (simp; done) | (simp; omega)) (Wn.none rfl) ?_
    intro w H
    refine NL (IB (TN ?_))
    obtain ⟨n26, hxn26, e2⟩ := bnd e2
    refine RG (ST (Ex.addC rfl rfl hxn26) rfl (MV rfl rfl (NL ?_)))
    exact WQ.againP m16 [(3, _), (4, _), (5, _), (9, _), (10, _), (11, _)] ⟨rfl, rfl, rfl, rfl, rfl, rfl, trivial⟩ ⟨_, _, _, _, _, _, rfl, (H.pick (L' := [.blk bk3 (.cells #[v23] 55), RowI 9 encS v23 l25, .blk bk4 (.cells #[u18_0] 55), RowI 9 encS u18_0 o22]) (by repeat first | exact kPn | refine kPc (by repeat first | exact .head | apply Rem.tail) ?_)), hg_maxl, hp0, e2⟩ (Nat.lt_succ_self _)
   ·
    rw [if_neg (by rw [hk21]; exact Bool.false_ne_true)] at e2
    obtain ⟨l27, hxl27, e2⟩ := bnd e2
    refine RG (ST (Ex.load1 H rfl (by repeat first | exact kMh | apply kMt) Tryz.isAgg55 (by rfl)) rfl ?_)
    refine ST (Ex.fieldAddr Tryz.underlying136 rfl Tryz.sizeOf9 (by decide) rfl) rfl (ST (Ex.load1 H rfl (by repeat first | exact kMh | apply kMt) Tryz.isAgg9 (by rfl)) rfl ?_)
    refine WR.lit (enc := encS) xty55 ([a20.1] : List (List UInt8)) H rfl (by rfl) (fun _ => rfl) rfl rfl (Wn.none rfl) rfl ?_
    intro v27 M w H hle hs27
    replace hg_maxl := hg_maxl.mono hle
    replace hp0 := hp0.mono hle
    replace hc13 := hc13.mono hle
    refine WR.appC (l := l13) xty55 rfl (fun _ => rfl) H rfl (fun _ => by repeat first | exact .head | apply Upd.tail) rfl (hs27) hxl27 (Wn.none rfl) rfl ?_
    intro v28 w H
    refine WR.putV [_] H rfl rfl (H.rowOne (by repeat first | exact kMh | apply kMt)) (by repeat first | exact .head | apply Upd.tail) (by rfl) Tryz.sizeOf55 (by first | decide | (simp; done) | (simp; omega)) (Wn.none rfl) ?_
    intro w H
    refine NL (IB (TN ?_))
    obtain ⟨n28, hxn28, e2⟩ := bnd e2
    refine RG (ST (Ex.addC rfl rfl hxn28) rfl (MV rfl rfl (NL ?_)))
    exact WQ.againP m16 [(3, _), (4, _), (5, _), (9, _), (10, _), (11, _)] ⟨rfl, rfl, rfl, rfl, rfl, rfl, trivial⟩ ⟨_, _, _, _, _, _, rfl, (H.pick (L' := [.blk bk3 (.cells #[v11] 55), RowI 9 encS v11 l10, .blk bk4 (.cells #[v28] 55), RowI 9 encS v28 l27]) (by repeat first | exact kPn | refine kPc (by repeat first | exact .head | apply Rem.tail) ?_)), hg_maxl, hp0, e2⟩ (Nat.lt_succ_self _)
  ·
   replace hk19 : ¬ (n15 < (p0.length : Int)) := of_decide_eq_false hk19
   rw [if_neg hk19] at e2
   refine WC.exit (WQ.thenExit (WQ.thenExit (WQ.exitHere ?_)))
   exact WQ.meetN [(3, _), (5, _)] ⟨rfl, rfl, trivial⟩ ⟨_, _, _, _, _, rfl, H, hg_maxl, e2⟩
 ·
  rintro e w ⟨l4, v5, l7, v8, M, rfl, H, hg_maxl, q29⟩
  obtain rfl := oI q29
  try dsimp only at h
  refine TN (SQ ?_)
  obtain ⟨⟨o30, o31⟩, hx32, h⟩ := bnd h
  try dsimp only at h
  refine RG (MV rfl rfl ?_)
  refine WR.callVX (cap := [ptr bk4 0, ptr bk3 0]) (A := [.blk bk4 (.cells #[v8] 55), RowI 9 encS v8 l7, .blk bk3 (.cells #[v5] 55), RowI 9 encS v5 l4]) (B := []) (H.pick (L' := [.blk bk4 (.cells #[v8] 55), RowI 9 encS v8 l7, .blk bk3 (.cells #[v5] 55), RowI 9 encS v5 l4]) (by repeat first | exact kPn | refine kPc (by repeat first | exact .head | apply Rem.tail) ?_)) (Y3h hx32) (.left (.left (.left (.left (Spl.all _))))) rfl rfl (hg_maxl) (Wn.none rfl) rfl ?_
  intro v31 M w its H hle hR
  replace hg_maxl := hg_maxl.mono hle
  try dsimp only at hR
  obtain ⟨u31_0, u31_1, rfl, rfl⟩ := hR
  simp only [List.cons_append, List.nil_append] at H
  refine NL (TN (SQ ?_))
  obtain ⟨s34, hx35, h⟩ := bnd h
  refine RG (ST (Ex.load1 H rfl (by repeat first | exact kMh | apply kMt) Tryz.isAgg55 (by rfl)) rfl ?_)
  obtain ⟨M, hle, hs33, H⟩ := H.freezeRow (v := u31_1) (enc := encS) (t := 9) (by repeat first | exact .head | apply Rem.tail)
  replace hg_maxl := hg_maxl.mono hle
  refine WR.call H (Y2B hx35) rfl (hs33) (Wn.none rfl) rfl ?_
  intro v33 M w H hle hR
  replace hg_maxl := hg_maxl.mono hle
  replace hs33 := hs33.mono hle
  obtain rfl := hR
  refine AS rfl rfl (NL (TN (RT ?_)))
  obtain rfl := oI h
  exact WQ.ret1 rfl rfl H.ext rfl
theorem Y0h {p0 : (List UInt8 × Int)} {p1 : List (List UInt8 × Bool)} {bp0 : Nat} {vp1 : Value} {r : (((List UInt8 × List UInt8 × List UInt8) × (List UInt8 × Int)) ⊕ Int)} (h : Y0w p0 p1 = some r) : CtS Tryz.prog 86 [ptr bp0 0, vp1] [.blk bp0 (.cells #[S p0.1, I p0.2] 72)] (fun M => GlF (fun w => ∃ m, w.cell? ⟨2, 0, none⟩ = some (.int .i64 m)) M ∧ Tabs M ∧ SlS M 2 xenc136 vp1 p1) (fun x => fun v M its => v = Value.agg #[S x.1.1, S x.1.2.1, S x.1.2.2] ∧ its = [.blk bp0 (.cells #[S x.2.1, I x.2.2] 72)]) (fun n => Value.iface 69 (Value.agg #[I n])) r := by
 refine CtS.of Tryz.func86 (enters Tryz.func86 (by kernel_rfl) rfl) rfl rfl rfl ?_
 intro w0 M0 H hp
 obtain ⟨hg_maxl, hg_tabs, hp1⟩ := hp
 unfold Y0w at h
 refine SQ (RG (WR.alloc [_, _, _] H Tryz.zeroValue24 rfl (Wn.none rfl) rfl ?_))
 intro bk4 w H
 refine NL (TN (SQ (SQ ?_)))
 obtain ⟨o4, hx3, h⟩ := bnd h
 rcases o4 with ⟨b1, o2⟩ | n5
 ·
  try dsimp only at h
  refine RG (MV rfl rfl ?_)
  refine WR.callX (A := [.blk bp0 (.cells #[S p0.1, I p0.2] 72)]) (B := [.blk bk4 (.cells #[S [], S [], S []] 24)]) (H.pick (L' := [.blk bp0 (.cells #[S p0.1, I p0.2] 72), .blk bk4 (.cells #[S [], S [], S []] 24)]) (by repeat first | exact kPn | refine kPc (by repeat first | exact .head | apply Rem.tail) ?_)) (Y0a hx3) (.left (Spl.all _)) rfl trivial (Wn.none rfl) rfl ?_
  intro v7 M w its H hle hR
  replace hg_maxl := hg_maxl.mono hle
  replace hg_tabs := hg_tabs.mono hle
  replace hp1 := hp1.mono hle
  try dsimp only at hR
  obtain ⟨rfl, rfl⟩ := hR
  simp only [List.cons_append, List.nil_append] at H
  refine ST (Ex.not rfl) rfl (NL (TN ?_))
  refine WC.condB rfl (fun hk6 => ?_) (fun hk6 => ?_)
  ·
   replace hk6 : b1 = false := by simpa using hk6
   subst hk6
   rw [if_neg Bool.false_ne_true] at h
   refine SQ ?_
   obtain ⟨o12, hx11, h⟩ := bnd h
   rcases o12 with ⟨⟨s7, s8, s9⟩, o10⟩ | n13
   ·
    try dsimp only at h
    refine RG (MV rfl rfl (MV rfl rfl ?_))
    refine WR.callX (A := [.blk bp0 (.cells #[S o2.1, I o2.2] 72)]) (B := [.blk bk4 (.cells #[S [], S [], S []] 24)]) (H.pick (L' := [.blk bp0 (.cells #[S o2.1, I o2.2] 72), .blk bk4 (.cells #[S [], S [], S []] 24)]) (by repeat first | exact kPn | refine kPc (by repeat first | exact .head | apply Rem.tail) ?_)) (Y0Z hx11) (.left (Spl.all _)) rfl ⟨hg_maxl, hg_tabs, hp1⟩ (Wn.none rfl) rfl ?_
    intro v11 M w its H hle hR
    replace hg_maxl := hg_maxl.mono hle
    replace hg_tabs := hg_tabs.mono hle
    replace hp1 := hp1.mono hle
    try dsimp only at hR
    obtain ⟨rfl, rfl⟩ := hR
    simp only [List.cons_append, List.nil_append] at H
    refine WR.store [_, _, _] H rfl rfl rfl (by repeat first | exact .head | apply Upd.tail) Tryz.sizeOf24 rfl (by rfl) (by rfl) (Wn.none rfl) ?_
    intro w H
    refine NL (TN (RT ?_))
    obtain rfl := oI h
    exact WQ.retX1 (its := [.blk bp0 (.cells #[S o10.1, I o10.2] 72)]) rfl ⟨_, rfl, H.loadAgg (by repeat first | exact kMh | apply kMt) Tryz.isAgg24 Tryz.sizeOf24 (by rfl)⟩ H (by repeat first | exact kPn | refine kPc (by repeat first | exact .head | apply Rem.tail) ?_) ⟨rfl, rfl⟩
   ·
    try dsimp only at h
    obtain rfl := oI h
    refine RG (MV rfl rfl (MV rfl rfl ?_))
    refine WR.callPan (A := [.blk bp0 (.cells #[S o2.1, I o2.2] 72)]) (B := [.blk bk4 (.cells #[S [], S [], S []] 24)]) (H.pick (L' := [.blk bp0 (.cells #[S o2.1, I o2.2] 72), .blk bk4 (.cells #[S [], S [], S []] 24)]) (by repeat first | exact kPn | refine kPc (by repeat first | exact .head | apply Rem.tail) ?_)) (Y0Z hx11) (.left (Spl.all _)) rfl ⟨hg_maxl, hg_tabs, hp1⟩ (Wn.none rfl) ?_
    intro M w H hle
    (repeat (first | refine WQ.pThen ?_ | refine WQ.pIn ?_ | refine WQ.pCut ?_ | refine WQ.pSc ?_))
    exact WQ.pBody H
  ·
   replace hk6 : b1 = true := by simpa using hk6
   subst hk6
   rw [if_pos rfl] at h
   refine SK (TN (SQ ?_))
   obtain ⟨o17, hx16, h⟩ := bnd h
   rcases o17 with ⟨l14, o15⟩ | n18
   ·
    try dsimp only at h
    obtain ⟨o24, hx23, h⟩ := bnd h
    rcases o24 with ⟨⟨s19, s20, s21⟩, o22⟩ | n25
    ·
     try dsimp only at h
     refine RG (MV rfl rfl (MV rfl rfl ?_))
     refine WR.callX (A := [.blk bp0 (.cells #[S o2.1, I o2.2] 72)]) (B := [.blk bk4 (.cells #[S [], S [], S []] 24)]) (H.pick (L' := [.blk bp0 (.cells #[S o2.1, I o2.2] 72), .blk bk4 (.cells #[S [], S [], S []] 24)]) (by repeat first | exact kPn | refine kPc (by repeat first | exact .head | apply Rem.tail) ?_)) (Y09 hx16) (.left (Spl.all _)) rfl trivial (Wn.none rfl) rfl ?_
     intro v14 M w its H hle hR
     replace hg_maxl := hg_maxl.mono hle
     replace hg_tabs := hg_tabs.mono hle
     replace hp1 := hp1.mono hle
     try dsimp only at hR
     obtain ⟨x14_0, rfl, f14_0, rfl⟩ := hR
     simp only [List.cons_append, List.nil_append] at H
     refine WR.callX (A := [.blk bp0 (.cells #[S o15.1, I o15.2] 72)]) (B := [.blk bk4 (.cells #[S [], S [], S []] 24)]) (H.pick (L' := [.blk bp0 (.cells #[S o15.1, I o15.2] 72), .blk bk4 (.cells #[S [], S [], S []] 24)]) (by repeat first | exact kPn | refine kPc (by repeat first | exact .head | apply Rem.tail) ?_)) (Y0Z hx23) (.left (Spl.all _)) rfl ⟨hg_maxl, hg_tabs, f14_0⟩ (Wn.none rfl) rfl ?_
     intro v15 M w its H hle hR
     replace hg_maxl := hg_maxl.mono hle
     replace hg_tabs := hg_tabs.mono hle
     replace hp1 := hp1.mono hle
     replace f14_0 := f14_0.mono hle
     try dsimp only at hR
     obtain ⟨rfl, rfl⟩ := hR
     simp only [List.cons_append, List.nil_append] at H
     refine WR.alloc [_, _, _] H Tryz.zeroValue24 rfl (Wn.none rfl) rfl ?_
     intro bk5 w H
     refine WR.store [_, _, _] H rfl rfl rfl (by repeat first | exact .head | apply Upd.tail) Tryz.sizeOf24 rfl (by rfl) (by rfl) (Wn.none rfl) ?_
     intro w H
     refine NL (TN (SQ ?_))
     obtain ⟨s26, hx27, h⟩ := bnd h
     refine RG (MV rfl rfl (WR.call H (Y3E hx27) rfl ⟨hg_maxl, hp1⟩ (Wn.none rfl) rfl ?_))
     intro v17 M w H hle hR
     replace hg_maxl := hg_maxl.mono hle
     replace hg_tabs := hg_tabs.mono hle
     replace hp1 := hp1.mono hle
     replace f14_0 := f14_0.mono hle
     obtain rfl := hR
     refine ST (Ex.fieldAddr Tryz.underlying24 rfl Tryz.sizeOf9 (by decide) rfl) rfl (WR.store1 [_, _, _] H rfl rfl (by repeat first | exact .head | apply Upd.tail) (by rfl) Tryz.sizeOf9 (by first | decide | (simp; done) | (simp; omega)) (by rfl) (by rfl) (Wn.none rfl) ?_)
     intro w H
     refine NL (TN (SQ ?_))
     obtain ⟨o30, hx29, h⟩ := bnd h
     rcases o30 with o28 | n31
     ·
      try dsimp only at h
      refine RG (MV rfl rfl ?_)
      refine WR.callX (A := [.blk bp0 (.cells #[S o22.1, I o22.2] 72)]) (B := [.blk bk5 (.cells #[S s26, S s20, S s21] 24), .blk bk4 (.cells #[S [], S [], S []] 24)]) (H.pick (L' := [.blk bp0 (.cells #[S o22.1, I o22.2] 72), .blk bk5 (.cells #[S s26, S s20, S s21] 24), .blk bk4 (.cells #[S [], S [], S []] 24)]) (by repeat first | exact kPn | refine kPc (by repeat first | exact .head | apply Rem.tail) ?_)) (Y0H hx29) (.left (Spl.all _)) rfl trivial (Wn.none rfl) rfl ?_
      intro v20 M w its H hle hR
      replace hg_maxl := hg_maxl.mono hle
      replace hg_tabs := hg_tabs.mono hle
      replace hp1 := hp1.mono hle
      replace f14_0 := f14_0.mono hle
      try dsimp only at hR
      obtain ⟨rfl, rfl⟩ := hR
      simp only [List.cons_append, List.nil_append] at H
      refine NL (TN (SQ (RG (ST (Ex.loadAgg H rfl (by repeat first | exact kMh | apply kMt) Tryz.isAgg24 Tryz.sizeOf24 (by rfl)) rfl ?_))))
      refine WR.store [_, _, _] H rfl rfl rfl (by repeat first | exact .head | apply Upd.tail) Tryz.sizeOf24 rfl (by rfl) (by rfl) (Wn.none rfl) ?_
      intro w H
      refine NL (TN (RT ?_))
      obtain rfl := oI h
      exact WQ.retX1 (its := [.blk bp0 (.cells #[S o28.1, I o28.2] 72)]) rfl ⟨_, rfl, H.loadAgg (by repeat first | exact kMh | apply kMt) Tryz.isAgg24 Tryz.sizeOf24 (by rfl)⟩ H (by repeat first | exact kPn | refine kPc (by repeat first | exact .head | apply Rem.tail) ?_) ⟨rfl, rfl⟩
     ·
      try dsimp only at h
      obtain rfl := oI h
      refine RG (MV rfl rfl ?_)
      refine WR.callPan (A := [.blk bp0 (.cells #[S o22.1, I o22.2] 72)]) (B := [.blk bk5 (.cells #[S s26, S s20, S s21] 24), .blk bk4 (.cells #[S [], S [], S []] 24)]) (H.pick (L' := [.blk bp0 (.cells #[S o22.1, I o22.2] 72), .blk bk5 (.cells #[S s26, S s20, S s21] 24), .blk bk4 (.cells #[S [], S [], S []] 24)]) (by repeat first | exact kPn | refine kPc (by repeat first | exact .head | apply Rem.tail) ?_)) (Y0H hx29) (.left (Spl.all _)) rfl trivial (Wn.none rfl) ?_
      intro M w H hle
      (repeat (first | refine WQ.pThen ?_ | refine WQ.pIn ?_ | refine WQ.pCut ?_ | refine WQ.pSc ?_))
      exact WQ.pBody H
    ·
     try dsimp only at h
     obtain rfl := oI h
     refine RG (MV rfl rfl (MV rfl rfl ?_))
     refine WR.callX (A := [.blk bp0 (.cells #[S o2.1, I o2.2] 72)]) (B := [.blk bk4 (.cells #[S [], S [], S []] 24)]) (H.pick (L' := [.blk bp0 (.cells #[S o2.1, I o2.2] 72), .blk bk4 (.cells #[S [], S [], S []] 24)]) (by repeat first | exact kPn | refine kPc (by repeat first | exact .head | apply Rem.tail) ?_)) (Y09 hx16) (.left (Spl.all _)) rfl trivial (Wn.none rfl) rfl ?_
     intro v14 M w its H hle hR
     replace hg_maxl := hg_maxl.mono hle
     replace hg_tabs := hg_tabs.mono hle
     replace hp1 := hp1.mono hle
     try dsimp only at hR
     obtain ⟨x14_0, rfl, f14_0, rfl⟩ := hR
     simp only [List.cons_append, List.nil_append] at H
     refine WR.callPan (A := [.blk bp0 (.cells #[S o15.1, I o15.2] 72)]) (B := [.blk bk4 (.cells #[S [], S [], S []] 24)]) (H.pick (L' := [.blk bp0 (.cells #[S o15.1, I o15.2] 72), .blk bk4 (.cells #[S [], S [], S []] 24)]) (by repeat first | exact kPn | refine kPc (by repeat first | exact .head | apply Rem.tail) ?_)) (Y0Z hx23) (.left (Spl.all _)) rfl ⟨hg_maxl, hg_tabs, f14_0⟩ (Wn.none rfl) ?_
     intro M w H hle
     (repeat (first | refine WQ.pThen ?_ | refine WQ.pIn ?_ | refine WQ.pCut ?_ | refine WQ.pSc ?_))
     exact WQ.pBody H
   ·
    try dsimp only at h
    obtain rfl := oI h
    refine RG (MV rfl rfl (MV rfl rfl ?_))
    refine WR.callPan (A := [.blk bp0 (.cells #[S o2.1, I o2.2] 72)]) (B := [.blk bk4 (.cells #[S [], S [], S []] 24)]) (H.pick (L' := [.blk bp0 (.cells #[S o2.1, I o2.2] 72), .blk bk4 (.cells #[S [], S [], S []] 24)]) (by repeat first | exact kPn | refine kPc (by repeat first | exact .head | apply Rem.tail) ?_)) (Y09 hx16) (.left (Spl.all _)) rfl trivial (Wn.none rfl) ?_
    intro M w H hle
    (repeat (first | refine WQ.pThen ?_ | refine WQ.pIn ?_ | refine WQ.pCut ?_ | refine WQ.pSc ?_))
    exact WQ.pBody H
 ·
  try dsimp only at h
  obtain rfl := oI h
  refine RG (MV rfl rfl ?_)
  refine WR.callPan (A := [.blk bp0 (.cells #[S p0.1, I p0.2] 72)]) (B := [.blk bk4 (.cells #[S [], S [], S []] 24)]) (H.pick (L' := [.blk bp0 (.cells #[S p0.1, I p0.2] 72), .blk bk4 (.cells #[S [], S [], S []] 24)]) (by repeat first | exact kPn | refine kPc (by repeat first | exact .head | apply Rem.tail) ?_)) (Y0a hx3) (.left (Spl.all _)) rfl trivial (Wn.none rfl) ?_
  intro M w H hle
  (repeat (first | refine WQ.pThen ?_ | refine WQ.pIn ?_ | refine WQ.pCut ?_ | refine WQ.pSc ?_))
  exact WQ.pBody H
end Go.Proofs.YtkmjdamkifbddaaGreatDoor
end
