/-
  Kct3, Kct4: own texts of this repository (wip/tpl, wip/plans), merged and shaken by wip/tools/pack.py.
-/
import Derived.KernelRfl
import Derived.Test.YtkmjdamkifbddaaGreatDoorE2d
set_option maxRecDepth 100000
set_option linter.unusedVariables false
set_option linter.unusedSimpArgs false
section
namespace Go.Proofs.YtkmjdamkifbddaaGreatDoor
open Go Go.RowKit Go.Ph Go.Ph.Pl Go.Ph.Pf
theorem address_reader_specific_ct {p0 : (List UInt8 × Int)} {p1 : List (List UInt8 × Bool)} {bp0 : Nat} {vp1 : Value} {r : (((List UInt8 × List UInt8 × List UInt8) × (List UInt8 × Int)) ⊕ Int)} (h : address_reader_specific p0 p1 = some r) : CtS Tryz.prog 123 [ptr bp0 0, vp1] [.blk bp0 (.cells #[S p0.1, I p0.2] 72)] (fun M => GlF (fun w => ∃ m, w.cell? ⟨2, 0, none⟩ = some (.int .i64 m)) M ∧ Tabs M ∧ SlS M 2 xenc136 vp1 p1) (fun x => fun v M its => v = Value.agg #[S x.1.1, S x.1.2.1, S x.1.2.2] ∧ its = [.blk bp0 (.cells #[S x.2.1, I x.2.2] 72)]) (fun n => Value.iface 69 (Value.agg #[I n])) r := by
  refine CtS.of Tryz.func123 (enters Tryz.func123 (by kernel_rfl) rfl) rfl rfl rfl ?_
  intro w0 M0 H hp
  obtain ⟨hg_maxl, hg_tabs, hp1⟩ := hp
  unfold address_reader_specific at h
  refine SQ (RG (WR.alloc [_, _, _] H Tryz.zeroValue24 rfl (Wn.none rfl) rfl ?_))
  intro bk4 w H
  refine NL (TN (SQ (SQ ?_)))
  obtain ⟨o1, e2, h⟩ := bnd h
  refine WC.cutX (fun e w => ∃ (b3 : Bool) (M : Mem), e = [(0, ptr bp0 0), (1, vp1), (4, ptr bk4 0), (32, Value.bool b3)] ∧ StX (feet [.blk bp0 (.cells #[S p0.1, I p0.2] 72)]) w0 M0 M [.blk bp0 (.cells #[S p0.1, I p0.2] 72), .blk bk4 (.cells #[S [], S [], S []] 24)] w ∧ GlF (fun w => ∃ m, w.cell? ⟨2, 0, none⟩ = some (.int .i64 m)) M ∧ Tabs M ∧ SlS M 2 xenc136 vp1 p1 ∧ some b3 = some o1) [] ?_ ?_ (trivial)
  ·
   refine RG (MV rfl rfl (ST (Ex.lenSlS Tryz.underlying107 hp1 rfl) rfl ?_))
   by_cases hk4 : (p1.length : Int) = (1 : Int)
   ·
    rw [if_pos hk4] at e2
    obtain ⟨a5, hxa5, e2⟩ := bnd e2
    obtain ⟨bk12, o12, ha12, hc12⟩ := hp1.atC hxa5
    obtain ⟨b6, hx7, e2⟩ := bnd e2
    rcases b6 with _ | _
    ·
     rw [if_neg Bool.false_ne_true] at e2
     refine WR.stepE (v' := .bool false) (Ex.neqC rfl rfl) (congrArg Value.bool (by rw [decide_eq_true hk4]; rfl)) (Wn.none rfl) rfl rfl ?_
     refine MV rfl rfl (SG (Ex.move rfl) rfl rfl rfl (SG (Ex.idxAt ha12 Tryz.underlying107 Tryz.sizeOf136 rfl rfl) rfl rfl rfl (SG (Ex.fieldAddr Tryz.underlying136 rfl Tryz.sizeOf9 (by decide) rfl) rfl rfl rfl (SG (Ex.loadM H rfl (hc12.at (j := 0) rfl) Tryz.isAgg9) rfl rfl rfl (WR.call H (address_local_ct hx7) rfl trivial (Wn.some rfl rfl rfl) rfl ?_)))))
     intro v15 M w H hle hR
     replace hg_maxl := hg_maxl.mono hle
     replace hg_tabs := hg_tabs.mono hle
     replace hp1 := hp1.mono hle
     replace hc12 := hc12.mono hle
     obtain rfl := hR
     refine SG (Ex.not rfl) rfl rfl rfl (PF rfl rfl rfl (MV rfl rfl (WR.skipN 13 rfl rfl (PT rfl rfl rfl (NL ?_)))))
     exact WQ.meetN [(0, _), (1, _), (4, _), (32, _)] ⟨rfl, rfl, rfl, rfl, trivial⟩ ⟨_, _, rfl, (H.pick (L' := [.blk bp0 (.cells #[S p0.1, I p0.2] 72), .blk bk4 (.cells #[S [], S [], S []] 24)]) (by repeat first | exact kPn | refine kPc (by repeat first | exact .head | apply Rem.tail) ?_)), hg_maxl, hg_tabs, hp1, e2⟩
    ·
     rw [if_pos rfl] at e2
     obtain ⟨a8, hxa8, e2⟩ := bnd e2
     obtain ⟨bk20, o20, ha20, hc20⟩ := hp1.atC hxa8
     by_cases hk9 : a8.2 = true
     ·
      rw [if_pos hk9] at e2
      refine WR.stepE (v' := .bool false) (Ex.neqC rfl rfl) (congrArg Value.bool (by rw [decide_eq_true hk4]; rfl)) (Wn.none rfl) rfl rfl ?_
      refine MV rfl rfl (SG (Ex.move rfl) rfl rfl rfl (SG (Ex.idxAt ha12 Tryz.underlying107 Tryz.sizeOf136 rfl rfl) rfl rfl rfl (SG (Ex.fieldAddr Tryz.underlying136 rfl Tryz.sizeOf9 (by decide) rfl) rfl rfl rfl (SG (Ex.loadM H rfl (hc12.at (j := 0) rfl) Tryz.isAgg9) rfl rfl rfl (WR.call H (address_local_ct hx7) rfl trivial (Wn.some rfl rfl rfl) rfl ?_)))))
      intro v15 M w H hle hR
      replace hg_maxl := hg_maxl.mono hle
      replace hg_tabs := hg_tabs.mono hle
      replace hp1 := hp1.mono hle
      replace hc12 := hc12.mono hle
      replace hc20 := hc20.mono hle
      obtain rfl := hR
      refine SG (Ex.not rfl) rfl rfl rfl (PF rfl rfl rfl (MV rfl rfl (SG (Ex.move rfl) rfl rfl rfl (SG (Ex.idxAt ha20 Tryz.underlying107 Tryz.sizeOf136 rfl rfl) rfl rfl rfl (SG (Ex.fieldAddr Tryz.underlying136 rfl Tryz.sizeOf4 (by decide) rfl) rfl rfl rfl (SG (Ex.loadM H rfl (hc20.at (j := 1) rfl) Tryz.isAgg4) rfl rfl rfl (WR.stepE (v' := .bool false) (Ex.not rfl) (congrArg Value.bool (by rw [hk9]; rfl)) (Wn.some rfl rfl rfl) rfl rfl ?_)))))))
      refine SG (Ex.move rfl) rfl rfl rfl (WR.skipN 6 rfl rfl (SG (Ex.pickF rfl rfl) rfl rfl rfl (PF rfl rfl rfl (NL ?_))))
      exact WQ.meetN [(0, _), (1, _), (4, _), (32, _)] ⟨rfl, rfl, rfl, rfl, trivial⟩ ⟨_, _, rfl, (H.pick (L' := [.blk bp0 (.cells #[S p0.1, I p0.2] 72), .blk bk4 (.cells #[S [], S [], S []] 24)]) (by repeat first | exact kPn | refine kPc (by repeat first | exact .head | apply Rem.tail) ?_)), hg_maxl, hg_tabs, hp1, e2⟩
     ·
      rw [if_neg hk9] at e2
      obtain ⟨a10, hxa10, e2⟩ := bnd e2
      obtain ⟨bk26, o26, ha26, hc26⟩ := hp1.atC hxa10
      obtain ⟨b11, hx12, e2⟩ := bnd e2
      refine WR.stepE (v' := .bool false) (Ex.neqC rfl rfl) (congrArg Value.bool (by rw [decide_eq_true hk4]; rfl)) (Wn.none rfl) rfl rfl ?_
      refine MV rfl rfl (SG (Ex.move rfl) rfl rfl rfl (SG (Ex.idxAt ha12 Tryz.underlying107 Tryz.sizeOf136 rfl rfl) rfl rfl rfl (SG (Ex.fieldAddr Tryz.underlying136 rfl Tryz.sizeOf9 (by decide) rfl) rfl rfl rfl (SG (Ex.loadM H rfl (hc12.at (j := 0) rfl) Tryz.isAgg9) rfl rfl rfl (WR.call H (address_local_ct hx7) rfl trivial (Wn.some rfl rfl rfl) rfl ?_)))))
      intro v15 M w H hle hR
      replace hg_maxl := hg_maxl.mono hle
      replace hg_tabs := hg_tabs.mono hle
      replace hp1 := hp1.mono hle
      replace hc12 := hc12.mono hle
      replace hc20 := hc20.mono hle
      replace hc26 := hc26.mono hle
      obtain rfl := hR
      refine SG (Ex.not rfl) rfl rfl rfl (PF rfl rfl rfl (MV rfl rfl (SG (Ex.move rfl) rfl rfl rfl (SG (Ex.idxAt ha20 Tryz.underlying107 Tryz.sizeOf136 rfl rfl) rfl rfl rfl (SG (Ex.fieldAddr Tryz.underlying136 rfl Tryz.sizeOf4 (by decide) rfl) rfl rfl rfl (SG (Ex.loadM H rfl (hc20.at (j := 1) rfl) Tryz.isAgg4) rfl rfl rfl (WR.stepE (v' := .bool true) (Ex.not rfl) (congrArg Value.bool (by rw [(Bool.of_not_eq_true hk9)]; rfl)) (Wn.some rfl rfl rfl) rfl rfl ?_)))))))
      refine SG (Ex.move rfl) rfl rfl rfl (SG (Ex.move rfl) rfl rfl rfl (SG (Ex.idxAt ha26 Tryz.underlying107 Tryz.sizeOf136 rfl rfl) rfl rfl rfl (SG (Ex.fieldAddr Tryz.underlying136 rfl Tryz.sizeOf9 (by decide) rfl) rfl rfl rfl (SG (Ex.loadM H rfl (hc26.at (j := 0) rfl) Tryz.isAgg9) rfl rfl rfl (WR.call H (address_dotted_ct hx12) rfl ⟨hg_maxl, hg_tabs⟩ (Wn.some rfl rfl rfl) rfl ?_)))))
      intro v29 M w H hle hR
      replace hg_maxl := hg_maxl.mono hle
      replace hg_tabs := hg_tabs.mono hle
      replace hp1 := hp1.mono hle
      replace hc12 := hc12.mono hle
      replace hc20 := hc20.mono hle
      replace hc26 := hc26.mono hle
      obtain rfl := hR
      refine SG (Ex.not rfl) rfl rfl rfl (SG (Ex.pickT rfl rfl) rfl rfl rfl (PF rfl rfl rfl (NL ?_)))
      exact WQ.meetN [(0, _), (1, _), (4, _), (32, _)] ⟨rfl, rfl, rfl, rfl, trivial⟩ ⟨_, _, rfl, (H.pick (L' := [.blk bp0 (.cells #[S p0.1, I p0.2] 72), .blk bk4 (.cells #[S [], S [], S []] 24)]) (by repeat first | exact kPn | refine kPc (by repeat first | exact .head | apply Rem.tail) ?_)), hg_maxl, hg_tabs, hp1, e2⟩
   ·
    rw [if_neg hk4] at e2
    refine WR.stepE (v' := .bool true) (Ex.neqC rfl rfl) (congrArg Value.bool (by rw [decide_eq_false hk4]; rfl)) (Wn.none rfl) rfl rfl ?_
    refine MV rfl rfl (WR.skipN 6 rfl rfl (PT rfl rfl rfl (MV rfl rfl (WR.skipN 13 rfl rfl (PT rfl rfl rfl (NL ?_))))))
    exact WQ.meetN [(0, _), (1, _), (4, _), (32, _)] ⟨rfl, rfl, rfl, rfl, trivial⟩ ⟨_, _, rfl, (H.pick (L' := [.blk bp0 (.cells #[S p0.1, I p0.2] 72), .blk bk4 (.cells #[S [], S [], S []] 24)]) (by repeat first | exact kPn | refine kPc (by repeat first | exact .head | apply Rem.tail) ?_)), hg_maxl, hg_tabs, hp1, e2⟩
  ·
   rintro e w ⟨b3, M, rfl, H, hg_maxl, hg_tabs, hp1, q13⟩
   obtain rfl := oI q13
   refine TN ?_
   obtain ⟨o14, e15, h⟩ := bnd h
   refine WC.cutX (fun e w => ∃ (s16 : List UInt8) (n17 : Int) (M : Mem), e = [(0, ptr bp0 0), (1, vp1), (4, ptr bk4 0)] ∧ StX (feet [.blk bp0 (.cells #[S p0.1, I p0.2] 72)]) w0 M0 M [.blk bp0 (.cells #[S s16, I n17] 72), .blk bk4 (.cells #[S [], S [], S []] 24)] w ∧ GlF (fun w => ∃ m, w.cell? ⟨2, 0, none⟩ = some (.int .i64 m)) M ∧ Tabs M ∧ SlS M 2 xenc136 vp1 p1 ∧ some (.inl (s16, n17)) = some o14) [] ?_ ?_ (trivial)
   ·
    refine WC.condB rfl (fun hk18 => ?_) (fun hk18 => ?_)
    ·
     subst hk18
     rw [if_pos rfl] at e15
     obtain ⟨o21, hx20, e15⟩ := bnd e15
     rcases o21 with o19 | n22
     ·
      try dsimp only at e15
      refine RG (MV rfl rfl ?_)
      refine WR.callX (A := [.blk bp0 (.cells #[S p0.1, I p0.2] 72)]) (B := [.blk bk4 (.cells #[S [], S [], S []] 24)]) (H.pick (L' := [.blk bp0 (.cells #[S p0.1, I p0.2] 72), .blk bk4 (.cells #[S [], S [], S []] 24)]) (by repeat first | exact kPn | refine kPc (by repeat first | exact .head | apply Rem.tail) ?_)) (address_reader_fail_ct hx20) (.left (Spl.all _)) rfl trivial (Wn.none rfl) rfl ?_
      intro v34 M w its H hle hR
      replace hg_maxl := hg_maxl.mono hle
      replace hg_tabs := hg_tabs.mono hle
      replace hp1 := hp1.mono hle
      try dsimp only at hR
      obtain ⟨rfl, rfl⟩ := hR
      simp only [List.cons_append, List.nil_append] at H
      refine NL ?_
      exact WQ.meetN [(0, _), (1, _), (4, _)] ⟨rfl, rfl, rfl, trivial⟩ ⟨_, _, _, rfl, H, hg_maxl, hg_tabs, hp1, e15⟩
     ·
      try dsimp only at e15
      obtain rfl := oI e15
      try dsimp only at h
      obtain rfl := oI h
      refine RG (MV rfl rfl ?_)
      refine WR.callPan (A := [.blk bp0 (.cells #[S p0.1, I p0.2] 72)]) (B := [.blk bk4 (.cells #[S [], S [], S []] 24)]) (H.pick (L' := [.blk bp0 (.cells #[S p0.1, I p0.2] 72), .blk bk4 (.cells #[S [], S [], S []] 24)]) (by repeat first | exact kPn | refine kPc (by repeat first | exact .head | apply Rem.tail) ?_)) (address_reader_fail_ct hx20) (.left (Spl.all _)) rfl trivial (Wn.none rfl) ?_
      intro M w H hle
      (repeat (first | refine WQ.pThen ?_ | refine WQ.pIn ?_ | refine WQ.pCut ?_ | refine WQ.pSc ?_))
      exact WQ.pBody H
    ·
     subst hk18
     rw [if_neg Bool.false_ne_true] at e15
     refine SK ?_
     exact WQ.meetN [(0, _), (1, _), (4, _)] ⟨rfl, rfl, rfl, trivial⟩ ⟨_, _, _, rfl, H, hg_maxl, hg_tabs, hp1, e15⟩
   ·
    rintro e w ⟨s16, n17, M, rfl, H, hg_maxl, hg_tabs, hp1, q23⟩
    obtain rfl := oI q23
    try dsimp only at h
    refine TN (SQ ?_)
    obtain ⟨o26, hx25, h⟩ := bnd h
    rcases o26 with o24 | n27
    ·
     try dsimp only at h
     refine RG (MV rfl rfl ?_)
     refine WR.callX (A := [.blk bp0 (.cells #[S s16, I n17] 72)]) (B := [.blk bk4 (.cells #[S [], S [], S []] 24)]) (H.pick (L' := [.blk bp0 (.cells #[S s16, I n17] 72), .blk bk4 (.cells #[S [], S [], S []] 24)]) (by repeat first | exact kPn | refine kPc (by repeat first | exact .head | apply Rem.tail) ?_)) (address_reader_need_ct hx25) (.left (Spl.all _)) rfl trivial (Wn.none rfl) rfl ?_
     intro v36 M w its H hle hR
     replace hg_maxl := hg_maxl.mono hle
     replace hg_tabs := hg_tabs.mono hle
     replace hp1 := hp1.mono hle
     try dsimp only at hR
     obtain ⟨rfl, rfl⟩ := hR
     simp only [List.cons_append, List.nil_append] at H
     refine NL (TN (SQ ?_))
     obtain ⟨o31, hx30, h⟩ := bnd h
     rcases o31 with ⟨n28, o29⟩ | n32
     ·
      try dsimp only at h
      obtain ⟨⟨w33, b34⟩, hx35, h⟩ := bnd h
      try dsimp only at h
      refine RG (MV rfl rfl ?_)
      refine WR.callX (A := [.blk bp0 (.cells #[S o24.1, I o24.2] 72)]) (B := [.blk bk4 (.cells #[S [], S [], S []] 24)]) (H.pick (L' := [.blk bp0 (.cells #[S o24.1, I o24.2] 72), .blk bk4 (.cells #[S [], S [], S []] 24)]) (by repeat first | exact kPn | refine kPc (by repeat first | exact .head | apply Rem.tail) ?_)) (address_reader_next_ct hx30) (.left (Spl.all _)) rfl trivial (Wn.none rfl) rfl ?_
      intro v39 M w its H hle hR
      replace hg_maxl := hg_maxl.mono hle
      replace hg_tabs := hg_tabs.mono hle
      replace hp1 := hp1.mono hle
      try dsimp only at hR
      obtain ⟨rfl, rfl⟩ := hR
      simp only [List.cons_append, List.nil_append] at H
      refine ST (Ex.anyOk Tryz.underlying136 Tryz.zeroValue136 rfl hx35 rfl) rfl (MV rfl rfl (ST (Ex.extract rfl rfl) rfl (ST (Ex.extract rfl rfl) rfl (WR.alloc [_, _] H Tryz.zeroValue136 rfl (Wn.none rfl) rfl ?_))))
      intro bk5 w H
      refine WR.store [_, _] H rfl rfl rfl (by repeat first | exact .head | apply Upd.tail) Tryz.sizeOf136 rfl (by rfl) (by rfl) (Wn.none rfl) ?_
      intro w H
      refine AS rfl rfl (NL (TN (SQ (SQ ?_))))
      obtain ⟨o36, e37, h⟩ := bnd h
      refine WC.cutX (fun e w => ∃ (b38 : Bool) (M : Mem), e = [(0, ptr bp0 0), (1, vp1), (4, ptr bk4 0), (5, ptr bk5 0), (54, Value.bool b38)] ∧ StX (feet [.blk bp0 (.cells #[S p0.1, I p0.2] 72)]) w0 M0 M [.blk bp0 (.cells #[S o29.1, I o29.2] 72), .blk bk4 (.cells #[S [], S [], S []] 24), .blk bk5 (.cells #[S w33.1, Value.bool w33.2] 136)] w ∧ GlF (fun w => ∃ m, w.cell? ⟨2, 0, none⟩ = some (.int .i64 m)) M ∧ Tabs M ∧ SlS M 2 xenc136 vp1 p1 ∧ some b38 = some o36) [] ?_ ?_ (trivial)
      ·
       refine RG (MV rfl rfl (ST (Ex.not rfl) rfl (MV rfl rfl ?_)))
       rcases b34 with _ | _
       ·
        rw [if_neg Bool.false_ne_true] at e37
        refine GT rfl rfl rfl (GT rfl rfl rfl (PT rfl rfl rfl (MV rfl rfl (WR.skipN 4 rfl rfl (PT rfl rfl rfl (NL ?_))))))
        exact WQ.meetN [(0, _), (1, _), (4, _), (5, _), (54, _)] ⟨rfl, rfl, rfl, rfl, rfl, trivial⟩ ⟨_, _, rfl, (H.pick (L' := [.blk bp0 (.cells #[S o29.1, I o29.2] 72), .blk bk4 (.cells #[S [], S [], S []] 24), .blk bk5 (.cells #[S w33.1, Value.bool w33.2] 136)]) (by repeat first | exact kPn | refine kPc (by repeat first | exact .head | apply Rem.tail) ?_)), hg_maxl, hg_tabs, hp1, e37⟩
       ·
        rw [if_pos rfl] at e37
        by_cases hk39 : w33.2 = true
        ·
         rw [if_pos hk39] at e37
         refine SG (Ex.fieldAddr Tryz.underlying136 rfl Tryz.sizeOf4 (by decide) rfl) rfl rfl rfl (WR.stepE (v' := .bool true) (Ex.load1 H rfl (by repeat first | exact kMh | apply kMt) Tryz.isAgg4 (by rfl)) (congrArg Value.bool hk39) (Wn.some rfl rfl rfl) rfl rfl ?_)
         refine PF rfl rfl rfl (MV rfl rfl (WR.skipN 4 rfl rfl (PT rfl rfl rfl (NL ?_))))
         exact WQ.meetN [(0, _), (1, _), (4, _), (5, _), (54, _)] ⟨rfl, rfl, rfl, rfl, rfl, trivial⟩ ⟨_, _, rfl, (H.pick (L' := [.blk bp0 (.cells #[S o29.1, I o29.2] 72), .blk bk4 (.cells #[S [], S [], S []] 24), .blk bk5 (.cells #[S w33.1, Value.bool w33.2] 136)]) (by repeat first | exact kPn | refine kPc (by repeat first | exact .head | apply Rem.tail) ?_)), hg_maxl, hg_tabs, hp1, e37⟩
        ·
         rw [if_neg hk39] at e37
         obtain ⟨b40, hx41, e37⟩ := bnd e37
         refine SG (Ex.fieldAddr Tryz.underlying136 rfl Tryz.sizeOf4 (by decide) rfl) rfl rfl rfl (WR.stepE (v' := .bool false) (Ex.load1 H rfl (by repeat first | exact kMh | apply kMt) Tryz.isAgg4 (by rfl)) (congrArg Value.bool (Bool.of_not_eq_true hk39)) (Wn.some rfl rfl rfl) rfl rfl ?_)
         refine PF rfl rfl rfl (MV rfl rfl (SG (Ex.fieldAddr Tryz.underlying136 rfl Tryz.sizeOf9 (by decide) rfl) rfl rfl rfl (SG (Ex.load1 H rfl (by repeat first | exact kMh | apply kMt) Tryz.isAgg9 (by rfl)) rfl rfl rfl ?_)))
         refine WR.call H (address_domain_ct hx41) rfl ⟨hg_maxl, hg_tabs⟩ (Wn.some rfl rfl rfl) rfl ?_
         intro v52 M w H hle hR
         replace hg_maxl := hg_maxl.mono hle
         replace hg_tabs := hg_tabs.mono hle
         replace hp1 := hp1.mono hle
         obtain rfl := hR
         refine SG (Ex.not rfl) rfl rfl rfl (PF rfl rfl rfl (NL ?_))
         exact WQ.meetN [(0, _), (1, _), (4, _), (5, _), (54, _)] ⟨rfl, rfl, rfl, rfl, rfl, trivial⟩ ⟨_, _, rfl, (H.pick (L' := [.blk bp0 (.cells #[S o29.1, I o29.2] 72), .blk bk4 (.cells #[S [], S [], S []] 24), .blk bk5 (.cells #[S w33.1, Value.bool w33.2] 136)]) (by repeat first | exact kPn | refine kPc (by repeat first | exact .head | apply Rem.tail) ?_)), hg_maxl, hg_tabs, hp1, e37⟩
      ·
       rintro e w ⟨b38, M, rfl, H, hg_maxl, hg_tabs, hp1, q42⟩
       obtain rfl := oI q42
       refine TN ?_
       obtain ⟨o43, e44, h⟩ := bnd h
       refine WC.cutX (fun e w => ∃ (s45 : List UInt8) (n46 : Int) (M : Mem), e = [(1, vp1), (4, ptr bk4 0), (5, ptr bk5 0)] ∧ StX (feet [.blk bp0 (.cells #[S p0.1, I p0.2] 72)]) w0 M0 M [.blk bk4 (.cells #[S [], S [], S []] 24), .blk bk5 (.cells #[S w33.1, Value.bool w33.2] 136), .blk bp0 (.cells #[S s45, I n46] 72)] w ∧ GlF (fun w => ∃ m, w.cell? ⟨2, 0, none⟩ = some (.int .i64 m)) M ∧ Tabs M ∧ SlS M 2 xenc136 vp1 p1 ∧ some (.inl (s45, n46)) = some o43) [] ?_ ?_ (trivial)
       ·
        refine WC.condB rfl (fun hk47 => ?_) (fun hk47 => ?_)
        ·
         subst hk47
         rw [if_pos rfl] at e44
         obtain ⟨o50, hx49, e44⟩ := bnd e44
         rcases o50 with o48 | n51
         ·
          try dsimp only at e44
          refine RG (MV rfl rfl ?_)
          refine WR.callX (A := [.blk bp0 (.cells #[S o29.1, I o29.2] 72)]) (B := [.blk bk4 (.cells #[S [], S [], S []] 24), .blk bk5 (.cells #[S w33.1, Value.bool w33.2] 136)]) (H.pick (L' := [.blk bp0 (.cells #[S o29.1, I o29.2] 72), .blk bk4 (.cells #[S [], S [], S []] 24), .blk bk5 (.cells #[S w33.1, Value.bool w33.2] 136)]) (by repeat first | exact kPn | refine kPc (by repeat first | exact .head | apply Rem.tail) ?_)) (address_reader_fail_ct hx49) (.left (Spl.all _)) rfl trivial (Wn.none rfl) rfl ?_
          intro v56 M w its H hle hR
          replace hg_maxl := hg_maxl.mono hle
          replace hg_tabs := hg_tabs.mono hle
          replace hp1 := hp1.mono hle
          try dsimp only at hR
          obtain ⟨rfl, rfl⟩ := hR
          simp only [List.cons_append, List.nil_append] at H
          refine NL ?_
          exact WQ.meetN [(1, _), (4, _), (5, _)] ⟨rfl, rfl, rfl, trivial⟩ ⟨_, _, _, rfl, (H.pick (L' := [.blk bk4 (.cells #[S [], S [], S []] 24), .blk bk5 (.cells #[S w33.1, Value.bool w33.2] 136), .blk bp0 (.cells #[S o48.1, I o48.2] 72)]) (by repeat first | exact kPn | refine kPc (by repeat first | exact .head | apply Rem.tail) ?_)), hg_maxl, hg_tabs, hp1, e44⟩
         ·
          try dsimp only at e44
          obtain rfl := oI e44
          try dsimp only at h
          obtain rfl := oI h
          refine RG (MV rfl rfl ?_)
          refine WR.callPan (A := [.blk bp0 (.cells #[S o29.1, I o29.2] 72)]) (B := [.blk bk4 (.cells #[S [], S [], S []] 24), .blk bk5 (.cells #[S w33.1, Value.bool w33.2] 136)]) (H.pick (L' := [.blk bp0 (.cells #[S o29.1, I o29.2] 72), .blk bk4 (.cells #[S [], S [], S []] 24), .blk bk5 (.cells #[S w33.1, Value.bool w33.2] 136)]) (by repeat first | exact kPn | refine kPc (by repeat first | exact .head | apply Rem.tail) ?_)) (address_reader_fail_ct hx49) (.left (Spl.all _)) rfl trivial (Wn.none rfl) ?_
          intro M w H hle
          (repeat (first | refine WQ.pThen ?_ | refine WQ.pIn ?_ | refine WQ.pCut ?_ | refine WQ.pSc ?_))
          exact WQ.pBody H
        ·
         subst hk47
         rw [if_neg Bool.false_ne_true] at e44
         refine SK ?_
         exact WQ.meetN [(1, _), (4, _), (5, _)] ⟨rfl, rfl, rfl, trivial⟩ ⟨_, _, _, rfl, (H.pick (L' := [.blk bk4 (.cells #[S [], S [], S []] 24), .blk bk5 (.cells #[S w33.1, Value.bool w33.2] 136), .blk bp0 (.cells #[S o29.1, I o29.2] 72)]) (by repeat first | exact kPn | refine kPc (by repeat first | exact .head | apply Rem.tail) ?_)), hg_maxl, hg_tabs, hp1, e44⟩
       ·
        rintro e w ⟨s45, n46, M, rfl, H, hg_maxl, hg_tabs, hp1, q52⟩
        obtain rfl := oI q52
        try dsimp only at h
        refine TN (SQ ?_)
        obtain ⟨a53, hxa53, h⟩ := bnd h
        obtain ⟨bk58, o58, ha58, hc58⟩ := hp1.atC hxa53
        refine WC.draw (m := 8) rfl rfl H ?_
        intro w H
        refine WA.take (i := 0) rfl (by kernel_rfl) (by kernel_rfl) (by kernel_rfl) (fun _ => Ex.move rfl) (Wn.none rfl) rfl rfl (fun _ _ => rfl) (WA.take (i := 1) rfl (by kernel_rfl) (by kernel_rfl) (by kernel_rfl) (fun _ => Ex.idxAt ha58 Tryz.underlying107 Tryz.sizeOf136 rfl rfl) (Wn.none rfl) rfl rfl (fun _ _ => rfl) (WA.take (i := 2) rfl (by kernel_rfl) (by kernel_rfl) (by kernel_rfl) (fun _ => Ex.fieldAddr Tryz.underlying136 rfl Tryz.sizeOf9 (by decide) rfl) (Wn.none rfl) rfl rfl (fun _ _ => rfl) (WA.take (i := 4) rfl (by kernel_rfl) (by kernel_rfl) (by kernel_rfl) (fun _ => Ex.fieldAddr Tryz.underlying136 rfl Tryz.sizeOf9 (by decide) rfl) (Wn.none rfl) rfl rfl (fun _ _ => rfl) (WA.takeM (i := 3) [5] rfl (by kernel_rfl) (by kernel_rfl) (by kernel_rfl) (Ex.loadM H rfl (hc58.at (j := 0) rfl) Tryz.isAgg9) (Wn.none rfl) rfl rfl (fun _ _ => rfl) (WA.seq (fuel := 0) [5, 6, 7] rfl (by kernel_rfl) (ST (Ex.load1 H rfl (by repeat first | exact kMh | apply kMt) Tryz.isAgg9 (by rfl)) rfl ?_))))))
        refine ST (Ex.build [S [], S a53.1, S w33.1] Tryz.underlying24 Tryz.zeroValue24 (xplaces24 Tryz.underlying24) rfl rfl) rfl (WR.store [_, _, _] H rfl rfl rfl (by repeat first | exact .head | apply Upd.tail) Tryz.sizeOf24 rfl (by rfl) (by rfl) (Wn.none rfl) ?_)
        intro w H
        refine NA (WA.done (by kernel_rfl) (TN (RT ?_)))
        obtain rfl := oI h
        exact WQ.retX1 (its := [.blk bp0 (.cells #[S s45, I n46] 72)]) rfl ⟨_, rfl, H.loadAgg (by repeat first | exact kMh | apply kMt) Tryz.isAgg24 Tryz.sizeOf24 (by rfl)⟩ H (by repeat first | exact kPn | refine kPc (by repeat first | exact .head | apply Rem.tail) ?_) ⟨rfl, rfl⟩
     ·
      try dsimp only at h
      obtain rfl := oI h
      refine RG (MV rfl rfl ?_)
      refine WR.callPan (A := [.blk bp0 (.cells #[S o24.1, I o24.2] 72)]) (B := [.blk bk4 (.cells #[S [], S [], S []] 24)]) (H.pick (L' := [.blk bp0 (.cells #[S o24.1, I o24.2] 72), .blk bk4 (.cells #[S [], S [], S []] 24)]) (by repeat first | exact kPn | refine kPc (by repeat first | exact .head | apply Rem.tail) ?_)) (address_reader_next_ct hx30) (.left (Spl.all _)) rfl trivial (Wn.none rfl) ?_
      intro M w H hle
      (repeat (first | refine WQ.pThen ?_ | refine WQ.pIn ?_ | refine WQ.pCut ?_ | refine WQ.pSc ?_))
      exact WQ.pBody H
    ·
     try dsimp only at h
     obtain rfl := oI h
     refine RG (MV rfl rfl ?_)
     refine WR.callPan (A := [.blk bp0 (.cells #[S s16, I n17] 72)]) (B := [.blk bk4 (.cells #[S [], S [], S []] 24)]) (H.pick (L' := [.blk bp0 (.cells #[S s16, I n17] 72), .blk bk4 (.cells #[S [], S [], S []] 24)]) (by repeat first | exact kPn | refine kPc (by repeat first | exact .head | apply Rem.tail) ?_)) (address_reader_need_ct hx25) (.left (Spl.all _)) rfl trivial (Wn.none rfl) ?_
     intro M w H hle
     (repeat (first | refine WQ.pThen ?_ | refine WQ.pIn ?_ | refine WQ.pCut ?_ | refine WQ.pSc ?_))
     exact WQ.pBody H
theorem words_read_ct {p0 : List UInt8} {r : (List UInt8 × Int × Bool)} (h : words_read p0 = some r) : Ct Tryz.prog 156 [S p0] (fun M => GlF (fun w => ∃ m, w.cell? ⟨2, 0, none⟩ = some (.int .i64 m)) M) (fun v M => v = Value.tuple #[S r.1, I r.2.1, Value.bool r.2.2]) := by
  refine Ct.of Tryz.func156 (enters Tryz.func156 (by kernel_rfl) rfl) rfl rfl rfl ?_
  intro w0 M0 H hp
  have hg_maxl := hp
  unfold words_read at h
  refine SQ (RG (AS rfl rfl (AS rfl rfl (AS rfl rfl (NL (TN (SQ (SQ ?_))))))))
  obtain ⟨b1, hx2, h⟩ := bnd h
  refine RG (MV rfl rfl (WR.call H (strings_HasPrefix_ct hx2) rfl trivial (Wn.none rfl) rfl ?_))
  intro v11 M w H hle hR
  replace hg_maxl := hg_maxl.mono hle
  obtain rfl := hR
  refine ST (Ex.not rfl) rfl (NL (TN ?_))
  refine WC.condB rfl (fun hk3 => ?_) (fun hk3 => ?_)
  ·
   replace hk3 : b1 = false := by simpa using hk3
   subst hk3
   rw [if_neg Bool.false_ne_true] at h
   refine SQ (RG (AS rfl rfl (AS rfl rfl (AS rfl rfl (NL (TN (RT ?_)))))))
   obtain rfl := oI h
   exact WQ.ret3 rfl rfl rfl rfl H.ext rfl
  ·
   replace hk3 : b1 = true := by simpa using hk3
   subst hk3
   rw [if_pos rfl] at h
   refine SK (TN (SQ ?_))
   obtain ⟨s4, hxs4, h⟩ := bnd h
   obtain ⟨l5, hx6, h⟩ := bnd h
   refine RG (MV rfl rfl (MV rfl rfl (ST (Ex.lenStr Tryz.underlying9 rfl) rfl (ST (Ex.min2 rfl rfl) rfl (ST (Ex.sliceC Tryz.underlying9 rfl rfl rfl hxs4) rfl (WR.call H (strings_SplitN_ct hx6) rfl (hg_maxl) (Wn.none rfl) rfl ?_))))))
   intro v18 M w H hle hR
   replace hg_maxl := hg_maxl.mono hle
   have f18_0 := hR
   refine AS rfl rfl (NL (TN (SQ (SQ ?_))))
   obtain ⟨o7, e8, h⟩ := bnd h
   refine WC.cutX (fun e w => ∃ (b9 : Bool) (M : Mem), e = [(5, v18), (28, Value.bool b9)] ∧ St w0 M0 M [] w ∧ GlF (fun w => ∃ m, w.cell? ⟨2, 0, none⟩ = some (.int .i64 m)) M ∧ Sl M encS v18 l5 ∧ some b9 = some o7) [] ?_ ?_ (trivial)
   ·
    refine RG (MV rfl rfl (ST (Ex.lenSl Tryz.underlying55 f18_0 rfl) rfl ?_))
    by_cases hk10 : (l5.length : Int) < (4 : Int)
    ·
     rw [if_pos hk10] at e8
     refine WR.stepE (v' := .bool true) (Ex.lss rfl rfl) (congrArg Value.bool (decide_eq_true hk10)) (Wn.none rfl) rfl rfl (MV rfl rfl (WR.skipN 5 rfl rfl (PT rfl rfl rfl (NL ?_))))
     exact WQ.meetN [(5, _), (28, _)] ⟨rfl, rfl, trivial⟩ ⟨_, _, rfl, H, hg_maxl, f18_0, e8⟩
    ·
     rw [if_neg hk10] at e8
     obtain ⟨a11, hxa11, e8⟩ := bnd e8
     obtain ⟨bk24, o24, ha24, hc24⟩ := f18_0.atC hxa11
     obtain ⟨b12, hx13, e8⟩ := bnd e8
     refine WR.stepE (v' := .bool false) (Ex.lss rfl rfl) (congrArg Value.bool (decide_eq_false hk10)) (Wn.none rfl) rfl rfl (MV rfl rfl (SG (Ex.move rfl) rfl rfl rfl (SG (Ex.idxAt ha24 Tryz.underlying55 Tryz.sizeOf9 rfl rfl) rfl rfl rfl (SG (Ex.loadM H rfl hc24 Tryz.isAgg9) rfl rfl rfl (WR.call H (strings_HasPrefix_ct hx13) rfl trivial (Wn.some rfl rfl rfl) rfl ?_)))))
     intro v26 M w H hle hR
     replace hg_maxl := hg_maxl.mono hle
     replace f18_0 := f18_0.mono hle
     replace hc24 := hc24.mono hle
     obtain rfl := hR
     refine SG (Ex.not rfl) rfl rfl rfl (PF rfl rfl rfl (NL ?_))
     exact WQ.meetN [(5, _), (28, _)] ⟨rfl, rfl, trivial⟩ ⟨_, _, rfl, H, hg_maxl, f18_0, e8⟩
   ·
    rintro e w ⟨b9, M, rfl, H, hg_maxl, f18_0, q14⟩
    obtain rfl := oI q14
    refine TN ?_
    refine WC.condB rfl (fun hk15 => ?_) (fun hk15 => ?_)
    ·
     subst hk15
     rw [if_pos rfl] at h
     refine SQ (RG (AS rfl rfl (AS rfl rfl (AS rfl rfl (NL (TN (RT ?_)))))))
     obtain rfl := oI h
     exact WQ.ret3 rfl rfl rfl rfl H.ext rfl
    ·
     subst hk15
     rw [if_neg Bool.false_ne_true] at h
     cases h
theorem strings_Builder_WriteByte_ct {p0 : List UInt8} {p1 : UInt8} {bp0 : Nat} {pp0 : Value} {vp0 : Value} {r : (Bool × List UInt8)} (h : strings_Builder_WriteByte p0 p1 = some r) : CtX Tryz.prog 157 [ptr bp0 0, encB p1] [.blk bp0 (.cells #[pp0, vp0] 96), RowI 5 encB vp0 p0] (fun M => BPM M bp0 pp0) (fun v M its => ∃ x0 qp0 up0, v = x0 ∧ NilB M x0 r.1 ∧ BPM M bp0 qp0 ∧ its = [.blk bp0 (.cells #[qp0, up0] 96), RowI 5 encB up0 r.2]) := by
  refine CtX.of Tryz.func157 (enters Tryz.func157 (by kernel_rfl) rfl) rfl rfl rfl ?_
  intro w0 M0 H hp
  have hp0 := hp
  unfold strings_Builder_WriteByte at h
  refine SQ (RG (AS rfl rfl (NL (TN (SQ (RG (MV rfl rfl ?_)))))))
  refine WR.callX (A := [.blk bp0 (.cells #[pp0, vp0] 96)]) (B := [RowI 5 encB vp0 p0]) (H.pick (L' := [.blk bp0 (.cells #[pp0, vp0] 96), RowI 5 encB vp0 p0]) (by repeat first | exact kPn | refine kPc (by repeat first | exact .head | apply Rem.tail) ?_)) (copyCheck_ct hp0) (.left (Spl.all _)) rfl trivial (Wn.none rfl) rfl ?_
  intro v6 M w its H hle hR
  replace hp0 := hp0.mono hle
  obtain ⟨rfl, rfl⟩ := hR
  simp only [List.cons_append, List.nil_append] at H
  refine NL (TN (SQ ?_))
  obtain ⟨l2, hxl2, h⟩ := bnd h
  refine RG (MV rfl rfl (MV rfl rfl (ST (Ex.nilCheckP rfl) rfl (ST (Ex.fieldAddr Tryz.underlying96 rfl Tryz.sizeOf88 (by decide) rfl) rfl (ST (Ex.load1 H rfl (by repeat first | exact kMh | apply kMt) Tryz.isAgg88 (by rfl)) rfl ?_)))))
  refine MV rfl rfl (WR.lit (enc := encB) xty88 ([p1] : List UInt8) H rfl (by rfl) (fun _ => rfl) rfl rfl (Wn.none rfl) rfl ?_)
  intro v13 M w H hle hs13
  refine WR.appC (l := p0) xty88 rfl (fun _ => rfl) H rfl (fun _ => by repeat first | exact .head | apply Upd.tail) rfl (hs13) hxl2 (Wn.none rfl) rfl ?_
  intro v14 w H
  refine ST (Ex.nilCheckP rfl) rfl (ST (Ex.fieldAddr Tryz.underlying96 rfl Tryz.sizeOf88 (by decide) rfl) rfl (WR.putV [_, _] H rfl rfl (H.rowOne (by repeat first | exact kMh | apply kMt)) (by repeat first | exact .head | apply Upd.tail) (by rfl) Tryz.sizeOf88 (by first | decide | (simp; done) | (simp; omega)) (Wn.none rfl) ?_))
  intro w H
  refine NL (TN (SQ (RG (AS rfl rfl (NL (TN (RT ?_)))))))
  obtain rfl := oI h
  exact WQ.retX1 (its := [.blk bp0 (.cells #[(ptr bp0 0), v14] 96), RowI 5 encB v14 l2]) rfl rfl H (by repeat first | exact kPn | refine kPc (by repeat first | exact .head | apply Rem.tail) ?_) ⟨_, _, _, rfl, (.inl ⟨rfl, rfl⟩), BPM.self, rfl⟩
theorem strings_Builder_WriteString_ct {p0 : List UInt8} {p1 : List UInt8} {bp0 : Nat} {pp0 : Value} {vp0 : Value} {r : (Int × Bool × List UInt8)} (h : strings_Builder_WriteString p0 p1 = some r) : CtX Tryz.prog 75 [ptr bp0 0, S p1] [.blk bp0 (.cells #[pp0, vp0] 96), RowI 5 encB vp0 p0] (fun M => BPM M bp0 pp0) (fun v M its => ∃ x1 qp0 up0, v = Value.tuple #[I r.1, x1] ∧ NilB M x1 r.2.1 ∧ BPM M bp0 qp0 ∧ its = [.blk bp0 (.cells #[qp0, up0] 96), RowI 5 encB up0 r.2.2]) := by
  refine CtX.of Tryz.func75 (enters Tryz.func75 (by kernel_rfl) rfl) rfl rfl rfl ?_
  intro w0 M0 H hp
  have hp0 := hp
  unfold strings_Builder_WriteString at h
  refine SQ (RG (AS rfl rfl (AS rfl rfl (NL (TN (SQ (RG (MV rfl rfl ?_))))))))
  refine WR.callX (A := [.blk bp0 (.cells #[pp0, vp0] 96)]) (B := [RowI 5 encB vp0 p0]) (H.pick (L' := [.blk bp0 (.cells #[pp0, vp0] 96), RowI 5 encB vp0 p0]) (by repeat first | exact kPn | refine kPc (by repeat first | exact .head | apply Rem.tail) ?_)) (copyCheck_ct hp0) (.left (Spl.all _)) rfl trivial (Wn.none rfl) rfl ?_
  intro v7 M w its H hle hR
  replace hp0 := hp0.mono hle
  obtain ⟨rfl, rfl⟩ := hR
  simp only [List.cons_append, List.nil_append] at H
  refine NL (TN (SQ ?_))
  obtain ⟨l2, hxl2, h⟩ := bnd h
  refine RG (MV rfl rfl (MV rfl rfl (ST (Ex.nilCheckP rfl) rfl (ST (Ex.fieldAddr Tryz.underlying96 rfl Tryz.sizeOf88 (by decide) rfl) rfl (ST (Ex.load1 H rfl (by repeat first | exact kMh | apply kMt) Tryz.isAgg88 (by rfl)) rfl ?_)))))
  refine MV rfl rfl (WR.appStrC (l := p0) xty88 Tryz.underlying9 H rfl (fun _ => by repeat first | exact .head | apply Upd.tail) rfl hxl2 (Wn.none rfl) rfl ?_)
  intro v14 w H
  refine ST (Ex.nilCheckP rfl) rfl (ST (Ex.fieldAddr Tryz.underlying96 rfl Tryz.sizeOf88 (by decide) rfl) rfl (WR.putV [_, _] H rfl rfl (H.rowOne (by repeat first | exact kMh | apply kMt)) (by repeat first | exact .head | apply Upd.tail) (by rfl) Tryz.sizeOf88 (by first | decide | (simp; done) | (simp; omega)) (Wn.none rfl) ?_))
  intro w H
  refine NL (TN (SQ (RG (MV rfl rfl (ST (Ex.lenStr Tryz.underlying9 rfl) rfl (AS rfl rfl (AS rfl rfl (NL (TN (RT ?_))))))))))
  obtain rfl := oI h
  exact WQ.retX2 (its := [.blk bp0 (.cells #[(ptr bp0 0), v14] 96), RowI 5 encB v14 l2]) rfl rfl rfl H (by repeat first | exact kPn | refine kPc (by repeat first | exact .head | apply Rem.tail) ?_) ⟨_, _, _, rfl, (.inl ⟨rfl, rfl⟩), BPM.self, rfl⟩
theorem strings_Builder_String_ct {p0 : List UInt8} {bp0 : Nat} {pp0 : Value} {vp0 : Value} {r : List UInt8} (h : strings_Builder_String p0 = some r) : CtX Tryz.prog 76 [ptr bp0 0] [.blk bp0 (.cells #[pp0, vp0] 96), RowI 5 encB vp0 p0] (fun M => BPM M bp0 pp0) (fun v M its => v = S r ∧ its = []) := by
  refine CtX.of Tryz.func76 (enters Tryz.func76 (by kernel_rfl) rfl) rfl rfl rfl ?_
  intro w0 M0 H hp
  have hp0 := hp
  unfold strings_Builder_String at h
  refine SQ (RG (AS rfl rfl (NL (TN (SQ ?_)))))
  refine WC.cutP (fun e w => ∃  (M : Mem), e = [(2, S p0)] ∧ StX (feet [.blk bp0 (.cells #[pp0, vp0] 96), RowI 5 encB vp0 p0]) w0 M0 M [.blk bp0 (.cells #[pp0, vp0] 96)] w) ?_ ?_
  ·
   refine WC.draw (m := 12) rfl rfl H ?_
   intro w H
   refine WA.take (i := 0) rfl (by kernel_rfl) (by kernel_rfl) (by kernel_rfl) (fun _ => Ex.move rfl) (Wn.none rfl) rfl rfl (fun _ _ => rfl) (WA.take (i := 1) rfl (by kernel_rfl) (by kernel_rfl) (by kernel_rfl) (fun _ => Ex.nilCheckP rfl) (Wn.none rfl) rfl rfl (fun _ _ => rfl) (WA.take (i := 2) rfl (by kernel_rfl) (by kernel_rfl) (by kernel_rfl) (fun _ => Ex.fieldAddr Tryz.underlying96 rfl Tryz.sizeOf88 (by decide) rfl) (Wn.none rfl) rfl rfl (fun _ _ => rfl) (WA.take (i := 5) rfl (by kernel_rfl) (by kernel_rfl) (by kernel_rfl) (fun _ => Ex.move rfl) (Wn.none rfl) rfl rfl (fun _ _ => rfl) (WA.take (i := 6) rfl (by kernel_rfl) (by kernel_rfl) (by kernel_rfl) (fun _ => Ex.nilCheckP rfl) (Wn.none rfl) rfl rfl (fun _ _ => rfl) (WA.take (i := 7) rfl (by kernel_rfl) (by kernel_rfl) (by kernel_rfl) (fun _ => Ex.fieldAddr Tryz.underlying96 rfl Tryz.sizeOf88 (by decide) rfl) (Wn.none rfl) rfl rfl (fun _ _ => rfl) ?_)))))
   refine WA.two (i := 3) (j := 8) (by kernel_rfl) rfl rfl ?_ ?_
   ·
    refine ST (Ex.load1 H rfl (by repeat first | exact kMh | apply kMt) Tryz.isAgg88 (by rfl)) rfl ?_
    refine NA ?_
    refine WA.two (i := 4) (j := 8) (by kernel_rfl) rfl rfl ?_ ?_
    ·
     refine WR.sliceData Tryz.underlying128 H (by repeat first | exact kMh | apply kMt) rfl (Wn.none rfl) rfl ?_
     intro q7 w H hq7
     refine NA (WA.seq (fuel := 0) [8, 9, 10, 11] rfl (by kernel_rfl) (ST (Ex.load1 H rfl (by repeat first | exact kMh | apply kMt) Tryz.isAgg88 (by rfl)) rfl ?_))
     refine ST (Ex.lenRow (l := p0) Tryz.underlying88 H (by repeat first | exact kMh | apply kMt) rfl) rfl ?_
     refine WR.unsafeStr Tryz.underlying128 (by kernel_rfl) H (by repeat first | exact .head | apply Rem.tail) hq7 rfl rfl (Wn.none rfl) rfl ?_
     intro w H
     refine AS rfl rfl (NA (WA.done (by kernel_rfl) ?_))
     exact WQ.meetP [(2, _)] ⟨rfl, trivial⟩ ⟨_, rfl, H⟩
    ·
     refine ST (Ex.load1 H rfl (by repeat first | exact kMh | apply kMt) Tryz.isAgg88 (by rfl)) rfl ?_
     refine NA ?_
     refine WA.two (i := 4) (j := 9) (by kernel_rfl) rfl rfl ?_ ?_
     ·
      refine WR.sliceData Tryz.underlying128 H (by repeat first | exact kMh | apply kMt) rfl (Wn.none rfl) rfl ?_
      intro q7 w H hq7
      refine NA (WA.seq (fuel := 0) [9, 10, 11] rfl (by kernel_rfl) (ST (Ex.lenRow (l := p0) Tryz.underlying88 H (by repeat first | exact kMh | apply kMt) rfl) rfl ?_))
      refine WR.unsafeStr Tryz.underlying128 (by kernel_rfl) H (by repeat first | exact .head | apply Rem.tail) hq7 rfl rfl (Wn.none rfl) rfl ?_
      intro w H
      refine AS rfl rfl (NA (WA.done (by kernel_rfl) ?_))
      exact WQ.meetP [(2, _)] ⟨rfl, trivial⟩ ⟨_, rfl, H⟩
     ·
      refine ST (Ex.lenRow (l := p0) Tryz.underlying88 H (by repeat first | exact kMh | apply kMt) rfl) rfl ?_
      refine NA (WA.seq (fuel := 0) [4, 10, 11] rfl (by kernel_rfl) (WR.sliceData Tryz.underlying128 H (by repeat first | exact kMh | apply kMt) rfl (Wn.none rfl) rfl ?_))
      intro q7 w H hq7
      refine WR.unsafeStr Tryz.underlying128 (by kernel_rfl) H (by repeat first | exact .head | apply Rem.tail) hq7 rfl rfl (Wn.none rfl) rfl ?_
      intro w H
      refine AS rfl rfl (NA (WA.done (by kernel_rfl) ?_))
      exact WQ.meetP [(2, _)] ⟨rfl, trivial⟩ ⟨_, rfl, H⟩
   ·
    refine ST (Ex.load1 H rfl (by repeat first | exact kMh | apply kMt) Tryz.isAgg88 (by rfl)) rfl ?_
    refine NA ?_
    refine WA.two (i := 3) (j := 9) (by kernel_rfl) rfl rfl ?_ ?_
    ·
     refine ST (Ex.load1 H rfl (by repeat first | exact kMh | apply kMt) Tryz.isAgg88 (by rfl)) rfl ?_
     refine NA ?_
     refine WA.two (i := 4) (j := 9) (by kernel_rfl) rfl rfl ?_ ?_
     ·
      refine WR.sliceData Tryz.underlying128 H (by repeat first | exact kMh | apply kMt) rfl (Wn.none rfl) rfl ?_
      intro q7 w H hq7
      refine NA (WA.seq (fuel := 0) [9, 10, 11] rfl (by kernel_rfl) (ST (Ex.lenRow (l := p0) Tryz.underlying88 H (by repeat first | exact kMh | apply kMt) rfl) rfl ?_))
      refine WR.unsafeStr Tryz.underlying128 (by kernel_rfl) H (by repeat first | exact .head | apply Rem.tail) hq7 rfl rfl (Wn.none rfl) rfl ?_
      intro w H
      refine AS rfl rfl (NA (WA.done (by kernel_rfl) ?_))
      exact WQ.meetP [(2, _)] ⟨rfl, trivial⟩ ⟨_, rfl, H⟩
     ·
      refine ST (Ex.lenRow (l := p0) Tryz.underlying88 H (by repeat first | exact kMh | apply kMt) rfl) rfl ?_
      refine NA (WA.seq (fuel := 0) [4, 10, 11] rfl (by kernel_rfl) (WR.sliceData Tryz.underlying128 H (by repeat first | exact kMh | apply kMt) rfl (Wn.none rfl) rfl ?_))
      intro q7 w H hq7
      refine WR.unsafeStr Tryz.underlying128 (by kernel_rfl) H (by repeat first | exact .head | apply Rem.tail) hq7 rfl rfl (Wn.none rfl) rfl ?_
      intro w H
      refine AS rfl rfl (NA (WA.done (by kernel_rfl) ?_))
      exact WQ.meetP [(2, _)] ⟨rfl, trivial⟩ ⟨_, rfl, H⟩
    ·
     refine ST (Ex.lenRow (l := p0) Tryz.underlying88 H (by repeat first | exact kMh | apply kMt) rfl) rfl ?_
     refine NA (WA.seq (fuel := 0) [3, 4, 10, 11] rfl (by kernel_rfl) (ST (Ex.load1 H rfl (by repeat first | exact kMh | apply kMt) Tryz.isAgg88 (by rfl)) rfl ?_))
     refine WR.sliceData Tryz.underlying128 H (by repeat first | exact kMh | apply kMt) rfl (Wn.none rfl) rfl ?_
     intro q7 w H hq7
     refine WR.unsafeStr Tryz.underlying128 (by kernel_rfl) H (by repeat first | exact .head | apply Rem.tail) hq7 rfl rfl (Wn.none rfl) rfl ?_
     intro w H
     refine AS rfl rfl (NA (WA.done (by kernel_rfl) ?_))
     exact WQ.meetP [(2, _)] ⟨rfl, trivial⟩ ⟨_, rfl, H⟩
  ·
   rintro e w ⟨M, rfl, H⟩
   refine TN (RT ?_)
   obtain rfl := oI h
   exact WQ.retX1 (its := []) rfl rfl H (by repeat first | exact kPn | refine kPc (by repeat first | exact .head | apply Rem.tail) ?_) ⟨rfl, rfl⟩
theorem words_Decode_ct {p0 : List UInt8} {r : (List UInt8 × (Int × Int))} (h : words_Decode p0 = some r) : Ct Tryz.prog 125 [S p0] (fun M => GlF (fun w => ∃ m, w.cell? ⟨2, 0, none⟩ = some (.int .i64 m)) M) (fun v M => v = Value.tuple #[S r.1, Value.agg #[I r.2.1, I r.2.2]]) := by
  refine Ct.of Tryz.func125 (enters Tryz.func125 (by kernel_rfl) rfl) rfl rfl rfl ?_
  intro w0 M0 H hp
  have hg_maxl := hp
  unfold words_Decode at h
  refine SQ (RG (AS rfl rfl (WR.alloc [_, _] H Tryz.zeroValue27 rfl (Wn.none rfl) rfl ?_)))
  intro bk3 w H
  refine NL (TN (SQ (SQ (RG (MV rfl rfl (ST (Ex.lenStr Tryz.underlying9 rfl) rfl (ST (Ex.gtr rfl rfl) rfl (NL (TN ?_)))))))))
  refine WC.condB rfl (fun hk1 => ?_) (fun hk1 => ?_)
  ·
   replace hk1 : (4000 : Int) < (p0.length : Int) := of_decide_eq_true hk1
   rw [if_pos hk1] at h
   refine SQ ?_
   obtain ⟨⟨n2, n3⟩, hx4, h⟩ := bnd h
   try dsimp only at h
   refine RG (WR.call H (basic_Fault_ct hx4) rfl trivial (Wn.none rfl) rfl ?_)
   intro v13 M w H hle hR
   replace hg_maxl := hg_maxl.mono hle
   try dsimp only at hR
   obtain rfl := hR
   refine AS rfl rfl (WR.store [_, _] H rfl rfl rfl (by repeat first | exact .head | apply Upd.tail) Tryz.sizeOf27 rfl (by rfl) (by rfl) (Wn.none rfl) ?_)
   intro w H
   refine NL (TN (RT ?_))
   obtain rfl := oI h
   exact WQ.ret2 rfl rfl ⟨_, rfl, H.loadAgg (by repeat first | exact kMh | apply kMt) Tryz.isAgg27 Tryz.sizeOf27 (by rfl)⟩ H.ext rfl
  ·
   replace hk1 : ¬ ((4000 : Int) < (p0.length : Int)) := of_decide_eq_false hk1
   rw [if_neg hk1] at h
   refine SK (TN (SQ (RG (WR.alloc [_, _] H Tryz.zeroValue96 rfl (Wn.none rfl) rfl ?_))))
   intro bk4 w H
   refine NL (TN (SQ (RG (AS rfl rfl (NL (TN (SQ (SQ (RG (AS rfl rfl (NL (TN ?_))))))))))))
   obtain ⟨o5, e6, h⟩ := bnd h
   refine WC.cutX (fun e w => ∃ (v7 : Value) (l10 : List UInt8) (v11 : Value) (n12 : Int) (M : Mem), e = [(0, S p0), (3, ptr bk3 0), (4, ptr bk4 0), (5, I n12)] ∧ St w0 M0 M [.blk bk3 (.cells #[I 0, I 0] 27), .blk bk4 (.cells #[v7, v11] 96), RowI 5 encB v11 l10] w ∧ GlF (fun w => ∃ m, w.cell? ⟨2, 0, none⟩ = some (.int .i64 m)) M ∧ BPM M bk4 v7 ∧ some (l10, n12) = some o5) [] ?_ ?_ (trivial)
   ·
    refine BL ?_
    replace H := H.newRow 5 encB
    refine WC.loopP (fun m e w => ∃ (v13 : Value) (l16 : List UInt8) (v17 : Value) (n18 : Int) (n19 : Int) (M : Mem), e = [(0, S p0), (3, ptr bk3 0), (4, ptr bk4 0), (5, I n18), (6, I n19)] ∧ St w0 M0 M [.blk bk3 (.cells #[I 0, I 0] 27), .blk bk4 (.cells #[v13, v17] 96), RowI 5 encB v17 l16] w ∧ GlF (fun w => ∃ m, w.cell? ⟨2, 0, none⟩ = some (.int .i64 m)) M ∧ BPM M bk4 v13 ∧ words_Decode_L1 p0 m l16 n18 n19 = some o5) FU [(0, _), (3, _), (4, _), (5, _), (6, _)] ⟨rfl, rfl, rfl, rfl, rfl, trivial⟩ ⟨_, _, _, _, _, _, rfl, (H.pick (L' := [.blk bk3 (.cells #[I 0, I 0] 27), .blk bk4 (.cells #[(Value.pointer none), (Value.slice none 0 0)] 96), RowI 5 encB (Value.slice none 0 0) []]) (by repeat first | exact kPn | refine kPc (by repeat first | exact .head | apply Rem.tail) ?_)), hg_maxl, BPM.nil, e6⟩ ?_
    rintro m20 e w ⟨v13, l16, v17, n18, n19, M, rfl, H, hg_maxl, hs14, e6⟩
    rcases m20 with _ | m20
    · rw [words_Decode_L1] at e6; cases e6
    rw [words_Decode_L1] at e6
    refine SQ (SQ (RG (MV rfl rfl (MV rfl rfl (ST (Ex.lenStr Tryz.underlying9 rfl) rfl (ST (Ex.lss rfl rfl) rfl (NL (TN ?_))))))))
    refine WC.condB rfl (fun hk22 => ?_) (fun hk22 => ?_)
    ·
     replace hk22 : n19 < (p0.length : Int) := of_decide_eq_true hk22
     rw [if_pos hk22] at e6
     refine SK (TN (BL (SQ ?_)))
     obtain ⟨s23, hxs23, e6⟩ := bnd e6
     obtain ⟨⟨s24, n25, b26⟩, hx27, e6⟩ := bnd e6
     try dsimp only at e6
     refine RG (MV rfl rfl (MV rfl rfl (ST (Ex.sliceL Tryz.underlying9 rfl rfl hxs23) rfl (WR.call H (words_read_ct hx27) rfl (hg_maxl) (Wn.none rfl) rfl ?_))))
     intro v22 M w H hle hR
     replace hg_maxl := hg_maxl.mono hle
     replace hs14 := hs14.mono hle
     try dsimp only at hR
     obtain rfl := hR
     refine MV rfl rfl (ST (Ex.extract rfl rfl) rfl (ST (Ex.extract rfl rfl) rfl (ST (Ex.extract rfl rfl) rfl (AS rfl rfl (AS rfl rfl (AS rfl rfl (NL (TN (SQ (SQ (RG (MV rfl rfl (ST (Ex.not rfl) rfl (NL (TN ?_)))))))))))))))
     refine WC.condB rfl (fun hk28 => ?_) (fun hk28 => ?_)
     ·
      replace hk28 : b26 = false := by simpa using hk28
      subst hk28
      rw [if_neg Bool.false_ne_true] at e6
      refine SQ (SQ (RG (MV rfl rfl (ST (Ex.lss rfl rfl) rfl (NL (TN ?_))))))
      obtain ⟨o29, e30, e6⟩ := bnd e6
      refine WC.cutX (fun e w => ∃ (v31 : Value) (l34 : List UInt8) (v35 : Value) (M : Mem), e = [(0, S p0), (3, ptr bk3 0), (4, ptr bk4 0), (5, I n18), (6, I n19)] ∧ St w0 M0 M [.blk bk3 (.cells #[I 0, I 0] 27), .blk bk4 (.cells #[v31, v35] 96), RowI 5 encB v35 l34] w ∧ GlF (fun w => ∃ m, w.cell? ⟨2, 0, none⟩ = some (.int .i64 m)) M ∧ BPM M bk4 v31 ∧ some l34 = some o29) [] ?_ ?_ (trivial)
      ·
       refine WC.condB rfl (fun hk36 => ?_) (fun hk36 => ?_)
       ·
        replace hk36 : n18 < (0 : Int) := of_decide_eq_true hk36
        rw [if_pos hk36] at e30
        obtain ⟨c37, hxc37, e30⟩ := bnd e30
        obtain ⟨⟨b38, l39⟩, hx40, e30⟩ := bnd e30
        try dsimp only at e30
        refine RG (MV rfl rfl (MV rfl rfl (ST (Ex.idxStrC Tryz.underlying9 rfl rfl hxc37) rfl ?_)))
        refine WR.callX (A := [.blk bk4 (.cells #[v13, v17] 96), RowI 5 encB v17 l16]) (B := [.blk bk3 (.cells #[I 0, I 0] 27)]) (H.pick (L' := [.blk bk4 (.cells #[v13, v17] 96), RowI 5 encB v17 l16, .blk bk3 (.cells #[I 0, I 0] 27)]) (by repeat first | exact kPn | refine kPc (by repeat first | exact .head | apply Rem.tail) ?_)) (strings_Builder_WriteByte_ct hx40) (.left (.left (Spl.all _))) rfl (hs14) (Wn.none rfl) rfl ?_
        intro v33 M w its H hle hR
        replace hg_maxl := hg_maxl.mono hle
        replace hs14 := hs14.mono hle
        try dsimp only at hR
        obtain ⟨x33_0, q33_0, u33_0, rfl, f33_0, hq33_0, rfl⟩ := hR
        simp only [List.cons_append, List.nil_append] at H
        refine NL ?_
        exact WQ.meetN [(0, _), (3, _), (4, _), (5, _), (6, _)] ⟨rfl, rfl, rfl, rfl, rfl, trivial⟩ ⟨_, _, _, _, rfl, (H.pick (L' := [.blk bk3 (.cells #[I 0, I 0] 27), .blk bk4 (.cells #[q33_0, u33_0] 96), RowI 5 encB u33_0 l39]) (by repeat first | exact kPn | refine kPc (by repeat first | exact .head | apply Rem.tail) ?_)), hg_maxl, hq33_0, e30⟩
       ·
        replace hk36 : ¬ (n18 < (0 : Int)) := of_decide_eq_false hk36
        rw [if_neg hk36] at e30
        refine SK ?_
        exact WQ.meetN [(0, _), (3, _), (4, _), (5, _), (6, _)] ⟨rfl, rfl, rfl, rfl, rfl, trivial⟩ ⟨_, _, _, _, rfl, H, hg_maxl, hs14, e30⟩
      ·
       rintro e w ⟨v31, l34, v35, M, rfl, H, hg_maxl, hs32, q41⟩
       obtain rfl := oI q41
       refine TN (SQ (SQ ?_))
       obtain ⟨o42, e43, e6⟩ := bnd e6
       refine WC.cutX (fun e w => ∃ (b44 : Bool) (M : Mem), e = [(0, S p0), (3, ptr bk3 0), (4, ptr bk4 0), (5, I n18), (6, I n19), (42, Value.bool b44)] ∧ St w0 M0 M [.blk bk3 (.cells #[I 0, I 0] 27), .blk bk4 (.cells #[v31, v35] 96), RowI 5 encB v35 l34] w ∧ GlF (fun w => ∃ m, w.cell? ⟨2, 0, none⟩ = some (.int .i64 m)) M ∧ BPM M bk4 v31 ∧ some b44 = some o42) [] ?_ ?_ (trivial)
       ·
        by_cases hk45 : (0 : Int) ≤ n18
        ·
         rw [if_pos hk45] at e43
         obtain ⟨c46, hxc46, e43⟩ := bnd e43
         obtain ⟨b47, hx48, e43⟩ := bnd e43
         refine RG (MV rfl rfl (WR.stepE (v' := .bool true) (Ex.geq rfl rfl) (congrArg Value.bool (decide_eq_true hk45)) (Wn.none rfl) rfl rfl (MV rfl rfl (SG (Ex.move rfl) rfl rfl rfl (SG (Ex.move rfl) rfl rfl rfl (SG (Ex.idxStrC Tryz.underlying9 rfl rfl hxc46) rfl rfl rfl (WR.call H (basic_Blank_ct hx48) rfl trivial (Wn.some rfl rfl rfl) rfl ?_)))))))
         intro v40 M w H hle hR
         replace hg_maxl := hg_maxl.mono hle
         replace hs32 := hs32.mono hle
         obtain rfl := hR
         refine SG (Ex.not rfl) rfl rfl rfl (PT rfl rfl rfl (NL ?_))
         exact WQ.meetN [(0, _), (3, _), (4, _), (5, _), (6, _), (42, _)] ⟨rfl, rfl, rfl, rfl, rfl, rfl, trivial⟩ ⟨_, _, rfl, H, hg_maxl, hs32, e43⟩
        ·
         rw [if_neg hk45] at e43
         refine RG (MV rfl rfl (WR.stepE (v' := .bool false) (Ex.geq rfl rfl) (congrArg Value.bool (decide_eq_false hk45)) (Wn.none rfl) rfl rfl (MV rfl rfl (WR.skipN 5 rfl rfl (PF rfl rfl rfl (NL ?_))))))
         exact WQ.meetN [(0, _), (3, _), (4, _), (5, _), (6, _), (42, _)] ⟨rfl, rfl, rfl, rfl, rfl, rfl, trivial⟩ ⟨_, _, rfl, H, hg_maxl, hs32, e43⟩
       ·
        rintro e w ⟨b44, M, rfl, H, hg_maxl, hs32, q49⟩
        obtain rfl := oI q49
        refine TN ?_
        obtain ⟨o50, e51, e6⟩ := bnd e6
        refine WC.cutX (fun e w => ∃ (v52 : Value) (l55 : List UInt8) (v56 : Value) (n57 : Int) (M : Mem), e = [(0, S p0), (3, ptr bk3 0), (4, ptr bk4 0), (5, I n57), (6, I n19)] ∧ St w0 M0 M [.blk bk3 (.cells #[I 0, I 0] 27), .blk bk4 (.cells #[v52, v56] 96), RowI 5 encB v56 l55] w ∧ GlF (fun w => ∃ m, w.cell? ⟨2, 0, none⟩ = some (.int .i64 m)) M ∧ BPM M bk4 v52 ∧ some (l55, n57) = some o50) [] ?_ ?_ (trivial)
        ·
         refine WC.condB rfl (fun hk58 => ?_) (fun hk58 => ?_)
         ·
          subst hk58
          rw [if_pos rfl] at e51
          refine SQ ?_
          obtain ⟨n59, hxn59, e51⟩ := bnd e51
          obtain ⟨s60, hxs60, e51⟩ := bnd e51
          obtain ⟨⟨n61, b62, l63⟩, hx64, e51⟩ := bnd e51
          try dsimp only at e51
          refine RG (MV rfl rfl (MV rfl rfl (MV rfl rfl (ST (Ex.addC rfl rfl hxn59) rfl (ST (Ex.sliceC Tryz.underlying9 rfl rfl rfl hxs60) rfl ?_)))))
          refine WR.callX (A := [.blk bk4 (.cells #[v31, v35] 96), RowI 5 encB v35 l34]) (B := [.blk bk3 (.cells #[I 0, I 0] 27)]) (H.pick (L' := [.blk bk4 (.cells #[v31, v35] 96), RowI 5 encB v35 l34, .blk bk3 (.cells #[I 0, I 0] 27)]) (by repeat first | exact kPn | refine kPc (by repeat first | exact .head | apply Rem.tail) ?_)) (strings_Builder_WriteString_ct hx64) (.left (.left (Spl.all _))) rfl (hs32) (Wn.none rfl) rfl ?_
          intro v48 M w its H hle hR
          replace hg_maxl := hg_maxl.mono hle
          replace hs32 := hs32.mono hle
          try dsimp only at hR
          obtain ⟨x48_1, q48_0, u48_0, rfl, f48_1, hq48_0, rfl⟩ := hR
          simp only [List.cons_append, List.nil_append] at H
          refine NL (TN (RG (AS rfl rfl (NL ?_))))
          exact WQ.meetN [(0, _), (3, _), (4, _), (5, _), (6, _)] ⟨rfl, rfl, rfl, rfl, rfl, trivial⟩ ⟨_, _, _, _, _, rfl, (H.pick (L' := [.blk bk3 (.cells #[I 0, I 0] 27), .blk bk4 (.cells #[q48_0, u48_0] 96), RowI 5 encB u48_0 l63]) (by repeat first | exact kPn | refine kPc (by repeat first | exact .head | apply Rem.tail) ?_)), hg_maxl, hq48_0, e51⟩
         ·
          subst hk58
          rw [if_neg Bool.false_ne_true] at e51
          refine SK ?_
          exact WQ.meetN [(0, _), (3, _), (4, _), (5, _), (6, _)] ⟨rfl, rfl, rfl, rfl, rfl, trivial⟩ ⟨_, _, _, _, _, rfl, H, hg_maxl, hs32, e51⟩
        ·
         rintro e w ⟨v52, l55, v56, n57, M, rfl, H, hg_maxl, hs53, q65⟩
         obtain rfl := oI q65
         try dsimp only at e6
         refine TN (SQ ?_)
         obtain ⟨n66, hxn66, e6⟩ := bnd e6
         refine RG (MV rfl rfl (ST (Ex.addC rfl rfl hxn66) rfl (AS rfl rfl (NL (TN (WC.exit (WQ.thenExit (WQ.exitHere ?_))))))))
         exact WQ.againP m20 [(0, _), (3, _), (4, _), (5, _), (6, _)] ⟨rfl, rfl, rfl, rfl, rfl, trivial⟩ ⟨_, _, _, _, _, _, rfl, H, hg_maxl, hs53, e6⟩ (Nat.lt_succ_self _)
     ·
      replace hk28 : b26 = true := by simpa using hk28
      subst hk28
      rw [if_pos rfl] at e6
      refine SK (TN (SQ ?_))
      obtain ⟨⟨n67, b68, l69⟩, hx70, e6⟩ := bnd e6
      try dsimp only at e6
      refine RG (MV rfl rfl ?_)
      refine WR.callX (A := [.blk bk4 (.cells #[v13, v17] 96), RowI 5 encB v17 l16]) (B := [.blk bk3 (.cells #[I 0, I 0] 27)]) (H.pick (L' := [.blk bk4 (.cells #[v13, v17] 96), RowI 5 encB v17 l16, .blk bk3 (.cells #[I 0, I 0] 27)]) (by repeat first | exact kPn | refine kPc (by repeat first | exact .head | apply Rem.tail) ?_)) (strings_Builder_WriteString_ct hx70) (.left (.left (Spl.all _))) rfl (hs14) (Wn.none rfl) rfl ?_
      intro v52 M w its H hle hR
      replace hg_maxl := hg_maxl.mono hle
      replace hs14 := hs14.mono hle
      try dsimp only at hR
      obtain ⟨x52_1, q52_0, u52_0, rfl, f52_1, hq52_0, rfl⟩ := hR
      simp only [List.cons_append, List.nil_append] at H
      refine NL (TN (SQ ?_))
      obtain ⟨n71, hxn71, e6⟩ := bnd e6
      refine RG (MV rfl rfl (MV rfl rfl (ST (Ex.addC rfl rfl hxn71) rfl (AS rfl rfl (NL (TN (RG (MV rfl rfl (AS rfl rfl (NL (IB ?_)))))))))))
      exact WQ.againP m20 [(0, _), (3, _), (4, _), (5, _), (6, _)] ⟨rfl, rfl, rfl, rfl, rfl, trivial⟩ ⟨_, _, _, _, _, _, rfl, (H.pick (L' := [.blk bk3 (.cells #[I 0, I 0] 27), .blk bk4 (.cells #[q52_0, u52_0] 96), RowI 5 encB u52_0 l69]) (by repeat first | exact kPn | refine kPc (by repeat first | exact .head | apply Rem.tail) ?_)), hg_maxl, hq52_0, e6⟩ (Nat.lt_succ_self _)
    ·
     replace hk22 : ¬ (n19 < (p0.length : Int)) := of_decide_eq_false hk22
     rw [if_neg hk22] at e6
     refine WC.exit (WQ.thenExit (WQ.thenExit (WQ.exitHere ?_)))
     exact WQ.meetN [(0, _), (3, _), (4, _), (5, _)] ⟨rfl, rfl, rfl, rfl, trivial⟩ ⟨_, _, _, _, _, rfl, H, hg_maxl, hs14, e6⟩
   ·
    rintro e w ⟨v7, l10, v11, n12, M, rfl, H, hg_maxl, hs8, q72⟩
    obtain rfl := oI q72
    try dsimp only at h
    refine TN (SQ (SQ (RG (MV rfl rfl (ST (Ex.geq rfl rfl) rfl (NL (TN ?_)))))))
    obtain ⟨o73, e74, h⟩ := bnd h
    refine WC.cutX (fun e w => ∃ (v75 : Value) (l78 : List UInt8) (v79 : Value) (M : Mem), e = [(3, ptr bk3 0), (4, ptr bk4 0)] ∧ St w0 M0 M [.blk bk3 (.cells #[I 0, I 0] 27), .blk bk4 (.cells #[v75, v79] 96), RowI 5 encB v79 l78] w ∧ GlF (fun w => ∃ m, w.cell? ⟨2, 0, none⟩ = some (.int .i64 m)) M ∧ BPM M bk4 v75 ∧ some l78 = some o73) [] ?_ ?_ (trivial)
    ·
     refine WC.condB rfl (fun hk80 => ?_) (fun hk80 => ?_)
     ·
      replace hk80 : (0 : Int) ≤ n12 := of_decide_eq_true hk80
      rw [if_pos hk80] at e74
      obtain ⟨s81, hxs81, e74⟩ := bnd e74
      obtain ⟨⟨n82, b83, l84⟩, hx85, e74⟩ := bnd e74
      try dsimp only at e74
      refine RG (MV rfl rfl (MV rfl rfl (ST (Ex.sliceL Tryz.underlying9 rfl rfl hxs81) rfl ?_)))
      refine WR.callX (A := [.blk bk4 (.cells #[v7, v11] 96), RowI 5 encB v11 l10]) (B := [.blk bk3 (.cells #[I 0, I 0] 27)]) (H.pick (L' := [.blk bk4 (.cells #[v7, v11] 96), RowI 5 encB v11 l10, .blk bk3 (.cells #[I 0, I 0] 27)]) (by repeat first | exact kPn | refine kPc (by repeat first | exact .head | apply Rem.tail) ?_)) (strings_Builder_WriteString_ct hx85) (.left (.left (Spl.all _))) rfl (hs8) (Wn.none rfl) rfl ?_
      intro v62 M w its H hle hR
      replace hg_maxl := hg_maxl.mono hle
      replace hs8 := hs8.mono hle
      try dsimp only at hR
      obtain ⟨x62_1, q62_0, u62_0, rfl, f62_1, hq62_0, rfl⟩ := hR
      simp only [List.cons_append, List.nil_append] at H
      refine NL ?_
      exact WQ.meetN [(3, _), (4, _)] ⟨rfl, rfl, trivial⟩ ⟨_, _, _, _, rfl, (H.pick (L' := [.blk bk3 (.cells #[I 0, I 0] 27), .blk bk4 (.cells #[q62_0, u62_0] 96), RowI 5 encB u62_0 l84]) (by repeat first | exact kPn | refine kPc (by repeat first | exact .head | apply Rem.tail) ?_)), hg_maxl, hq62_0, e74⟩
     ·
      replace hk80 : ¬ ((0 : Int) ≤ n12) := of_decide_eq_false hk80
      rw [if_neg hk80] at e74
      refine SK ?_
      exact WQ.meetN [(3, _), (4, _)] ⟨rfl, rfl, trivial⟩ ⟨_, _, _, _, rfl, H, hg_maxl, hs8, e74⟩
    ·
     rintro e w ⟨v75, l78, v79, M, rfl, H, hg_maxl, hs76, q86⟩
     obtain rfl := oI q86
     refine TN (SQ ?_)
     obtain ⟨s87, hx88, h⟩ := bnd h
     obtain ⟨⟨n89, n90⟩, hx91, h⟩ := bnd h
     try dsimp only at h
     refine RG ?_
     refine WR.callX (A := [.blk bk4 (.cells #[v75, v79] 96), RowI 5 encB v79 l78]) (B := [.blk bk3 (.cells #[I 0, I 0] 27)]) (H.pick (L' := [.blk bk4 (.cells #[v75, v79] 96), RowI 5 encB v79 l78, .blk bk3 (.cells #[I 0, I 0] 27)]) (by repeat first | exact kPn | refine kPc (by repeat first | exact .head | apply Rem.tail) ?_)) (strings_Builder_String_ct hx88) (.left (.left (Spl.all _))) rfl (hs76) (Wn.none rfl) rfl ?_
     intro v63 M w its H hle hR
     replace hg_maxl := hg_maxl.mono hle
     replace hs76 := hs76.mono hle
     obtain ⟨rfl, rfl⟩ := hR
     simp only [List.cons_append, List.nil_append] at H
     refine WR.call H (basic_None_ct hx91) rfl trivial (Wn.none rfl) rfl ?_
     intro v64 M w H hle hR
     replace hg_maxl := hg_maxl.mono hle
     replace hs76 := hs76.mono hle
     try dsimp only at hR
     obtain rfl := hR
     refine AS rfl rfl (WR.store [_, _] H rfl rfl rfl (by repeat first | exact .head | apply Upd.tail) Tryz.sizeOf27 rfl (by rfl) (by rfl) (Wn.none rfl) ?_)
     intro w H
     refine NL (TN (RT ?_))
     obtain rfl := oI h
     exact WQ.ret2 rfl rfl ⟨_, rfl, H.loadAgg (by repeat first | exact kMh | apply kMt) Tryz.isAgg27 Tryz.sizeOf27 (by rfl)⟩ H.ext rfl
theorem address_named_1_ct {p0 : List (List UInt8)} {p1 : List (List UInt8)} {bp0 : Nat} {vp0 : Value} {bp1 : Nat} {vp1 : Value} {r : (List (List UInt8) × List (List UInt8))} (h : address_named_1 p0 p1 = some r) : CtX Tryz.prog 124 [ptr bp0 0, ptr bp1 0] [.blk bp0 (.cells #[vp0] 55), RowI 9 encS vp0 p0, .blk bp1 (.cells #[vp1] 55), RowI 9 encS vp1 p1] (fun M => GlF (fun w => ∃ m, w.cell? ⟨2, 0, none⟩ = some (.int .i64 m)) M) (fun v M its => ∃ up0 up1, v = Value.tuple #[] ∧ its = [.blk bp0 (.cells #[up0] 55), RowI 9 encS up0 r.1, .blk bp1 (.cells #[up1] 55), RowI 9 encS up1 r.2]) := by
  refine CtX.of Tryz.func124 (enters Tryz.func124 (by kernel_rfl) rfl) rfl rfl rfl ?_
  intro w0 M0 H hp
  have hg_maxl := hp
  unfold address_named_1 at h
  refine SQ (RG (ST (Ex.load1 H rfl (by repeat first | exact kMh | apply kMt) Tryz.isAgg55 (by rfl)) rfl ?_))
  refine ST (Ex.lenRow (l := p0) Tryz.underlying55 H (by repeat first | exact kMh | apply kMt) rfl) rfl ?_
  refine ST (Ex.gtr rfl rfl) rfl (NL (TN ?_))
  refine WC.condB rfl (fun hk3 => ?_) (fun hk3 => ?_)
  ·
   replace hk3 : (0 : Int) < (p0.length : Int) := of_decide_eq_true hk3
   rw [if_pos hk3] at h
   refine SQ ?_
   obtain ⟨s4, hx5, h⟩ := bnd h
   obtain ⟨⟨s6, ⟨n7, n8⟩⟩, hx9, h⟩ := bnd h
   try dsimp only at h
   refine RG (ST (Ex.load1 H rfl (by repeat first | exact kMh | apply kMt) Tryz.isAgg55 (by rfl)) rfl ?_)
   refine WR.callLend (l := p0) H (by repeat first | exact kMh | apply kMt) (strings_Join_ct hx5) (fun _ _ _ h => h) rfl (fun _ hb1 hbor => hbor) (Wn.none rfl) rfl ?_
   intro v9 M w H hle hR
   replace hg_maxl := hg_maxl.mono hle
   obtain rfl := hR
   refine WR.call H (words_Decode_ct hx9) rfl (hg_maxl) (Wn.none rfl) rfl ?_
   intro v10 M w H hle hR
   replace hg_maxl := hg_maxl.mono hle
   try dsimp only at hR
   obtain rfl := hR
   refine MV rfl rfl (ST (Ex.extract rfl rfl) rfl (ST (Ex.extract rfl rfl) rfl (WR.alloc [_, _] H Tryz.zeroValue27 rfl (Wn.none rfl) rfl ?_)))
   intro bk3 w H
   refine AS rfl rfl (WR.store [_, _] H rfl rfl rfl (by repeat first | exact .head | apply Upd.tail) Tryz.sizeOf27 rfl (by rfl) (by rfl) (Wn.none rfl) ?_)
   intro w H
   refine NL (TN ?_)
   obtain ⟨l10, hxl10, h⟩ := bnd h
   refine RG (ST (Ex.load1 H rfl (by repeat first | exact kMh | apply kMt) Tryz.isAgg55 (by rfl)) rfl ?_)
   refine MV rfl rfl (WR.lit (enc := encS) xty55 ([s6] : List (List UInt8)) H rfl (by rfl) (fun _ => rfl) rfl rfl (Wn.none rfl) rfl ?_)
   intro v15 M w H hle hs15
   replace hg_maxl := hg_maxl.mono hle
   refine WR.appC (l := p1) xty55 rfl (fun _ => rfl) H rfl (fun _ => by repeat first | exact .head | apply Upd.tail) rfl (hs15) hxl10 (Wn.none rfl) rfl ?_
   intro v16 w H
   refine WR.putV [_] H rfl rfl (H.rowOne (by repeat first | exact kMh | apply kMt)) (by repeat first | exact .head | apply Upd.tail) (by rfl) Tryz.sizeOf55 (by first | decide | (simp; done) | (simp; omega)) (Wn.none rfl) ?_
   intro w H
   refine WR.putV [_] H rfl rfl (One.slice _ _ _) (by repeat first | exact .head | apply Upd.tail) (by rfl) Tryz.sizeOf55 (by first | decide | (simp; done) | (simp; omega)) (Wn.none rfl) ?_
   intro w H
   refine NL ?_
   replace H := H.newRow 9 encS
   obtain rfl := oI h
   exact WQ.endX0 (its := [.blk bp0 (.cells #[(Value.slice none 0 0)] 55), RowI 9 encS (Value.slice none 0 0) [], .blk bp1 (.cells #[v16] 55), RowI 9 encS v16 l10]) rfl H (by repeat first | exact kPn | refine kPc (by repeat first | exact .head | apply Rem.tail) ?_) ⟨_, _, rfl, rfl⟩
  ·
   replace hk3 : ¬ ((0 : Int) < (p0.length : Int)) := of_decide_eq_false hk3
   rw [if_neg hk3] at h
   refine SK ?_
   obtain rfl := oI h
   exact WQ.endX0 (its := [.blk bp0 (.cells #[vp0] 55), RowI 9 encS vp0 p0, .blk bp1 (.cells #[vp1] 55), RowI 9 encS vp1 p1]) rfl H (by repeat first | exact kPn | refine kPc (by repeat first | exact .head | apply Rem.tail) ?_) ⟨_, _, rfl, rfl⟩
theorem address_named_ct {p0 : List (List UInt8 × Bool)} {vp0 : Value} {r : List UInt8} (h : address_named p0 = some r) : Ct Tryz.prog 87 [vp0] (fun M => GlF (fun w => ∃ m, w.cell? ⟨2, 0, none⟩ = some (.int .i64 m)) M ∧ SlS M 2 xenc136 vp0 p0) (fun v M => v = S r) := by
  refine Ct.of Tryz.func87 (enters Tryz.func87 (by kernel_rfl) rfl) rfl rfl rfl ?_
  intro w0 M0 H hp
  obtain ⟨hg_maxl, hp0⟩ := hp
  unfold address_named at h
  refine SQ (RG (AS rfl rfl (NL (TN (SQ (RG (WR.alloc [_] H Tryz.zeroValue55 rfl (Wn.none rfl) rfl ?_)))))))
  intro bk3 w H
  refine WR.alloc [_] H Tryz.zeroValue55 rfl (Wn.none rfl) rfl ?_
  intro bk4 w H
  refine NL (TN (SQ (RG (ST (Ex.makeFunc rfl) rfl (AS rfl rfl (NL (TN (SQ (SQ (RG (MV rfl rfl (ST (Ex.lenSlS Tryz.underlying107 hp0 rfl) rfl (MV rfl rfl (NL (TN ?_)))))))))))))))
  obtain ⟨o1, e2, h⟩ := bnd h
  refine WC.cutX (fun e w => ∃ (l4 : List (List UInt8)) (v5 : Value) (l7 : List (List UInt8)) (v8 : Value) (M : Mem), e = [(3, ptr bk3 0), (5, (Value.func (.func 124) #[] #[ptr bk4 0, ptr bk3 0]))] ∧ St w0 M0 M [.blk bk3 (.cells #[v5] 55), RowI 9 encS v5 l4, .blk bk4 (.cells #[v8] 55), RowI 9 encS v8 l7] w ∧ GlF (fun w => ∃ m, w.cell? ⟨2, 0, none⟩ = some (.int .i64 m)) M ∧ some (l4, l7) = some o1) [] ?_ ?_ (trivial)
  ·
   refine BL ?_
   replace H := H.newRow 9 encS
   replace H := H.newRow 9 encS
   refine WC.loopP (fun m e w => ∃ (l10 : List (List UInt8)) (v11 : Value) (l13 : List (List UInt8)) (v14 : Value) (n15 : Int) (M : Mem), e = [(3, ptr bk3 0), (4, ptr bk4 0), (5, (Value.func (.func 124) #[] #[ptr bk4 0, ptr bk3 0])), (9, vp0), (10, I (p0.length : Int)), (11, I n15)] ∧ St w0 M0 M [.blk bk3 (.cells #[v11] 55), RowI 9 encS v11 l10, .blk bk4 (.cells #[v14] 55), RowI 9 encS v14 l13] w ∧ GlF (fun w => ∃ m, w.cell? ⟨2, 0, none⟩ = some (.int .i64 m)) M ∧ SlS M 2 xenc136 vp0 p0 ∧ address_named_L1 p0 m l10 l13 n15 = some o1) FU [(3, _), (4, _), (5, _), (9, _), (10, _), (11, _)] ⟨rfl, rfl, rfl, rfl, rfl, rfl, trivial⟩ ⟨_, _, _, _, _, _, rfl, (H.pick (L' := [.blk bk3 (.cells #[(Value.slice none 0 0)] 55), RowI 9 encS (Value.slice none 0 0) [], .blk bk4 (.cells #[(Value.slice none 0 0)] 55), RowI 9 encS (Value.slice none 0 0) []]) (by repeat first | exact kPn | refine kPc (by repeat first | exact .head | apply Rem.tail) ?_)), hg_maxl, hp0, e2⟩ ?_
   rintro m16 e w ⟨l10, v11, l13, v14, n15, M, rfl, H, hg_maxl, hp0, e2⟩
   rcases m16 with _ | m16
   · rw [address_named_L1] at e2; cases e2
   rw [address_named_L1] at e2
   refine SQ (RG (ST (Ex.lss rfl rfl) rfl (NL (TN (SQ ?_)))))
   refine WC.condB rfl (fun hk19 => ?_) (fun hk19 => ?_)
   ·
    replace hk19 : n15 < (p0.length : Int) := of_decide_eq_true hk19
    rw [if_pos hk19] at e2
    refine SK (TN (SQ (BL (SQ ?_))))
    obtain ⟨a20, hxa20, e2⟩ := bnd e2
    obtain ⟨bk13, o13, ha13, hc13⟩ := hp0.atC hxa20
    refine RG (ST (Ex.idxAt ha13 Tryz.underlying107 Tryz.sizeOf136 rfl rfl) rfl (ST (Ex.loadAggM H rfl hc13 Tryz.isAgg136 Tryz.sizeOf136 (by rfl)) rfl ?_))
    refine WR.alloc [_, _] H Tryz.zeroValue136 rfl (Wn.none rfl) rfl ?_
    intro bk7 w H
    refine WR.store [_, _] H rfl rfl rfl (by repeat first | exact .head | apply Upd.tail) Tryz.sizeOf136 rfl (by rfl) (by rfl) (Wn.none rfl) ?_
    intro w H
    refine NL (TN (SQ (RG (ST (Ex.fieldAddr Tryz.underlying136 rfl Tryz.sizeOf4 (by decide) rfl) rfl (ST (Ex.load1 H rfl (by repeat first | exact kMh | apply kMt) Tryz.isAgg4 (by rfl)) rfl ?_)))))
    refine NL (TN ?_)
    refine WC.condB rfl (fun hk21 => ?_) (fun hk21 => ?_)
    ·
     rw [if_pos hk21] at e2
     refine SQ ?_
     obtain ⟨⟨o22, o23⟩, hx24, e2⟩ := bnd e2
     try dsimp only at e2
     refine RG (MV rfl rfl ?_)
     refine WR.callVX (cap := [ptr bk4 0, ptr bk3 0]) (A := [.blk bk4 (.cells #[v14] 55), RowI 9 encS v14 l13, .blk bk3 (.cells #[v11] 55), RowI 9 encS v11 l10]) (B := [.blk bk7 (.cells #[S a20.1, Value.bool a20.2] 136)]) (H.pick (L' := [.blk bk4 (.cells #[v14] 55), RowI 9 encS v14 l13, .blk bk3 (.cells #[v11] 55), RowI 9 encS v11 l10, .blk bk7 (.cells #[S a20.1, Value.bool a20.2] 136)]) (by repeat first | exact kPn | refine kPc (by repeat first | exact .head | apply Rem.tail) ?_)) (address_named_1_ct hx24) (.left (.left (.left (.left (Spl.all _))))) rfl rfl (hg_maxl) (Wn.none rfl) rfl ?_
     intro v18 M w its H hle hR
     replace hg_maxl := hg_maxl.mono hle
     replace hp0 := hp0.mono hle
     replace hc13 := hc13.mono hle
     try dsimp only at hR
     obtain ⟨u18_0, u18_1, rfl, rfl⟩ := hR
     simp only [List.cons_append, List.nil_append] at H
     refine NL (TN ?_)
     obtain ⟨l25, hxl25, e2⟩ := bnd e2
     refine RG (ST (Ex.load1 H rfl (by repeat first | exact kMh | apply kMt) Tryz.isAgg55 (by rfl)) rfl ?_)
     refine ST (Ex.fieldAddr Tryz.underlying136 rfl Tryz.sizeOf9 (by decide) rfl) rfl (ST (Ex.load1 H rfl (by repeat first | exact kMh | apply kMt) Tryz.isAgg9 (by rfl)) rfl ?_)
     refine WR.lit (enc := encS) xty55 ([a20.1] : List (List UInt8)) H rfl (by rfl) (fun _ => rfl) rfl rfl (Wn.none rfl) rfl ?_
     intro v22 M w H hle hs22
     replace hg_maxl := hg_maxl.mono hle
     replace hp0 := hp0.mono hle
     replace hc13 := hc13.mono hle
     refine WR.appC (l := o23) xty55 rfl (fun _ => rfl) H rfl (fun _ => by repeat first | exact .head | apply Upd.tail) rfl (hs22) hxl25 (Wn.none rfl) rfl ?_
     intro v23 w H
     refine WR.putV [_] H rfl rfl (H.rowOne (by repeat first | exact kMh | apply kMt)) (by repeat first | exact .head | apply Upd.tail) (by rfl) Tryz.sizeOf55 (by first | decide | (simp; done) | (simp; omega)) (Wn.none rfl) ?_
     intro w H
     refine NL (IB (TN ?_))
     obtain ⟨n26, hxn26, e2⟩ := bnd e2
     refine RG (ST (Ex.addC rfl rfl hxn26) rfl (MV rfl rfl (NL ?_)))
     exact WQ.againP m16 [(3, _), (4, _), (5, _), (9, _), (10, _), (11, _)] ⟨rfl, rfl, rfl, rfl, rfl, rfl, trivial⟩ ⟨_, _, _, _, _, _, rfl, (H.pick (L' := [.blk bk3 (.cells #[v23] 55), RowI 9 encS v23 l25, .blk bk4 (.cells #[u18_0] 55), RowI 9 encS u18_0 o22]) (by repeat first | exact kPn | refine kPc (by repeat first | exact .head | apply Rem.tail) ?_)), hg_maxl, hp0, e2⟩ (Nat.lt_succ_self _)
    ·
     rw [if_neg (by rw [hk21]; exact Bool.false_ne_true)] at e2
     obtain ⟨l27, hxl27, e2⟩ := bnd e2
     refine RG (ST (Ex.load1 H rfl (by repeat first | exact kMh | apply kMt) Tryz.isAgg55 (by rfl)) rfl ?_)
     refine ST (Ex.fieldAddr Tryz.underlying136 rfl Tryz.sizeOf9 (by decide) rfl) rfl (ST (Ex.load1 H rfl (by repeat first | exact kMh | apply kMt) Tryz.isAgg9 (by rfl)) rfl ?_)
     refine WR.lit (enc := encS) xty55 ([a20.1] : List (List UInt8)) H rfl (by rfl) (fun _ => rfl) rfl rfl (Wn.none rfl) rfl ?_
     intro v27 M w H hle hs27
     replace hg_maxl := hg_maxl.mono hle
     replace hp0 := hp0.mono hle
     replace hc13 := hc13.mono hle
     refine WR.appC (l := l13) xty55 rfl (fun _ => rfl) H rfl (fun _ => by repeat first | exact .head | apply Upd.tail) rfl (hs27) hxl27 (Wn.none rfl) rfl ?_
     intro v28 w H
     refine WR.putV [_] H rfl rfl (H.rowOne (by repeat first | exact kMh | apply kMt)) (by repeat first | exact .head | apply Upd.tail) (by rfl) Tryz.sizeOf55 (by first | decide | (simp; done) | (simp; omega)) (Wn.none rfl) ?_
     intro w H
     refine NL (IB (TN ?_))
     obtain ⟨n28, hxn28, e2⟩ := bnd e2
     refine RG (ST (Ex.addC rfl rfl hxn28) rfl (MV rfl rfl (NL ?_)))
     exact WQ.againP m16 [(3, _), (4, _), (5, _), (9, _), (10, _), (11, _)] ⟨rfl, rfl, rfl, rfl, rfl, rfl, trivial⟩ ⟨_, _, _, _, _, _, rfl, (H.pick (L' := [.blk bk3 (.cells #[v11] 55), RowI 9 encS v11 l10, .blk bk4 (.cells #[v28] 55), RowI 9 encS v28 l27]) (by repeat first | exact kPn | refine kPc (by repeat first | exact .head | apply Rem.tail) ?_)), hg_maxl, hp0, e2⟩ (Nat.lt_succ_self _)
   ·
    replace hk19 : ¬ (n15 < (p0.length : Int)) := of_decide_eq_false hk19
    rw [if_neg hk19] at e2
    refine WC.exit (WQ.thenExit (WQ.thenExit (WQ.exitHere ?_)))
    exact WQ.meetN [(3, _), (5, _)] ⟨rfl, rfl, trivial⟩ ⟨_, _, _, _, _, rfl, H, hg_maxl, e2⟩
  ·
   rintro e w ⟨l4, v5, l7, v8, M, rfl, H, hg_maxl, q29⟩
   obtain rfl := oI q29
   try dsimp only at h
   refine TN (SQ ?_)
   obtain ⟨⟨o30, o31⟩, hx32, h⟩ := bnd h
   try dsimp only at h
   refine RG (MV rfl rfl ?_)
   refine WR.callVX (cap := [ptr bk4 0, ptr bk3 0]) (A := [.blk bk4 (.cells #[v8] 55), RowI 9 encS v8 l7, .blk bk3 (.cells #[v5] 55), RowI 9 encS v5 l4]) (B := []) (H.pick (L' := [.blk bk4 (.cells #[v8] 55), RowI 9 encS v8 l7, .blk bk3 (.cells #[v5] 55), RowI 9 encS v5 l4]) (by repeat first | exact kPn | refine kPc (by repeat first | exact .head | apply Rem.tail) ?_)) (address_named_1_ct hx32) (.left (.left (.left (.left (Spl.all _))))) rfl rfl (hg_maxl) (Wn.none rfl) rfl ?_
   intro v31 M w its H hle hR
   replace hg_maxl := hg_maxl.mono hle
   try dsimp only at hR
   obtain ⟨u31_0, u31_1, rfl, rfl⟩ := hR
   simp only [List.cons_append, List.nil_append] at H
   refine NL (TN (SQ ?_))
   obtain ⟨s34, hx35, h⟩ := bnd h
   refine RG (ST (Ex.load1 H rfl (by repeat first | exact kMh | apply kMt) Tryz.isAgg55 (by rfl)) rfl ?_)
   obtain ⟨M, hle, hs33, H⟩ := H.freezeRow (v := u31_1) (enc := encS) (t := 9) (by repeat first | exact .head | apply Rem.tail)
   replace hg_maxl := hg_maxl.mono hle
   refine WR.call H (strings_Join_ct hx35) rfl (hs33) (Wn.none rfl) rfl ?_
   intro v33 M w H hle hR
   replace hg_maxl := hg_maxl.mono hle
   replace hs33 := hs33.mono hle
   obtain rfl := hR
   refine AS rfl rfl (NL (TN (RT ?_)))
   obtain rfl := oI h
   exact WQ.ret1 rfl rfl H.ext rfl
theorem address_reader_address_ct {p0 : (List UInt8 × Int)} {p1 : List (List UInt8 × Bool)} {bp0 : Nat} {vp1 : Value} {r : (((List UInt8 × List UInt8 × List UInt8) × (List UInt8 × Int)) ⊕ Int)} (h : address_reader_address p0 p1 = some r) : CtS Tryz.prog 86 [ptr bp0 0, vp1] [.blk bp0 (.cells #[S p0.1, I p0.2] 72)] (fun M => GlF (fun w => ∃ m, w.cell? ⟨2, 0, none⟩ = some (.int .i64 m)) M ∧ Tabs M ∧ SlS M 2 xenc136 vp1 p1) (fun x => fun v M its => v = Value.agg #[S x.1.1, S x.1.2.1, S x.1.2.2] ∧ its = [.blk bp0 (.cells #[S x.2.1, I x.2.2] 72)]) (fun n => Value.iface 69 (Value.agg #[I n])) r := by
  refine CtS.of Tryz.func86 (enters Tryz.func86 (by kernel_rfl) rfl) rfl rfl rfl ?_
  intro w0 M0 H hp
  obtain ⟨hg_maxl, hg_tabs, hp1⟩ := hp
  unfold address_reader_address at h
  refine SQ (RG (WR.alloc [_, _, _] H Tryz.zeroValue24 rfl (Wn.none rfl) rfl ?_))
  intro bk4 w H
  refine NL (TN (SQ (SQ ?_)))
  obtain ⟨o4, hx3, h⟩ := bnd h
  rcases o4 with ⟨b1, o2⟩ | n5
  ·
   try dsimp only at h
   refine RG (MV rfl rfl ?_)
   refine WR.callX (A := [.blk bp0 (.cells #[S p0.1, I p0.2] 72)]) (B := [.blk bk4 (.cells #[S [], S [], S []] 24)]) (H.pick (L' := [.blk bp0 (.cells #[S p0.1, I p0.2] 72), .blk bk4 (.cells #[S [], S [], S []] 24)]) (by repeat first | exact kPn | refine kPc (by repeat first | exact .head | apply Rem.tail) ?_)) (address_reader_is_ct hx3) (.left (Spl.all _)) rfl trivial (Wn.none rfl) rfl ?_
   intro v7 M w its H hle hR
   replace hg_maxl := hg_maxl.mono hle
   replace hg_tabs := hg_tabs.mono hle
   replace hp1 := hp1.mono hle
   try dsimp only at hR
   obtain ⟨rfl, rfl⟩ := hR
   simp only [List.cons_append, List.nil_append] at H
   refine ST (Ex.not rfl) rfl (NL (TN ?_))
   refine WC.condB rfl (fun hk6 => ?_) (fun hk6 => ?_)
   ·
    replace hk6 : b1 = false := by simpa using hk6
    subst hk6
    rw [if_neg Bool.false_ne_true] at h
    refine SQ ?_
    obtain ⟨o12, hx11, h⟩ := bnd h
    rcases o12 with ⟨⟨s7, s8, s9⟩, o10⟩ | n13
    ·
     try dsimp only at h
     refine RG (MV rfl rfl (MV rfl rfl ?_))
     refine WR.callX (A := [.blk bp0 (.cells #[S o2.1, I o2.2] 72)]) (B := [.blk bk4 (.cells #[S [], S [], S []] 24)]) (H.pick (L' := [.blk bp0 (.cells #[S o2.1, I o2.2] 72), .blk bk4 (.cells #[S [], S [], S []] 24)]) (by repeat first | exact kPn | refine kPc (by repeat first | exact .head | apply Rem.tail) ?_)) (address_reader_specific_ct hx11) (.left (Spl.all _)) rfl ⟨hg_maxl, hg_tabs, hp1⟩ (Wn.none rfl) rfl ?_
     intro v11 M w its H hle hR
     replace hg_maxl := hg_maxl.mono hle
     replace hg_tabs := hg_tabs.mono hle
     replace hp1 := hp1.mono hle
     try dsimp only at hR
     obtain ⟨rfl, rfl⟩ := hR
     simp only [List.cons_append, List.nil_append] at H
     refine WR.store [_, _, _] H rfl rfl rfl (by repeat first | exact .head | apply Upd.tail) Tryz.sizeOf24 rfl (by rfl) (by rfl) (Wn.none rfl) ?_
     intro w H
     refine NL (TN (RT ?_))
     obtain rfl := oI h
     exact WQ.retX1 (its := [.blk bp0 (.cells #[S o10.1, I o10.2] 72)]) rfl ⟨_, rfl, H.loadAgg (by repeat first | exact kMh | apply kMt) Tryz.isAgg24 Tryz.sizeOf24 (by rfl)⟩ H (by repeat first | exact kPn | refine kPc (by repeat first | exact .head | apply Rem.tail) ?_) ⟨rfl, rfl⟩
    ·
     try dsimp only at h
     obtain rfl := oI h
     refine RG (MV rfl rfl (MV rfl rfl ?_))
     refine WR.callPan (A := [.blk bp0 (.cells #[S o2.1, I o2.2] 72)]) (B := [.blk bk4 (.cells #[S [], S [], S []] 24)]) (H.pick (L' := [.blk bp0 (.cells #[S o2.1, I o2.2] 72), .blk bk4 (.cells #[S [], S [], S []] 24)]) (by repeat first | exact kPn | refine kPc (by repeat first | exact .head | apply Rem.tail) ?_)) (address_reader_specific_ct hx11) (.left (Spl.all _)) rfl ⟨hg_maxl, hg_tabs, hp1⟩ (Wn.none rfl) ?_
     intro M w H hle
     (repeat (first | refine WQ.pThen ?_ | refine WQ.pIn ?_ | refine WQ.pCut ?_ | refine WQ.pSc ?_))
     exact WQ.pBody H
   ·
    replace hk6 : b1 = true := by simpa using hk6
    subst hk6
    rw [if_pos rfl] at h
    refine SK (TN (SQ ?_))
    obtain ⟨o17, hx16, h⟩ := bnd h
    rcases o17 with ⟨l14, o15⟩ | n18
    ·
     try dsimp only at h
     obtain ⟨o24, hx23, h⟩ := bnd h
     rcases o24 with ⟨⟨s19, s20, s21⟩, o22⟩ | n25
     ·
      try dsimp only at h
      refine RG (MV rfl rfl (MV rfl rfl ?_))
      refine WR.callX (A := [.blk bp0 (.cells #[S o2.1, I o2.2] 72)]) (B := [.blk bk4 (.cells #[S [], S [], S []] 24)]) (H.pick (L' := [.blk bp0 (.cells #[S o2.1, I o2.2] 72), .blk bk4 (.cells #[S [], S [], S []] 24)]) (by repeat first | exact kPn | refine kPc (by repeat first | exact .head | apply Rem.tail) ?_)) (address_reader_words_ct hx16) (.left (Spl.all _)) rfl trivial (Wn.none rfl) rfl ?_
      intro v14 M w its H hle hR
      replace hg_maxl := hg_maxl.mono hle
      replace hg_tabs := hg_tabs.mono hle
      replace hp1 := hp1.mono hle
      try dsimp only at hR
      obtain ⟨x14_0, rfl, f14_0, rfl⟩ := hR
      simp only [List.cons_append, List.nil_append] at H
      refine WR.callX (A := [.blk bp0 (.cells #[S o15.1, I o15.2] 72)]) (B := [.blk bk4 (.cells #[S [], S [], S []] 24)]) (H.pick (L' := [.blk bp0 (.cells #[S o15.1, I o15.2] 72), .blk bk4 (.cells #[S [], S [], S []] 24)]) (by repeat first | exact kPn | refine kPc (by repeat first | exact .head | apply Rem.tail) ?_)) (address_reader_specific_ct hx23) (.left (Spl.all _)) rfl ⟨hg_maxl, hg_tabs, f14_0⟩ (Wn.none rfl) rfl ?_
      intro v15 M w its H hle hR
      replace hg_maxl := hg_maxl.mono hle
      replace hg_tabs := hg_tabs.mono hle
      replace hp1 := hp1.mono hle
      replace f14_0 := f14_0.mono hle
      try dsimp only at hR
      obtain ⟨rfl, rfl⟩ := hR
      simp only [List.cons_append, List.nil_append] at H
      refine WR.alloc [_, _, _] H Tryz.zeroValue24 rfl (Wn.none rfl) rfl ?_
      intro bk5 w H
      refine WR.store [_, _, _] H rfl rfl rfl (by repeat first | exact .head | apply Upd.tail) Tryz.sizeOf24 rfl (by rfl) (by rfl) (Wn.none rfl) ?_
      intro w H
      refine NL (TN (SQ ?_))
      obtain ⟨s26, hx27, h⟩ := bnd h
      refine RG (MV rfl rfl (WR.call H (address_named_ct hx27) rfl ⟨hg_maxl, hp1⟩ (Wn.none rfl) rfl ?_))
      intro v17 M w H hle hR
      replace hg_maxl := hg_maxl.mono hle
      replace hg_tabs := hg_tabs.mono hle
      replace hp1 := hp1.mono hle
      replace f14_0 := f14_0.mono hle
      obtain rfl := hR
      refine ST (Ex.fieldAddr Tryz.underlying24 rfl Tryz.sizeOf9 (by decide) rfl) rfl (WR.store1 [_, _, _] H rfl rfl (by repeat first | exact .head | apply Upd.tail) (by rfl) Tryz.sizeOf9 (by first | decide | (simp; done) | (simp; omega)) (by rfl) (by rfl) (Wn.none rfl) ?_)
      intro w H
      refine NL (TN (SQ ?_))
      obtain ⟨o30, hx29, h⟩ := bnd h
      rcases o30 with o28 | n31
      ·
       try dsimp only at h
       refine RG (MV rfl rfl ?_)
       refine WR.callX (A := [.blk bp0 (.cells #[S o22.1, I o22.2] 72)]) (B := [.blk bk5 (.cells #[S s26, S s20, S s21] 24), .blk bk4 (.cells #[S [], S [], S []] 24)]) (H.pick (L' := [.blk bp0 (.cells #[S o22.1, I o22.2] 72), .blk bk5 (.cells #[S s26, S s20, S s21] 24), .blk bk4 (.cells #[S [], S [], S []] 24)]) (by repeat first | exact kPn | refine kPc (by repeat first | exact .head | apply Rem.tail) ?_)) (address_reader_need_ct hx29) (.left (Spl.all _)) rfl trivial (Wn.none rfl) rfl ?_
       intro v20 M w its H hle hR
       replace hg_maxl := hg_maxl.mono hle
       replace hg_tabs := hg_tabs.mono hle
       replace hp1 := hp1.mono hle
       replace f14_0 := f14_0.mono hle
       try dsimp only at hR
       obtain ⟨rfl, rfl⟩ := hR
       simp only [List.cons_append, List.nil_append] at H
       refine NL (TN (SQ (RG (ST (Ex.loadAgg H rfl (by repeat first | exact kMh | apply kMt) Tryz.isAgg24 Tryz.sizeOf24 (by rfl)) rfl ?_))))
       refine WR.store [_, _, _] H rfl rfl rfl (by repeat first | exact .head | apply Upd.tail) Tryz.sizeOf24 rfl (by rfl) (by rfl) (Wn.none rfl) ?_
       intro w H
       refine NL (TN (RT ?_))
       obtain rfl := oI h
       exact WQ.retX1 (its := [.blk bp0 (.cells #[S o28.1, I o28.2] 72)]) rfl ⟨_, rfl, H.loadAgg (by repeat first | exact kMh | apply kMt) Tryz.isAgg24 Tryz.sizeOf24 (by rfl)⟩ H (by repeat first | exact kPn | refine kPc (by repeat first | exact .head | apply Rem.tail) ?_) ⟨rfl, rfl⟩
      ·
       try dsimp only at h
       obtain rfl := oI h
       refine RG (MV rfl rfl ?_)
       refine WR.callPan (A := [.blk bp0 (.cells #[S o22.1, I o22.2] 72)]) (B := [.blk bk5 (.cells #[S s26, S s20, S s21] 24), .blk bk4 (.cells #[S [], S [], S []] 24)]) (H.pick (L' := [.blk bp0 (.cells #[S o22.1, I o22.2] 72), .blk bk5 (.cells #[S s26, S s20, S s21] 24), .blk bk4 (.cells #[S [], S [], S []] 24)]) (by repeat first | exact kPn | refine kPc (by repeat first | exact .head | apply Rem.tail) ?_)) (address_reader_need_ct hx29) (.left (Spl.all _)) rfl trivial (Wn.none rfl) ?_
       intro M w H hle
       (repeat (first | refine WQ.pThen ?_ | refine WQ.pIn ?_ | refine WQ.pCut ?_ | refine WQ.pSc ?_))
       exact WQ.pBody H
     ·
      try dsimp only at h
      obtain rfl := oI h
      refine RG (MV rfl rfl (MV rfl rfl ?_))
      refine WR.callX (A := [.blk bp0 (.cells #[S o2.1, I o2.2] 72)]) (B := [.blk bk4 (.cells #[S [], S [], S []] 24)]) (H.pick (L' := [.blk bp0 (.cells #[S o2.1, I o2.2] 72), .blk bk4 (.cells #[S [], S [], S []] 24)]) (by repeat first | exact kPn | refine kPc (by repeat first | exact .head | apply Rem.tail) ?_)) (address_reader_words_ct hx16) (.left (Spl.all _)) rfl trivial (Wn.none rfl) rfl ?_
      intro v14 M w its H hle hR
      replace hg_maxl := hg_maxl.mono hle
      replace hg_tabs := hg_tabs.mono hle
      replace hp1 := hp1.mono hle
      try dsimp only at hR
      obtain ⟨x14_0, rfl, f14_0, rfl⟩ := hR
      simp only [List.cons_append, List.nil_append] at H
      refine WR.callPan (A := [.blk bp0 (.cells #[S o15.1, I o15.2] 72)]) (B := [.blk bk4 (.cells #[S [], S [], S []] 24)]) (H.pick (L' := [.blk bp0 (.cells #[S o15.1, I o15.2] 72), .blk bk4 (.cells #[S [], S [], S []] 24)]) (by repeat first | exact kPn | refine kPc (by repeat first | exact .head | apply Rem.tail) ?_)) (address_reader_specific_ct hx23) (.left (Spl.all _)) rfl ⟨hg_maxl, hg_tabs, f14_0⟩ (Wn.none rfl) ?_
      intro M w H hle
      (repeat (first | refine WQ.pThen ?_ | refine WQ.pIn ?_ | refine WQ.pCut ?_ | refine WQ.pSc ?_))
      exact WQ.pBody H
    ·
     try dsimp only at h
     obtain rfl := oI h
     refine RG (MV rfl rfl (MV rfl rfl ?_))
     refine WR.callPan (A := [.blk bp0 (.cells #[S o2.1, I o2.2] 72)]) (B := [.blk bk4 (.cells #[S [], S [], S []] 24)]) (H.pick (L' := [.blk bp0 (.cells #[S o2.1, I o2.2] 72), .blk bk4 (.cells #[S [], S [], S []] 24)]) (by repeat first | exact kPn | refine kPc (by repeat first | exact .head | apply Rem.tail) ?_)) (address_reader_words_ct hx16) (.left (Spl.all _)) rfl trivial (Wn.none rfl) ?_
     intro M w H hle
     (repeat (first | refine WQ.pThen ?_ | refine WQ.pIn ?_ | refine WQ.pCut ?_ | refine WQ.pSc ?_))
     exact WQ.pBody H
  ·
   try dsimp only at h
   obtain rfl := oI h
   refine RG (MV rfl rfl ?_)
   refine WR.callPan (A := [.blk bp0 (.cells #[S p0.1, I p0.2] 72)]) (B := [.blk bk4 (.cells #[S [], S [], S []] 24)]) (H.pick (L' := [.blk bp0 (.cells #[S p0.1, I p0.2] 72), .blk bk4 (.cells #[S [], S [], S []] 24)]) (by repeat first | exact kPn | refine kPc (by repeat first | exact .head | apply Rem.tail) ?_)) (address_reader_is_ct hx3) (.left (Spl.all _)) rfl trivial (Wn.none rfl) ?_
   intro M w H hle
   (repeat (first | refine WQ.pThen ?_ | refine WQ.pIn ?_ | refine WQ.pCut ?_ | refine WQ.pSc ?_))
   exact WQ.pBody H
theorem address_reader_item_ct {p0 : (List UInt8 × Int)} {bp0 : Nat} {r : (((List UInt8 × Bool × List (List UInt8 × List UInt8 × List UInt8)) × (List UInt8 × Int)) ⊕ Int)} (h : address_reader_item p0 = some r) : CtS Tryz.prog 47 [ptr bp0 0] [.blk bp0 (.cells #[S p0.1, I p0.2] 72)] (fun M => GlF (fun w => ∃ m, w.cell? ⟨2, 0, none⟩ = some (.int .i64 m)) M ∧ Tabs M) (fun x => fun v M its => ∃ x0_2, v = Value.agg #[S x.1.1, Value.bool x.1.2.1, x0_2] ∧ SlS M 3 xenc24 x0_2 x.1.2.2 ∧ its = [.blk bp0 (.cells #[S x.2.1, I x.2.2] 72)]) (fun n => Value.iface 69 (Value.agg #[I n])) r := by
  refine CtS.of Tryz.func47 (enters Tryz.func47 (by kernel_rfl) rfl) rfl rfl rfl ?_
  intro w0 M0 H hp
  obtain ⟨hg_maxl, hg_tabs⟩ := hp
  unfold address_reader_item at h
  refine SQ (RG (WR.alloc [_, _, _] H Tryz.zeroValue34 rfl (Wn.none rfl) rfl ?_))
  intro bk2 w H
  refine NL (TN (SQ ?_))
  obtain ⟨o4, hx3, h⟩ := bnd h
  rcases o4 with ⟨l1, o2⟩ | n5
  ·
   try dsimp only at h
   refine RG (MV rfl rfl ?_)
   refine WR.callX (A := [.blk bp0 (.cells #[S p0.1, I p0.2] 72)]) (B := [.blk bk2 (.cells #[S [], Value.bool false, Value.slice none 0 0] 34)]) (H.pick (L' := [.blk bp0 (.cells #[S p0.1, I p0.2] 72), .blk bk2 (.cells #[S [], Value.bool false, Value.slice none 0 0] 34)]) (by repeat first | exact kPn | refine kPc (by repeat first | exact .head | apply Rem.tail) ?_)) (address_reader_words_ct hx3) (.left (Spl.all _)) rfl trivial (Wn.none rfl) rfl ?_
   intro v6 M w its H hle hR
   replace hg_maxl := hg_maxl.mono hle
   replace hg_tabs := hg_tabs.mono hle
   try dsimp only at hR
   obtain ⟨x6_0, rfl, f6_0, rfl⟩ := hR
   simp only [List.cons_append, List.nil_append] at H
   refine AS rfl rfl (NL (TN (SQ (SQ ?_))))
   obtain ⟨o9, hx8, h⟩ := bnd h
   rcases o9 with ⟨b6, o7⟩ | n10
   ·
    try dsimp only at h
    refine RG (MV rfl rfl ?_)
    refine WR.callX (A := [.blk bp0 (.cells #[S o2.1, I o2.2] 72)]) (B := [.blk bk2 (.cells #[S [], Value.bool false, Value.slice none 0 0] 34)]) (H.pick (L' := [.blk bp0 (.cells #[S o2.1, I o2.2] 72), .blk bk2 (.cells #[S [], Value.bool false, Value.slice none 0 0] 34)]) (by repeat first | exact kPn | refine kPc (by repeat first | exact .head | apply Rem.tail) ?_)) (address_reader_is_ct hx8) (.left (Spl.all _)) rfl trivial (Wn.none rfl) rfl ?_
    intro v8 M w its H hle hR
    replace hg_maxl := hg_maxl.mono hle
    replace hg_tabs := hg_tabs.mono hle
    replace f6_0 := f6_0.mono hle
    try dsimp only at hR
    obtain ⟨rfl, rfl⟩ := hR
    simp only [List.cons_append, List.nil_append] at H
    refine ST (Ex.not rfl) rfl (NL (TN ?_))
    refine WC.condB rfl (fun hk11 => ?_) (fun hk11 => ?_)
    ·
     replace hk11 : b6 = false := by simpa using hk11
     subst hk11
     rw [if_neg Bool.false_ne_true] at h
     refine SQ ?_
     obtain ⟨o17, hx16, h⟩ := bnd h
     rcases o17 with ⟨⟨s12, s13, s14⟩, o15⟩ | n18
     ·
      try dsimp only at h
      refine RG (MV rfl rfl (MV rfl rfl ?_))
      refine WR.callX (A := [.blk bp0 (.cells #[S o7.1, I o7.2] 72)]) (B := [.blk bk2 (.cells #[S [], Value.bool false, Value.slice none 0 0] 34)]) (H.pick (L' := [.blk bp0 (.cells #[S o7.1, I o7.2] 72), .blk bk2 (.cells #[S [], Value.bool false, Value.slice none 0 0] 34)]) (by repeat first | exact kPn | refine kPc (by repeat first | exact .head | apply Rem.tail) ?_)) (address_reader_address_ct hx16) (.left (Spl.all _)) rfl ⟨hg_maxl, hg_tabs, f6_0⟩ (Wn.none rfl) rfl ?_
      intro v12 M w its H hle hR
      replace hg_maxl := hg_maxl.mono hle
      replace hg_tabs := hg_tabs.mono hle
      replace f6_0 := f6_0.mono hle
      try dsimp only at hR
      obtain ⟨rfl, rfl⟩ := hR
      simp only [List.cons_append, List.nil_append] at H
      refine WR.litS (enc := xenc24) xty30 ([(s12, s13, s14)] : List (List UInt8 × List UInt8 × List UInt8)) H (fun _ => rfl) rfl (by kernel_rfl) rfl rfl rfl (Wn.none rfl) rfl ?_
      intro v13 M w H hle hs13
      replace hg_maxl := hg_maxl.mono hle
      replace hg_tabs := hg_tabs.mono hle
      replace f6_0 := f6_0.mono hle
      refine ST (Ex.build [S [], Value.bool false, v13] Tryz.underlying34 Tryz.zeroValue34 (xplaces34 Tryz.underlying34) rfl (by obtain ⟨_, _, _, hv, -⟩ := hs13; rw [hv]; clear hv; rfl)) rfl ?_
      refine WR.store [_, _, _] H rfl rfl rfl (by repeat first | exact .head | apply Upd.tail) Tryz.sizeOf34 rfl (by rfl) (by simp only [List.all_cons, List.all_nil, (hs13).one.2]; rfl) (Wn.none rfl) ?_
      intro w H
      refine NL (TN (RT ?_))
      obtain rfl := oI h
      exact WQ.retX1 (its := [.blk bp0 (.cells #[S o15.1, I o15.2] 72)]) rfl ⟨_, rfl, H.loadAgg (by repeat first | exact kMh | apply kMt) Tryz.isAgg34 Tryz.sizeOf34 (by rfl)⟩ H (by repeat first | exact kPn | refine kPc (by repeat first | exact .head | apply Rem.tail) ?_) ⟨_, rfl, hs13, rfl⟩
     ·
      try dsimp only at h
      obtain rfl := oI h
      refine RG (MV rfl rfl (MV rfl rfl ?_))
      refine WR.callPan (A := [.blk bp0 (.cells #[S o7.1, I o7.2] 72)]) (B := [.blk bk2 (.cells #[S [], Value.bool false, Value.slice none 0 0] 34)]) (H.pick (L' := [.blk bp0 (.cells #[S o7.1, I o7.2] 72), .blk bk2 (.cells #[S [], Value.bool false, Value.slice none 0 0] 34)]) (by repeat first | exact kPn | refine kPc (by repeat first | exact .head | apply Rem.tail) ?_)) (address_reader_address_ct hx16) (.left (Spl.all _)) rfl ⟨hg_maxl, hg_tabs, f6_0⟩ (Wn.none rfl) ?_
      intro M w H hle
      (repeat (first | refine WQ.pThen ?_ | refine WQ.pIn ?_ | refine WQ.pCut ?_ | refine WQ.pSc ?_))
      exact WQ.pBody H
    ·
     replace hk11 : b6 = true := by simpa using hk11
     subst hk11
     rw [if_pos rfl] at h
     refine SK (TN (SQ ?_))
     obtain ⟨s19, hx20, h⟩ := bnd h
     refine RG (MV rfl rfl (WR.call H (address_named_ct hx20) rfl ⟨hg_maxl, f6_0⟩ (Wn.none rfl) rfl ?_))
     intro v16 M w H hle hR
     replace hg_maxl := hg_maxl.mono hle
     replace hg_tabs := hg_tabs.mono hle
     replace f6_0 := f6_0.mono hle
     obtain rfl := hR
     refine ST (Ex.build [S s19, Value.bool true, Value.slice none 0 0] Tryz.underlying34 Tryz.zeroValue34 (xplaces34 Tryz.underlying34) rfl rfl) rfl (WR.alloc [_, _, _] H Tryz.zeroValue34 rfl (Wn.none rfl) rfl ?_)
     intro bk4 w H
     refine WR.store [_, _, _] H rfl rfl rfl (by repeat first | exact .head | apply Upd.tail) Tryz.sizeOf34 rfl (by rfl) (by rfl) (Wn.none rfl) ?_
     intro w H
     refine NL (TN (SQ (SQ (RG (ST (Ex.fieldAddr Tryz.underlying34 rfl Tryz.sizeOf9 (by decide) rfl) rfl (ST (Ex.load1 H rfl (by repeat first | exact kMh | apply kMt) Tryz.isAgg9 (by rfl)) rfl ?_))))))
     refine ST (Ex.strEql rfl rfl) rfl (NL (TN ?_))
     obtain ⟨o21, e22, h⟩ := bnd h
     refine WC.cutX (fun e w => ∃ (s23 : List UInt8) (n24 : Int) (M : Mem), e = [(0, ptr bp0 0), (2, ptr bk2 0), (4, ptr bk4 0)] ∧ StX (feet [.blk bp0 (.cells #[S p0.1, I p0.2] 72)]) w0 M0 M [.blk bp0 (.cells #[S s23, I n24] 72), .blk bk2 (.cells #[S [], Value.bool false, Value.slice none 0 0] 34), .blk bk4 (.cells #[S s19, Value.bool true, Value.slice none 0 0] 34)] w ∧ GlF (fun w => ∃ m, w.cell? ⟨2, 0, none⟩ = some (.int .i64 m)) M ∧ Tabs M ∧ some (.inl (s23, n24)) = some o21) [] ?_ ?_ (trivial)
     ·
      refine WC.condB rfl (fun hk25 => ?_) (fun hk25 => ?_)
      ·
       replace hk25 : s19 = [] := of_decide_eq_true hk25
       rw [if_pos hk25] at e22
       obtain ⟨o28, hx27, e22⟩ := bnd e22
       rcases o28 with o26 | n29
       ·
        try dsimp only at e22
        refine RG (MV rfl rfl ?_)
        refine WR.callX (A := [.blk bp0 (.cells #[S o7.1, I o7.2] 72)]) (B := [.blk bk4 (.cells #[S s19, Value.bool true, Value.slice none 0 0] 34), .blk bk2 (.cells #[S [], Value.bool false, Value.slice none 0 0] 34)]) (H.pick (L' := [.blk bp0 (.cells #[S o7.1, I o7.2] 72), .blk bk4 (.cells #[S s19, Value.bool true, Value.slice none 0 0] 34), .blk bk2 (.cells #[S [], Value.bool false, Value.slice none 0 0] 34)]) (by repeat first | exact kPn | refine kPc (by repeat first | exact .head | apply Rem.tail) ?_)) (address_reader_fail_ct hx27) (.left (Spl.all _)) rfl trivial (Wn.none rfl) rfl ?_
        intro v22 M w its H hle hR
        replace hg_maxl := hg_maxl.mono hle
        replace hg_tabs := hg_tabs.mono hle
        replace f6_0 := f6_0.mono hle
        try dsimp only at hR
        obtain ⟨rfl, rfl⟩ := hR
        simp only [List.cons_append, List.nil_append] at H
        refine NL ?_
        exact WQ.meetN [(0, _), (2, _), (4, _)] ⟨rfl, rfl, rfl, trivial⟩ ⟨_, _, _, rfl, (H.pick (L' := [.blk bp0 (.cells #[S o26.1, I o26.2] 72), .blk bk2 (.cells #[S [], Value.bool false, Value.slice none 0 0] 34), .blk bk4 (.cells #[S s19, Value.bool true, Value.slice none 0 0] 34)]) (by repeat first | exact kPn | refine kPc (by repeat first | exact .head | apply Rem.tail) ?_)), hg_maxl, hg_tabs, e22⟩
       ·
        try dsimp only at e22
        obtain rfl := oI e22
        try dsimp only at h
        obtain rfl := oI h
        refine RG (MV rfl rfl ?_)
        refine WR.callPan (A := [.blk bp0 (.cells #[S o7.1, I o7.2] 72)]) (B := [.blk bk4 (.cells #[S s19, Value.bool true, Value.slice none 0 0] 34), .blk bk2 (.cells #[S [], Value.bool false, Value.slice none 0 0] 34)]) (H.pick (L' := [.blk bp0 (.cells #[S o7.1, I o7.2] 72), .blk bk4 (.cells #[S s19, Value.bool true, Value.slice none 0 0] 34), .blk bk2 (.cells #[S [], Value.bool false, Value.slice none 0 0] 34)]) (by repeat first | exact kPn | refine kPc (by repeat first | exact .head | apply Rem.tail) ?_)) (address_reader_fail_ct hx27) (.left (Spl.all _)) rfl trivial (Wn.none rfl) ?_
        intro M w H hle
        (repeat (first | refine WQ.pThen ?_ | refine WQ.pIn ?_ | refine WQ.pCut ?_ | refine WQ.pSc ?_))
        exact WQ.pBody H
      ·
       replace hk25 : ¬ (s19 = []) := of_decide_eq_false hk25
       rw [if_neg hk25] at e22
       refine SK ?_
       exact WQ.meetN [(0, _), (2, _), (4, _)] ⟨rfl, rfl, rfl, trivial⟩ ⟨_, _, _, rfl, (H.pick (L' := [.blk bp0 (.cells #[S o7.1, I o7.2] 72), .blk bk2 (.cells #[S [], Value.bool false, Value.slice none 0 0] 34), .blk bk4 (.cells #[S s19, Value.bool true, Value.slice none 0 0] 34)]) (by repeat first | exact kPn | refine kPc (by repeat first | exact .head | apply Rem.tail) ?_)), hg_maxl, hg_tabs, e22⟩
     ·
      rintro e w ⟨s23, n24, M, rfl, H, hg_maxl, hg_tabs, q30⟩
      obtain rfl := oI q30
      try dsimp only at h
      refine TN (SQ (SQ ?_))
      obtain ⟨o34, hx33, h⟩ := bnd h
      rcases o34 with ⟨b31, o32⟩ | n35
      ·
       try dsimp only at h
       refine RG (MV rfl rfl ?_)
       refine WR.callX (A := [.blk bp0 (.cells #[S s23, I n24] 72)]) (B := [.blk bk2 (.cells #[S [], Value.bool false, Value.slice none 0 0] 34), .blk bk4 (.cells #[S s19, Value.bool true, Value.slice none 0 0] 34)]) (H.pick (L' := [.blk bp0 (.cells #[S s23, I n24] 72), .blk bk2 (.cells #[S [], Value.bool false, Value.slice none 0 0] 34), .blk bk4 (.cells #[S s19, Value.bool true, Value.slice none 0 0] 34)]) (by repeat first | exact kPn | refine kPc (by repeat first | exact .head | apply Rem.tail) ?_)) (address_reader_is_ct hx33) (.left (Spl.all _)) rfl trivial (Wn.none rfl) rfl ?_
       intro v24 M w its H hle hR
       replace hg_maxl := hg_maxl.mono hle
       replace hg_tabs := hg_tabs.mono hle
       try dsimp only at hR
       obtain ⟨rfl, rfl⟩ := hR
       simp only [List.cons_append, List.nil_append] at H
       refine NL (TN ?_)
       refine WC.condB rfl (fun hk36 => ?_) (fun hk36 => ?_)
       ·
        subst hk36
        rw [if_pos rfl] at h
        refine SQ (RG (ST (Ex.loadAgg H rfl (by repeat first | exact kMh | apply kMt) Tryz.isAgg34 Tryz.sizeOf34 (by rfl)) rfl ?_))
        refine WR.store [_, _, _] H rfl rfl rfl (by repeat first | exact .head | apply Upd.tail) Tryz.sizeOf34 rfl (by rfl) (by rfl) (Wn.none rfl) ?_
        intro w H
        refine NL (TN (RT ?_))
        obtain rfl := oI h
        exact WQ.retX1 (its := [.blk bp0 (.cells #[S o32.1, I o32.2] 72)]) rfl ⟨_, rfl, H.loadAgg (by repeat first | exact kMh | apply kMt) Tryz.isAgg34 Tryz.sizeOf34 (by rfl)⟩ H (by repeat first | exact kPn | refine kPc (by repeat first | exact .head | apply Rem.tail) ?_) ⟨_, rfl, (SlS.nil _ _ (fun _ => rfl)), rfl⟩
       ·
        subst hk36
        rw [if_neg Bool.false_ne_true] at h
        refine SK (TN ?_)
        obtain ⟨o37, e38, h⟩ := bnd h
        refine BL ?_
        replace H := H.newRowS 24 3 xenc24
        refine WC.loopP (fun m e w => ∃ (s39 : List UInt8) (n40 : Int) (s41 : List UInt8) (b42 : Bool) (l43 : List (List UInt8 × List UInt8 × List UInt8)) (v44 : Value) (s46 : List UInt8) (b47 : Bool) (l49 : List (List UInt8 × List UInt8 × List UInt8)) (v50 : Value) (M : Mem), e = [(0, ptr bp0 0), (2, ptr bk2 0), (4, ptr bk4 0)] ∧ StX (feet [.blk bp0 (.cells #[S p0.1, I p0.2] 72)]) w0 M0 M [.blk bp0 (.cells #[S s39, I n40] 72), .blk bk2 (.cells #[S s41, Value.bool b42, v44] 34), .blk bk4 (.cells #[S s46, Value.bool b47, v50] 34), RowS 24 3 xenc24 v50 l49] w ∧ GlF (fun w => ∃ m, w.cell? ⟨2, 0, none⟩ = some (.int .i64 m)) M ∧ Tabs M ∧ SlS M 3 xenc24 v44 l43 ∧ address_reader_item_L1  m s39 n40 s41 b42 l43 s46 b47 l49 = some o37) FU [(0, _), (2, _), (4, _)] ⟨rfl, rfl, rfl, trivial⟩ ⟨_, _, _, _, _, _, _, _, _, _, _, rfl, (H.pick (L' := [.blk bp0 (.cells #[S o32.1, I o32.2] 72), .blk bk2 (.cells #[S [], Value.bool false, Value.slice none 0 0] 34), .blk bk4 (.cells #[S s19, Value.bool true, (Value.slice none 0 0)] 34), RowS 24 3 xenc24 (Value.slice none 0 0) []]) (by repeat first | exact kPn | refine kPc (by repeat first | exact .head | apply Rem.tail) ?_)), hg_maxl, hg_tabs, (SlS.nil _ _ (fun _ => rfl)), e38⟩ ?_
        rintro m51 e w ⟨s39, n40, s41, b42, l43, v44, s46, b47, l49, v50, M, rfl, H, hg_maxl, hg_tabs, hs45, e38⟩
        rcases m51 with _ | m51
        · rw [address_reader_item_L1] at e38; cases e38
        rw [address_reader_item_L1] at e38
        refine BL (SQ ?_)
        obtain ⟨o56, hx55, e38⟩ := bnd e38
        rcases o56 with ⟨l53, o54⟩ | n57
        ·
         try dsimp only at e38
         obtain ⟨o63, hx62, e38⟩ := bnd e38
         rcases o63 with ⟨⟨s58, s59, s60⟩, o61⟩ | n64
         ·
          try dsimp only at e38
          obtain ⟨l65, hxl65, e38⟩ := bnd e38
          refine WC.cutP (fun e w => ∃ (v66 : Value) (M : Mem), e = [(0, ptr bp0 0), (2, ptr bk2 0), (4, ptr bk4 0)] ∧ StX (feet [.blk bp0 (.cells #[S p0.1, I p0.2] 72)]) w0 M0 M [.blk bp0 (.cells #[S o61.1, I o61.2] 72), .blk bk2 (.cells #[S s41, Value.bool b42, v44] 34), .blk bk4 (.cells #[S s46, Value.bool b47, v66] 34), RowS 24 3 xenc24 v66 l65] w ∧ GlF (fun w => ∃ m, w.cell? ⟨2, 0, none⟩ = some (.int .i64 m)) M ∧ Tabs M ∧ SlS M 3 xenc24 v44 l43) ?_ ?_
          ·
           refine WC.draw (m := 10) rfl rfl H ?_
           intro w H
           refine WA.take (i := 0) rfl (by kernel_rfl) (by kernel_rfl) (by kernel_rfl) (fun _ => Ex.fieldAddr Tryz.underlying34 rfl Tryz.sizeOf30 (by decide) rfl) (Wn.none rfl) rfl rfl (fun _ _ => rfl) (WA.take (i := 2) rfl (by kernel_rfl) (by kernel_rfl) (by kernel_rfl) (fun _ => Ex.move rfl) (Wn.none rfl) rfl rfl (fun _ _ => rfl) (WA.take (i := 3) rfl (by kernel_rfl) (by kernel_rfl) (by kernel_rfl) (fun _ => Ex.move rfl) (Wn.none rfl) rfl rfl (fun _ _ => rfl) ?_))
           refine WA.two (i := 1) (j := 4) (by kernel_rfl) rfl rfl ?_ ?_
           ·
            refine ST (Ex.load1 H rfl (by repeat first | exact kMh | apply kMt) Tryz.isAgg30 (by rfl)) rfl ?_
            refine NA (WA.seq (fuel := 0) [4, 5, 6, 7, 8, 9] rfl (by kernel_rfl) ?_)
            refine WR.callX (A := [.blk bp0 (.cells #[S s39, I n40] 72)]) (B := [.blk bk2 (.cells #[S s41, Value.bool b42, v44] 34), .blk bk4 (.cells #[S s46, Value.bool b47, v50] 34), RowS 24 3 xenc24 v50 l49]) (H.pick (L' := [.blk bp0 (.cells #[S s39, I n40] 72), .blk bk2 (.cells #[S s41, Value.bool b42, v44] 34), .blk bk4 (.cells #[S s46, Value.bool b47, v50] 34), RowS 24 3 xenc24 v50 l49]) (by repeat first | exact kPn | refine kPc (by repeat first | exact .head | apply Rem.tail) ?_)) (address_reader_words_ct hx55) (.left (Spl.all _)) rfl trivial (Wn.none rfl) rfl ?_
            intro v30 M w its H hle hR
            replace hg_maxl := hg_maxl.mono hle
            replace hg_tabs := hg_tabs.mono hle
            replace hs45 := hs45.mono hle
            try dsimp only at hR
            obtain ⟨x30_0, rfl, f30_0, rfl⟩ := hR
            simp only [List.cons_append, List.nil_append] at H
            refine WR.callX (A := [.blk bp0 (.cells #[S o54.1, I o54.2] 72)]) (B := [.blk bk2 (.cells #[S s41, Value.bool b42, v44] 34), .blk bk4 (.cells #[S s46, Value.bool b47, v50] 34), RowS 24 3 xenc24 v50 l49]) (H.pick (L' := [.blk bp0 (.cells #[S o54.1, I o54.2] 72), .blk bk2 (.cells #[S s41, Value.bool b42, v44] 34), .blk bk4 (.cells #[S s46, Value.bool b47, v50] 34), RowS 24 3 xenc24 v50 l49]) (by repeat first | exact kPn | refine kPc (by repeat first | exact .head | apply Rem.tail) ?_)) (address_reader_address_ct hx62) (.left (Spl.all _)) rfl ⟨hg_maxl, hg_tabs, f30_0⟩ (Wn.none rfl) rfl ?_
            intro v31 M w its H hle hR
            replace hg_maxl := hg_maxl.mono hle
            replace hg_tabs := hg_tabs.mono hle
            replace hs45 := hs45.mono hle
            replace f30_0 := f30_0.mono hle
            try dsimp only at hR
            obtain ⟨rfl, rfl⟩ := hR
            simp only [List.cons_append, List.nil_append] at H
            refine WR.litS (enc := xenc24) xty30 ([(s58, s59, s60)] : List (List UInt8 × List UInt8 × List UInt8)) H (fun _ => rfl) rfl (by kernel_rfl) rfl rfl rfl (Wn.none rfl) rfl ?_
            intro v32 M w H hle hs32
            replace hg_maxl := hg_maxl.mono hle
            replace hg_tabs := hg_tabs.mono hle
            replace hs45 := hs45.mono hle
            replace f30_0 := f30_0.mono hle
            refine WR.appSC (l := l49) xty30 rfl xone24 H rfl (fun _ => by repeat first | exact .head | apply Upd.tail) rfl (hs32) hxl65 (Wn.none rfl) rfl ?_
            intro v33 w H
            refine ST (Ex.fieldAddr Tryz.underlying34 rfl Tryz.sizeOf30 (by decide) rfl) rfl (WR.putV [_, _, _] H rfl rfl (H.rowOneS (by repeat first | exact kMh | apply kMt)) (by repeat first | exact .head | apply Upd.tail) (by rfl) Tryz.sizeOf30 (by first | decide | (simp; done) | (simp; omega)) (Wn.none rfl) ?_)
            intro w H
            refine NA (WA.done (by kernel_rfl) ?_)
            exact WQ.meetP [(0, _), (2, _), (4, _)] ⟨rfl, rfl, rfl, trivial⟩ ⟨_, _, rfl, H, hg_maxl, hg_tabs, hs45⟩
           ·
            refine WR.callX (A := [.blk bp0 (.cells #[S s39, I n40] 72)]) (B := [.blk bk2 (.cells #[S s41, Value.bool b42, v44] 34), .blk bk4 (.cells #[S s46, Value.bool b47, v50] 34), RowS 24 3 xenc24 v50 l49]) (H.pick (L' := [.blk bp0 (.cells #[S s39, I n40] 72), .blk bk2 (.cells #[S s41, Value.bool b42, v44] 34), .blk bk4 (.cells #[S s46, Value.bool b47, v50] 34), RowS 24 3 xenc24 v50 l49]) (by repeat first | exact kPn | refine kPc (by repeat first | exact .head | apply Rem.tail) ?_)) (address_reader_words_ct hx55) (.left (Spl.all _)) rfl trivial (Wn.none rfl) rfl ?_
            intro v30 M w its H hle hR
            replace hg_maxl := hg_maxl.mono hle
            replace hg_tabs := hg_tabs.mono hle
            replace hs45 := hs45.mono hle
            try dsimp only at hR
            obtain ⟨x30_0, rfl, f30_0, rfl⟩ := hR
            simp only [List.cons_append, List.nil_append] at H
            refine NA ?_
            refine WA.two (i := 1) (j := 5) (by kernel_rfl) rfl rfl ?_ ?_
            ·
             refine ST (Ex.load1 H rfl (by repeat first | exact kMh | apply kMt) Tryz.isAgg30 (by rfl)) rfl ?_
             refine NA (WA.seq (fuel := 0) [5, 6, 7, 8, 9] rfl (by kernel_rfl) ?_)
             refine WR.callX (A := [.blk bp0 (.cells #[S o54.1, I o54.2] 72)]) (B := [.blk bk2 (.cells #[S s41, Value.bool b42, v44] 34), .blk bk4 (.cells #[S s46, Value.bool b47, v50] 34), RowS 24 3 xenc24 v50 l49]) (H.pick (L' := [.blk bp0 (.cells #[S o54.1, I o54.2] 72), .blk bk2 (.cells #[S s41, Value.bool b42, v44] 34), .blk bk4 (.cells #[S s46, Value.bool b47, v50] 34), RowS 24 3 xenc24 v50 l49]) (by repeat first | exact kPn | refine kPc (by repeat first | exact .head | apply Rem.tail) ?_)) (address_reader_address_ct hx62) (.left (Spl.all _)) rfl ⟨hg_maxl, hg_tabs, f30_0⟩ (Wn.none rfl) rfl ?_
             intro v31 M w its H hle hR
             replace hg_maxl := hg_maxl.mono hle
             replace hg_tabs := hg_tabs.mono hle
             replace hs45 := hs45.mono hle
             replace f30_0 := f30_0.mono hle
             try dsimp only at hR
             obtain ⟨rfl, rfl⟩ := hR
             simp only [List.cons_append, List.nil_append] at H
             refine WR.litS (enc := xenc24) xty30 ([(s58, s59, s60)] : List (List UInt8 × List UInt8 × List UInt8)) H (fun _ => rfl) rfl (by kernel_rfl) rfl rfl rfl (Wn.none rfl) rfl ?_
             intro v32 M w H hle hs32
             replace hg_maxl := hg_maxl.mono hle
             replace hg_tabs := hg_tabs.mono hle
             replace hs45 := hs45.mono hle
             replace f30_0 := f30_0.mono hle
             refine WR.appSC (l := l49) xty30 rfl xone24 H rfl (fun _ => by repeat first | exact .head | apply Upd.tail) rfl (hs32) hxl65 (Wn.none rfl) rfl ?_
             intro v33 w H
             refine ST (Ex.fieldAddr Tryz.underlying34 rfl Tryz.sizeOf30 (by decide) rfl) rfl (WR.putV [_, _, _] H rfl rfl (H.rowOneS (by repeat first | exact kMh | apply kMt)) (by repeat first | exact .head | apply Upd.tail) (by rfl) Tryz.sizeOf30 (by first | decide | (simp; done) | (simp; omega)) (Wn.none rfl) ?_)
             intro w H
             refine NA (WA.done (by kernel_rfl) ?_)
             exact WQ.meetP [(0, _), (2, _), (4, _)] ⟨rfl, rfl, rfl, trivial⟩ ⟨_, _, rfl, H, hg_maxl, hg_tabs, hs45⟩
            ·
             refine WR.callX (A := [.blk bp0 (.cells #[S o54.1, I o54.2] 72)]) (B := [.blk bk2 (.cells #[S s41, Value.bool b42, v44] 34), .blk bk4 (.cells #[S s46, Value.bool b47, v50] 34), RowS 24 3 xenc24 v50 l49]) (H.pick (L' := [.blk bp0 (.cells #[S o54.1, I o54.2] 72), .blk bk2 (.cells #[S s41, Value.bool b42, v44] 34), .blk bk4 (.cells #[S s46, Value.bool b47, v50] 34), RowS 24 3 xenc24 v50 l49]) (by repeat first | exact kPn | refine kPc (by repeat first | exact .head | apply Rem.tail) ?_)) (address_reader_address_ct hx62) (.left (Spl.all _)) rfl ⟨hg_maxl, hg_tabs, f30_0⟩ (Wn.none rfl) rfl ?_
             intro v31 M w its H hle hR
             replace hg_maxl := hg_maxl.mono hle
             replace hg_tabs := hg_tabs.mono hle
             replace hs45 := hs45.mono hle
             replace f30_0 := f30_0.mono hle
             try dsimp only at hR
             obtain ⟨rfl, rfl⟩ := hR
             simp only [List.cons_append, List.nil_append] at H
             refine NA ?_
             refine WA.two (i := 1) (j := 6) (by kernel_rfl) rfl rfl ?_ ?_
             ·
              refine ST (Ex.load1 H rfl (by repeat first | exact kMh | apply kMt) Tryz.isAgg30 (by rfl)) rfl ?_
              refine NA (WA.seq (fuel := 0) [6, 7, 8, 9] rfl (by kernel_rfl) (WR.litS (enc := xenc24) xty30 ([(s58, s59, s60)] : List (List UInt8 × List UInt8 × List UInt8)) H (fun _ => rfl) rfl (by kernel_rfl) rfl rfl rfl (Wn.none rfl) rfl ?_))
              intro v32 M w H hle hs32
              replace hg_maxl := hg_maxl.mono hle
              replace hg_tabs := hg_tabs.mono hle
              replace hs45 := hs45.mono hle
              replace f30_0 := f30_0.mono hle
              refine WR.appSC (l := l49) xty30 rfl xone24 H rfl (fun _ => by repeat first | exact .head | apply Upd.tail) rfl (hs32) hxl65 (Wn.none rfl) rfl ?_
              intro v33 w H
              refine ST (Ex.fieldAddr Tryz.underlying34 rfl Tryz.sizeOf30 (by decide) rfl) rfl (WR.putV [_, _, _] H rfl rfl (H.rowOneS (by repeat first | exact kMh | apply kMt)) (by repeat first | exact .head | apply Upd.tail) (by rfl) Tryz.sizeOf30 (by first | decide | (simp; done) | (simp; omega)) (Wn.none rfl) ?_)
              intro w H
              refine NA (WA.done (by kernel_rfl) ?_)
              exact WQ.meetP [(0, _), (2, _), (4, _)] ⟨rfl, rfl, rfl, trivial⟩ ⟨_, _, rfl, H, hg_maxl, hg_tabs, hs45⟩
             ·
              refine WR.litS (enc := xenc24) xty30 ([(s58, s59, s60)] : List (List UInt8 × List UInt8 × List UInt8)) H (fun _ => rfl) rfl (by kernel_rfl) rfl rfl rfl (Wn.none rfl) rfl ?_
              intro v32 M w H hle hs32
              replace hg_maxl := hg_maxl.mono hle
              replace hg_tabs := hg_tabs.mono hle
              replace hs45 := hs45.mono hle
              replace f30_0 := f30_0.mono hle
              refine NA (WA.seq (fuel := 0) [1, 7, 8, 9] rfl (by kernel_rfl) (ST (Ex.load1 H rfl (by repeat first | exact kMh | apply kMt) Tryz.isAgg30 (by rfl)) rfl ?_))
              refine WR.appSC (l := l49) xty30 rfl xone24 H rfl (fun _ => by repeat first | exact .head | apply Upd.tail) rfl (hs32) hxl65 (Wn.none rfl) rfl ?_
              intro v33 w H
              refine ST (Ex.fieldAddr Tryz.underlying34 rfl Tryz.sizeOf30 (by decide) rfl) rfl (WR.putV [_, _, _] H rfl rfl (H.rowOneS (by repeat first | exact kMh | apply kMt)) (by repeat first | exact .head | apply Upd.tail) (by rfl) Tryz.sizeOf30 (by first | decide | (simp; done) | (simp; omega)) (Wn.none rfl) ?_)
              intro w H
              refine NA (WA.done (by kernel_rfl) ?_)
              exact WQ.meetP [(0, _), (2, _), (4, _)] ⟨rfl, rfl, rfl, trivial⟩ ⟨_, _, rfl, H, hg_maxl, hg_tabs, hs45⟩
          ·
           rintro e w ⟨v66, M, rfl, H, hg_maxl, hg_tabs, hs45⟩
           refine TN (SQ (SQ ?_))
           obtain ⟨o70, hx69, e38⟩ := bnd e38
           rcases o70 with ⟨b67, o68⟩ | n71
           ·
            try dsimp only at e38
            refine RG (MV rfl rfl ?_)
            refine WR.callX (A := [.blk bp0 (.cells #[S o61.1, I o61.2] 72)]) (B := [.blk bk2 (.cells #[S s41, Value.bool b42, v44] 34), .blk bk4 (.cells #[S s46, Value.bool b47, v66] 34), RowS 24 3 xenc24 v66 l65]) (H.pick (L' := [.blk bp0 (.cells #[S o61.1, I o61.2] 72), .blk bk2 (.cells #[S s41, Value.bool b42, v44] 34), .blk bk4 (.cells #[S s46, Value.bool b47, v66] 34), RowS 24 3 xenc24 v66 l65]) (by repeat first | exact kPn | refine kPc (by repeat first | exact .head | apply Rem.tail) ?_)) (address_reader_is_ct hx69) (.left (Spl.all _)) rfl trivial (Wn.none rfl) rfl ?_
            intro v36 M w its H hle hR
            replace hg_maxl := hg_maxl.mono hle
            replace hg_tabs := hg_tabs.mono hle
            replace hs45 := hs45.mono hle
            try dsimp only at hR
            obtain ⟨rfl, rfl⟩ := hR
            simp only [List.cons_append, List.nil_append] at H
            refine NL (TN ?_)
            refine WC.condB rfl (fun hk72 => ?_) (fun hk72 => ?_)
            ·
             subst hk72
             rw [if_pos rfl] at e38
             refine SQ (RG (ST (Ex.loadAgg H rfl (by repeat first | exact kMh | apply kMt) Tryz.isAgg34 Tryz.sizeOf34 (by rfl)) rfl ?_))
             refine WR.store [_, _, _] H rfl rfl rfl (by repeat first | exact .head | apply Upd.tail) Tryz.sizeOf34 rfl (by rfl) (by simp only [List.all_cons, List.all_nil, (H.rowOneS (by repeat first | exact kMh | apply kMt)).2]; rfl) (Wn.none rfl) ?_
             intro w H
             refine NL (TN (RT ?_))
             obtain ⟨M, hle, hs73, H⟩ := H.freezeRowSN (v := v66) (enc := xenc24) (t := 24) (by repeat first | exact .head | apply Rem.tail) (fun _ => rfl) ⟨⟨_, (by repeat first | exact kMh | apply kMt)⟩, trivial⟩
             replace hg_maxl := hg_maxl.mono hle
             replace hg_tabs := hg_tabs.mono hle
             obtain rfl := oI e38
             try dsimp only at h
             obtain rfl := oI h
             exact WQ.retX1 (its := [.blk bp0 (.cells #[S o68.1, I o68.2] 72)]) rfl ⟨_, rfl, H.loadAgg (by repeat first | exact kMh | apply kMt) Tryz.isAgg34 Tryz.sizeOf34 (by rfl)⟩ H (by repeat first | exact kPn | refine kPc (by repeat first | exact .head | apply Rem.tail) ?_) ⟨_, rfl, hs73, rfl⟩
            ·
             subst hk72
             rw [if_neg Bool.false_ne_true] at e38
             refine SK (TN ?_)
             obtain ⟨o76, hx75, e38⟩ := bnd e38
             rcases o76 with o74 | n77
             ·
              try dsimp only at e38
              refine RG (MV rfl rfl ?_)
              refine WR.callX (A := [.blk bp0 (.cells #[S o68.1, I o68.2] 72)]) (B := [.blk bk2 (.cells #[S s41, Value.bool b42, v44] 34), .blk bk4 (.cells #[S s46, Value.bool b47, v66] 34), RowS 24 3 xenc24 v66 l65]) (H.pick (L' := [.blk bp0 (.cells #[S o68.1, I o68.2] 72), .blk bk2 (.cells #[S s41, Value.bool b42, v44] 34), .blk bk4 (.cells #[S s46, Value.bool b47, v66] 34), RowS 24 3 xenc24 v66 l65]) (by repeat first | exact kPn | refine kPc (by repeat first | exact .head | apply Rem.tail) ?_)) (address_reader_need_ct hx75) (.left (Spl.all _)) rfl trivial (Wn.none rfl) rfl ?_
              intro v39 M w its H hle hR
              replace hg_maxl := hg_maxl.mono hle
              replace hg_tabs := hg_tabs.mono hle
              replace hs45 := hs45.mono hle
              try dsimp only at hR
              obtain ⟨rfl, rfl⟩ := hR
              simp only [List.cons_append, List.nil_append] at H
              refine NL (IB ?_)
              exact WQ.againP m51 [(0, _), (2, _), (4, _)] ⟨rfl, rfl, rfl, trivial⟩ ⟨_, _, _, _, _, _, _, _, _, _, _, rfl, H, hg_maxl, hg_tabs, hs45, e38⟩ (Nat.lt_succ_self _)
             ·
              try dsimp only at e38
              obtain rfl := oI e38
              try dsimp only at h
              obtain rfl := oI h
              refine RG (MV rfl rfl ?_)
              refine WR.callPan (A := [.blk bp0 (.cells #[S o68.1, I o68.2] 72)]) (B := [.blk bk2 (.cells #[S s41, Value.bool b42, v44] 34), .blk bk4 (.cells #[S s46, Value.bool b47, v66] 34), RowS 24 3 xenc24 v66 l65]) (H.pick (L' := [.blk bp0 (.cells #[S o68.1, I o68.2] 72), .blk bk2 (.cells #[S s41, Value.bool b42, v44] 34), .blk bk4 (.cells #[S s46, Value.bool b47, v66] 34), RowS 24 3 xenc24 v66 l65]) (by repeat first | exact kPn | refine kPc (by repeat first | exact .head | apply Rem.tail) ?_)) (address_reader_need_ct hx75) (.left (Spl.all _)) rfl trivial (Wn.none rfl) ?_
              intro M w H hle
              (repeat (first | refine WQ.pThen ?_ | refine WQ.pIn ?_ | refine WQ.pCut ?_ | refine WQ.pSc ?_))
              exact WQ.pBody H
           ·
            try dsimp only at e38
            obtain rfl := oI e38
            try dsimp only at h
            obtain rfl := oI h
            refine RG (MV rfl rfl ?_)
            refine WR.callPan (A := [.blk bp0 (.cells #[S o61.1, I o61.2] 72)]) (B := [.blk bk2 (.cells #[S s41, Value.bool b42, v44] 34), .blk bk4 (.cells #[S s46, Value.bool b47, v66] 34), RowS 24 3 xenc24 v66 l65]) (H.pick (L' := [.blk bp0 (.cells #[S o61.1, I o61.2] 72), .blk bk2 (.cells #[S s41, Value.bool b42, v44] 34), .blk bk4 (.cells #[S s46, Value.bool b47, v66] 34), RowS 24 3 xenc24 v66 l65]) (by repeat first | exact kPn | refine kPc (by repeat first | exact .head | apply Rem.tail) ?_)) (address_reader_is_ct hx69) (.left (Spl.all _)) rfl trivial (Wn.none rfl) ?_
            intro M w H hle
            (repeat (first | refine WQ.pThen ?_ | refine WQ.pIn ?_ | refine WQ.pCut ?_ | refine WQ.pSc ?_))
            exact WQ.pBody H
         ·
          try dsimp only at e38
          obtain rfl := oI e38
          try dsimp only at h
          obtain rfl := oI h
          refine WC.draw (m := 10) rfl rfl H ?_
          intro w H
          refine WA.take (i := 0) rfl (by kernel_rfl) (by kernel_rfl) (by kernel_rfl) (fun _ => Ex.fieldAddr Tryz.underlying34 rfl Tryz.sizeOf30 (by decide) rfl) (Wn.none rfl) rfl rfl (fun _ _ => rfl) (WA.take (i := 2) rfl (by kernel_rfl) (by kernel_rfl) (by kernel_rfl) (fun _ => Ex.move rfl) (Wn.none rfl) rfl rfl (fun _ _ => rfl) (WA.take (i := 3) rfl (by kernel_rfl) (by kernel_rfl) (by kernel_rfl) (fun _ => Ex.move rfl) (Wn.none rfl) rfl rfl (fun _ _ => rfl) ?_))
          refine WA.two (i := 1) (j := 4) (by kernel_rfl) rfl rfl ?_ ?_
          ·
           refine ST (Ex.load1 H rfl (by repeat first | exact kMh | apply kMt) Tryz.isAgg30 (by rfl)) rfl ?_
           refine NA (WA.seq (fuel := 4) [4, 5] rfl (by kernel_rfl) ?_)
           refine WR.callX (A := [.blk bp0 (.cells #[S s39, I n40] 72)]) (B := [.blk bk2 (.cells #[S s41, Value.bool b42, v44] 34), .blk bk4 (.cells #[S s46, Value.bool b47, v50] 34), RowS 24 3 xenc24 v50 l49]) (H.pick (L' := [.blk bp0 (.cells #[S s39, I n40] 72), .blk bk2 (.cells #[S s41, Value.bool b42, v44] 34), .blk bk4 (.cells #[S s46, Value.bool b47, v50] 34), RowS 24 3 xenc24 v50 l49]) (by repeat first | exact kPn | refine kPc (by repeat first | exact .head | apply Rem.tail) ?_)) (address_reader_words_ct hx55) (.left (Spl.all _)) rfl trivial (Wn.none rfl) rfl ?_
           intro v30 M w its H hle hR
           replace hg_maxl := hg_maxl.mono hle
           replace hg_tabs := hg_tabs.mono hle
           replace hs45 := hs45.mono hle
           try dsimp only at hR
           obtain ⟨x30_0, rfl, f30_0, rfl⟩ := hR
           simp only [List.cons_append, List.nil_append] at H
           refine WR.callPan (A := [.blk bp0 (.cells #[S o54.1, I o54.2] 72)]) (B := [.blk bk2 (.cells #[S s41, Value.bool b42, v44] 34), .blk bk4 (.cells #[S s46, Value.bool b47, v50] 34), RowS 24 3 xenc24 v50 l49]) (H.pick (L' := [.blk bp0 (.cells #[S o54.1, I o54.2] 72), .blk bk2 (.cells #[S s41, Value.bool b42, v44] 34), .blk bk4 (.cells #[S s46, Value.bool b47, v50] 34), RowS 24 3 xenc24 v50 l49]) (by repeat first | exact kPn | refine kPc (by repeat first | exact .head | apply Rem.tail) ?_)) (address_reader_address_ct hx62) (.left (Spl.all _)) rfl ⟨hg_maxl, hg_tabs, f30_0⟩ (Wn.none rfl) ?_
           intro M w H hle
           refine WQ.pAny (e' := []) trivial (by kernel_rfl) ?_
           (repeat (first | refine WQ.pThen ?_ | refine WQ.pIn ?_ | refine WQ.pCut ?_ | refine WQ.pSc ?_))
           exact WQ.pBody H
          ·
           refine WR.callX (A := [.blk bp0 (.cells #[S s39, I n40] 72)]) (B := [.blk bk2 (.cells #[S s41, Value.bool b42, v44] 34), .blk bk4 (.cells #[S s46, Value.bool b47, v50] 34), RowS 24 3 xenc24 v50 l49]) (H.pick (L' := [.blk bp0 (.cells #[S s39, I n40] 72), .blk bk2 (.cells #[S s41, Value.bool b42, v44] 34), .blk bk4 (.cells #[S s46, Value.bool b47, v50] 34), RowS 24 3 xenc24 v50 l49]) (by repeat first | exact kPn | refine kPc (by repeat first | exact .head | apply Rem.tail) ?_)) (address_reader_words_ct hx55) (.left (Spl.all _)) rfl trivial (Wn.none rfl) rfl ?_
           intro v30 M w its H hle hR
           replace hg_maxl := hg_maxl.mono hle
           replace hg_tabs := hg_tabs.mono hle
           replace hs45 := hs45.mono hle
           try dsimp only at hR
           obtain ⟨x30_0, rfl, f30_0, rfl⟩ := hR
           simp only [List.cons_append, List.nil_append] at H
           refine NA ?_
           refine WA.two (i := 1) (j := 5) (by kernel_rfl) rfl rfl ?_ ?_
           ·
            refine ST (Ex.load1 H rfl (by repeat first | exact kMh | apply kMt) Tryz.isAgg30 (by rfl)) rfl ?_
            refine NA (ON 5 (by kernel_rfl) rfl ?_)
            refine WR.callPan (A := [.blk bp0 (.cells #[S o54.1, I o54.2] 72)]) (B := [.blk bk2 (.cells #[S s41, Value.bool b42, v44] 34), .blk bk4 (.cells #[S s46, Value.bool b47, v50] 34), RowS 24 3 xenc24 v50 l49]) (H.pick (L' := [.blk bp0 (.cells #[S o54.1, I o54.2] 72), .blk bk2 (.cells #[S s41, Value.bool b42, v44] 34), .blk bk4 (.cells #[S s46, Value.bool b47, v50] 34), RowS 24 3 xenc24 v50 l49]) (by repeat first | exact kPn | refine kPc (by repeat first | exact .head | apply Rem.tail) ?_)) (address_reader_address_ct hx62) (.left (Spl.all _)) rfl ⟨hg_maxl, hg_tabs, f30_0⟩ (Wn.none rfl) ?_
            intro M w H hle
            refine WQ.pAny (e' := []) trivial (by kernel_rfl) ?_
            (repeat (first | refine WQ.pThen ?_ | refine WQ.pIn ?_ | refine WQ.pCut ?_ | refine WQ.pSc ?_))
            exact WQ.pBody H
           ·
            refine WR.callPan (A := [.blk bp0 (.cells #[S o54.1, I o54.2] 72)]) (B := [.blk bk2 (.cells #[S s41, Value.bool b42, v44] 34), .blk bk4 (.cells #[S s46, Value.bool b47, v50] 34), RowS 24 3 xenc24 v50 l49]) (H.pick (L' := [.blk bp0 (.cells #[S o54.1, I o54.2] 72), .blk bk2 (.cells #[S s41, Value.bool b42, v44] 34), .blk bk4 (.cells #[S s46, Value.bool b47, v50] 34), RowS 24 3 xenc24 v50 l49]) (by repeat first | exact kPn | refine kPc (by repeat first | exact .head | apply Rem.tail) ?_)) (address_reader_address_ct hx62) (.left (Spl.all _)) rfl ⟨hg_maxl, hg_tabs, f30_0⟩ (Wn.none rfl) ?_
            intro M w H hle
            refine WQ.pAny (e' := []) trivial (by kernel_rfl) ?_
            (repeat (first | refine WQ.pThen ?_ | refine WQ.pIn ?_ | refine WQ.pCut ?_ | refine WQ.pSc ?_))
            exact WQ.pBody H
        ·
         try dsimp only at e38
         obtain rfl := oI e38
         try dsimp only at h
         obtain rfl := oI h
         refine WC.draw (m := 10) rfl rfl H ?_
         intro w H
         refine WA.take (i := 0) rfl (by kernel_rfl) (by kernel_rfl) (by kernel_rfl) (fun _ => Ex.fieldAddr Tryz.underlying34 rfl Tryz.sizeOf30 (by decide) rfl) (Wn.none rfl) rfl rfl (fun _ _ => rfl) (WA.take (i := 2) rfl (by kernel_rfl) (by kernel_rfl) (by kernel_rfl) (fun _ => Ex.move rfl) (Wn.none rfl) rfl rfl (fun _ _ => rfl) (WA.take (i := 3) rfl (by kernel_rfl) (by kernel_rfl) (by kernel_rfl) (fun _ => Ex.move rfl) (Wn.none rfl) rfl rfl (fun _ _ => rfl) ?_))
         refine WA.two (i := 1) (j := 4) (by kernel_rfl) rfl rfl ?_ ?_
         ·
          refine ST (Ex.load1 H rfl (by repeat first | exact kMh | apply kMt) Tryz.isAgg30 (by rfl)) rfl ?_
          refine NA (ON 4 (by kernel_rfl) rfl ?_)
          refine WR.callPan (A := [.blk bp0 (.cells #[S s39, I n40] 72)]) (B := [.blk bk2 (.cells #[S s41, Value.bool b42, v44] 34), .blk bk4 (.cells #[S s46, Value.bool b47, v50] 34), RowS 24 3 xenc24 v50 l49]) (H.pick (L' := [.blk bp0 (.cells #[S s39, I n40] 72), .blk bk2 (.cells #[S s41, Value.bool b42, v44] 34), .blk bk4 (.cells #[S s46, Value.bool b47, v50] 34), RowS 24 3 xenc24 v50 l49]) (by repeat first | exact kPn | refine kPc (by repeat first | exact .head | apply Rem.tail) ?_)) (address_reader_words_ct hx55) (.left (Spl.all _)) rfl trivial (Wn.none rfl) ?_
          intro M w H hle
          refine WQ.pAny (e' := []) trivial (by kernel_rfl) ?_
          (repeat (first | refine WQ.pThen ?_ | refine WQ.pIn ?_ | refine WQ.pCut ?_ | refine WQ.pSc ?_))
          exact WQ.pBody H
         ·
          refine WR.callPan (A := [.blk bp0 (.cells #[S s39, I n40] 72)]) (B := [.blk bk2 (.cells #[S s41, Value.bool b42, v44] 34), .blk bk4 (.cells #[S s46, Value.bool b47, v50] 34), RowS 24 3 xenc24 v50 l49]) (H.pick (L' := [.blk bp0 (.cells #[S s39, I n40] 72), .blk bk2 (.cells #[S s41, Value.bool b42, v44] 34), .blk bk4 (.cells #[S s46, Value.bool b47, v50] 34), RowS 24 3 xenc24 v50 l49]) (by repeat first | exact kPn | refine kPc (by repeat first | exact .head | apply Rem.tail) ?_)) (address_reader_words_ct hx55) (.left (Spl.all _)) rfl trivial (Wn.none rfl) ?_
          intro M w H hle
          refine WQ.pAny (e' := []) trivial (by kernel_rfl) ?_
          (repeat (first | refine WQ.pThen ?_ | refine WQ.pIn ?_ | refine WQ.pCut ?_ | refine WQ.pSc ?_))
          exact WQ.pBody H
      ·
       try dsimp only at h
       obtain rfl := oI h
       refine RG (MV rfl rfl ?_)
       refine WR.callPan (A := [.blk bp0 (.cells #[S s23, I n24] 72)]) (B := [.blk bk2 (.cells #[S [], Value.bool false, Value.slice none 0 0] 34), .blk bk4 (.cells #[S s19, Value.bool true, Value.slice none 0 0] 34)]) (H.pick (L' := [.blk bp0 (.cells #[S s23, I n24] 72), .blk bk2 (.cells #[S [], Value.bool false, Value.slice none 0 0] 34), .blk bk4 (.cells #[S s19, Value.bool true, Value.slice none 0 0] 34)]) (by repeat first | exact kPn | refine kPc (by repeat first | exact .head | apply Rem.tail) ?_)) (address_reader_is_ct hx33) (.left (Spl.all _)) rfl trivial (Wn.none rfl) ?_
       intro M w H hle
       (repeat (first | refine WQ.pThen ?_ | refine WQ.pIn ?_ | refine WQ.pCut ?_ | refine WQ.pSc ?_))
       exact WQ.pBody H
   ·
    try dsimp only at h
    obtain rfl := oI h
    refine RG (MV rfl rfl ?_)
    refine WR.callPan (A := [.blk bp0 (.cells #[S o2.1, I o2.2] 72)]) (B := [.blk bk2 (.cells #[S [], Value.bool false, Value.slice none 0 0] 34)]) (H.pick (L' := [.blk bp0 (.cells #[S o2.1, I o2.2] 72), .blk bk2 (.cells #[S [], Value.bool false, Value.slice none 0 0] 34)]) (by repeat first | exact kPn | refine kPc (by repeat first | exact .head | apply Rem.tail) ?_)) (address_reader_is_ct hx8) (.left (Spl.all _)) rfl trivial (Wn.none rfl) ?_
    intro M w H hle
    (repeat (first | refine WQ.pThen ?_ | refine WQ.pIn ?_ | refine WQ.pCut ?_ | refine WQ.pSc ?_))
    exact WQ.pBody H
  ·
   try dsimp only at h
   obtain rfl := oI h
   refine RG (MV rfl rfl ?_)
   refine WR.callPan (A := [.blk bp0 (.cells #[S p0.1, I p0.2] 72)]) (B := [.blk bk2 (.cells #[S [], Value.bool false, Value.slice none 0 0] 34)]) (H.pick (L' := [.blk bp0 (.cells #[S p0.1, I p0.2] 72), .blk bk2 (.cells #[S [], Value.bool false, Value.slice none 0 0] 34)]) (by repeat first | exact kPn | refine kPc (by repeat first | exact .head | apply Rem.tail) ?_)) (address_reader_words_ct hx3) (.left (Spl.all _)) rfl trivial (Wn.none rfl) ?_
   intro M w H hle
   (repeat (first | refine WQ.pThen ?_ | refine WQ.pIn ?_ | refine WQ.pCut ?_ | refine WQ.pSc ?_))
   exact WQ.pBody H
set_option maxHeartbeats 4000000 in
theorem address_Parse_ct {p0 : List UInt8} {r : (List (List UInt8 × Bool × List (List UInt8 × List UInt8 × List UInt8)) × (Int × Int))} (h : address_Parse p0 = some r) : Ct Tryz.prog 19 [S p0] (fun M => GlF (fun w => ∃ m, w.cell? ⟨2, 0, none⟩ = some (.int .i64 m)) M ∧ Tabs M) (fun v M => ∃ x0, v = Value.tuple #[x0, Value.agg #[I r.2.1, I r.2.2]] ∧ SlR xrl34 M x0 r.1) := by
  refine Ct.ofD Tryz.func19 (enters Tryz.func19 (by kernel_rfl) rfl) rfl rfl rfl ?_
  intro w0 M0 H hp
  obtain ⟨hg_maxl, hg_tabs⟩ := hp
  unfold address_Parse at h
  refine SQ (RG (WR.box [_] H rfl rfl (Wn.none rfl) rfl ?_))
  intro bk1 w H
  refine WR.alloc [_] H Tryz.zeroValue22 rfl (Wn.none rfl) rfl ?_
  intro bk2 w H
  refine WR.alloc [_, _] H Tryz.zeroValue27 rfl (Wn.none rfl) rfl ?_
  intro bk3 w H
  refine NL (TN (SQ (SQ (RG (ST (Ex.load1 H rfl (by repeat first | exact kMh | apply kMt) Tryz.isAgg9 (by rfl)) rfl ?_)))))
  refine ST (Ex.lenStr Tryz.underlying9 rfl) rfl (ST (Ex.gtr rfl rfl) rfl (NL (TN ?_)))
  refine WC.condB rfl (fun hk1 => ?_) (fun hk1 => ?_)
  ·
   replace hk1 : (4000 : Int) < (p0.length : Int) := of_decide_eq_true hk1
   rw [if_pos hk1] at h
   refine SQ ?_
   obtain ⟨⟨n2, n3⟩, hx4, h⟩ := bnd h
   try dsimp only at h
   refine RG (WR.call H (basic_Fault_ct hx4) rfl trivial (Wn.none rfl) rfl ?_)
   intro v9 M w H hle hR
   replace hg_maxl := hg_maxl.mono hle
   replace hg_tabs := hg_tabs.mono hle
   try dsimp only at hR
   obtain rfl := hR
   refine WR.putV [_] H rfl rfl (One.slice _ _ _) (by repeat first | exact .head | apply Upd.tail) (by rfl) Tryz.sizeOf22 (by first | decide | (simp; done) | (simp; omega)) (Wn.none rfl) ?_
   intro w H
   refine WR.store [_, _] H rfl rfl rfl (by repeat first | exact .head | apply Upd.tail) Tryz.sizeOf27 rfl (by rfl) (by rfl) (Wn.none rfl) ?_
   intro w H
   refine NL (TN (RT ?_))
   obtain rfl := oI h
   exact WQ.dret2 rfl ⟨_, rfl, H.load1 (by repeat first | exact kMh | apply kMt) Tryz.isAgg22 (by rfl)⟩ ⟨_, rfl, H.loadAgg (by repeat first | exact kMh | apply kMt) Tryz.isAgg27 Tryz.sizeOf27 (by rfl)⟩ H.ext (⟨_, rfl, SlR.nil⟩)
  ·
   replace hk1 : ¬ ((4000 : Int) < (p0.length : Int)) := of_decide_eq_false hk1
   rw [if_neg hk1] at h
   refine SK (TN (SQ (RG ?_)))
   obtain ⟨M, hle, hb5, H⟩ := H.freezeVar (b := bk1) (by repeat first | exact .head | apply Rem.tail)
   replace hg_maxl := hg_maxl.mono hle
   replace hg_tabs := hg_tabs.mono hle
   refine ST (Ex.makeFunc rfl) rfl (WR.deferS (cap := [ptr bk1 0, ptr bk2 0, ptr bk3 0]) rfl (Wn.none rfl) (NL (TN (SQ (RG (ST (Ex.loadM H rfl (hb5.cell (j := 0) rfl) Tryz.isAgg9) rfl (ST (Ex.build [S p0, I 0] Tryz.underlying72 Tryz.zeroValue72 (xplaces72 Tryz.underlying72) rfl rfl) rfl (WR.box [_, _] H rfl rfl (Wn.none rfl) rfl ?_))))))))
   intro bk13 w H
   refine AS rfl rfl (NL (TN (SQ (SQ ?_))))
   obtain ⟨o9, hx8, h⟩ := bnd h
   rcases o9 with ⟨n6, o7⟩ | n10
   ·
    try dsimp only at h
    refine RG (MV rfl rfl ?_)
    refine WR.callX (A := [.blk bk13 (.cells #[S p0, I 0] 72)]) (B := [.blk bk3 (.cells #[I 0, I 0] 27), .blk bk2 (.cells #[Value.slice none 0 0] 22)]) (H.pick (L' := [.blk bk13 (.cells #[S p0, I 0] 72), .blk bk3 (.cells #[I 0, I 0] 27), .blk bk2 (.cells #[Value.slice none 0 0] 22)]) (by repeat first | exact kPn | refine kPc (by repeat first | exact .head | apply Rem.tail) ?_)) (address_reader_peek_ct hx8) (.left (Spl.all _)) rfl trivial (Wn.none rfl) rfl ?_
    intro v15 M w its H hle hR
    replace hg_maxl := hg_maxl.mono hle
    replace hg_tabs := hg_tabs.mono hle
    replace hb5 := hb5.mono hle
    try dsimp only at hR
    obtain ⟨rfl, rfl⟩ := hR
    simp only [List.cons_append, List.nil_append] at H
    refine ST (Ex.neqAnyNil Tryz.underlying20 rfl) rfl (NL (TN ?_))
    obtain ⟨o11, e12, h⟩ := bnd h
    refine WC.cutX (fun e w => ∃ (l14 : List (List UInt8 × Bool × List (List UInt8 × List UInt8 × List UInt8))) (v15 : Value) (g16 : List (List UInt8 × Bool × Hd)) (M : Mem), e = [(1, ptr bk1 0), (2, ptr bk2 0), (3, ptr bk3 0)] ∧ St w0 M0 M [.blk bk2 (.cells #[v15] 22), RowS 34 xrl34.k xrl34.enc v15 g16, .blk bk3 (.cells #[I 0, I 0] 27)] w ∧ GlF (fun w => ∃ m, w.cell? ⟨2, 0, none⟩ = some (.int .i64 m)) M ∧ Tabs M ∧ PtM M bk1 (.cells #[S p0] 9) ∧ RelL xrl34 M g16 l14 ∧ some (.inl l14) = some o11) [] ?_ ?_ (trivial)
    ·
     refine WC.condB rfl (fun hk18 => ?_) (fun hk18 => ?_)
     ·
      replace hk18 : ¬ (n6 = none) := of_not_decide hk18
      rw [if_neg hk18] at e12
      refine SQ ?_
      obtain ⟨o24, hx23, e12⟩ := bnd e12
      rcases o24 with ⟨⟨s19, b20, l21⟩, o22⟩ | n25
      ·
       try dsimp only at e12
       obtain ⟨l29, hxl29, e12⟩ := bnd e12
       refine WC.cutP (fun e w => ∃ (v30 : Value) (b31 : List (List UInt8 × Bool × Hd)) (M : Mem), e = [(1, ptr bk1 0), (2, ptr bk2 0), (3, ptr bk3 0), (4, ptr bk13 0)] ∧ St w0 M0 M [.blk bk2 (.cells #[v30] 22), RowS 34 xrl34.k xrl34.enc v30 b31, .blk bk3 (.cells #[I 0, I 0] 27), .blk bk13 (.cells #[S o22.1, I o22.2] 72)] w ∧ GlF (fun w => ∃ m, w.cell? ⟨2, 0, none⟩ = some (.int .i64 m)) M ∧ Tabs M ∧ PtM M bk1 (.cells #[S p0] 9) ∧ RelL xrl34 M b31 l29) ?_ ?_
       ·
        refine WC.draw (m := 6) rfl rfl H ?_
        intro w H
        refine WA.take (i := 1) rfl (by kernel_rfl) (by kernel_rfl) (by kernel_rfl) (fun _ => Ex.move rfl) (Wn.none rfl) rfl rfl (fun _ _ => rfl) ?_
        refine WA.two (i := 0) (j := 2) (by kernel_rfl) rfl rfl ?_ ?_
        ·
         refine ST (Ex.load1 H rfl (by repeat first | exact kMh | apply kMt) Tryz.isAgg22 (by rfl)) rfl ?_
         refine NA (WA.seq (fuel := 0) [2, 3, 4, 5] rfl (by kernel_rfl) ?_)
         refine WR.callX (A := [.blk bk13 (.cells #[S o7.1, I o7.2] 72)]) (B := [.blk bk3 (.cells #[I 0, I 0] 27), .blk bk2 (.cells #[Value.slice none 0 0] 22)]) (H.pick (L' := [.blk bk13 (.cells #[S o7.1, I o7.2] 72), .blk bk3 (.cells #[I 0, I 0] 27), .blk bk2 (.cells #[Value.slice none 0 0] 22)]) (by repeat first | exact kPn | refine kPc (by repeat first | exact .head | apply Rem.tail) ?_)) (address_reader_item_ct hx23) (.left (Spl.all _)) rfl ⟨hg_maxl, hg_tabs⟩ (Wn.none rfl) rfl ?_
         intro v19 M w its H hle hR
         replace hg_maxl := hg_maxl.mono hle
         replace hg_tabs := hg_tabs.mono hle
         replace hb5 := hb5.mono hle
         try dsimp only at hR
         obtain ⟨x19_0_2, rfl, f19_0_2, rfl⟩ := hR
         simp only [List.cons_append, List.nil_append] at H
         obtain ⟨q26, rfl⟩ := f19_0_2.hd
         refine WR.litS (enc := xrl34.enc) xty22 ([(s19, b20, q26)] : List (List UInt8 × Bool × Hd)) H (fun _ => rfl) rfl (by kernel_rfl) rfl rfl rfl (Wn.none rfl) rfl ?_
         intro v20 M w H hle hs20
         replace hg_maxl := hg_maxl.mono hle
         replace hg_tabs := hg_tabs.mono hle
         replace hb5 := hb5.mono hle
         replace f19_0_2 := f19_0_2.mono hle
         replace hs20 := SlR.of (R := xrl34) (l := ([(s19, b20, l21)] : List (List UInt8 × Bool × List (List UInt8 × List UInt8 × List UInt8)))) hs20 ⟨⟨rfl, rfl, f19_0_2⟩, trivial⟩
         replace H := H.newRowS 34 xrl34.k xrl34.enc
         have hr28 : RelL xrl34 M [] [] := RelL.nil
         refine WR.appRC (R := xrl34) (l := []) xty22 rfl H hr28 rfl (fun _ => by repeat first | exact .head | apply Upd.tail) rfl (hs20) hxl29 (Wn.none rfl) rfl ?_
         intro v21 g21 w hr21 H
         refine WR.putV [_] H rfl rfl (H.rowOneS (by repeat first | exact kMh | apply kMt)) (by repeat first | exact .head | apply Upd.tail) (by rfl) Tryz.sizeOf22 (by first | decide | (simp; done) | (simp; omega)) (Wn.none rfl) ?_
         intro w H
         refine NA (WA.done (by kernel_rfl) ?_)
         exact WQ.meetP [(1, _), (2, _), (3, _), (4, _)] ⟨rfl, rfl, rfl, rfl, trivial⟩ ⟨_, _, _, rfl, (H.pick (L' := [.blk bk2 (.cells #[v21] 22), RowS 34 xrl34.k xrl34.enc v21 g21, .blk bk3 (.cells #[I 0, I 0] 27), .blk bk13 (.cells #[S o22.1, I o22.2] 72)]) (by repeat first | exact kPn | refine kPc (by repeat first | exact .head | apply Rem.tail) ?_)), hg_maxl, hg_tabs, hb5, hr21⟩
        ·
         refine WR.callX (A := [.blk bk13 (.cells #[S o7.1, I o7.2] 72)]) (B := [.blk bk3 (.cells #[I 0, I 0] 27), .blk bk2 (.cells #[Value.slice none 0 0] 22)]) (H.pick (L' := [.blk bk13 (.cells #[S o7.1, I o7.2] 72), .blk bk3 (.cells #[I 0, I 0] 27), .blk bk2 (.cells #[Value.slice none 0 0] 22)]) (by repeat first | exact kPn | refine kPc (by repeat first | exact .head | apply Rem.tail) ?_)) (address_reader_item_ct hx23) (.left (Spl.all _)) rfl ⟨hg_maxl, hg_tabs⟩ (Wn.none rfl) rfl ?_
         intro v19 M w its H hle hR
         replace hg_maxl := hg_maxl.mono hle
         replace hg_tabs := hg_tabs.mono hle
         replace hb5 := hb5.mono hle
         try dsimp only at hR
         obtain ⟨x19_0_2, rfl, f19_0_2, rfl⟩ := hR
         simp only [List.cons_append, List.nil_append] at H
         refine NA ?_
         refine WA.two (i := 0) (j := 3) (by kernel_rfl) rfl rfl ?_ ?_
         ·
          refine ST (Ex.load1 H rfl (by repeat first | exact kMh | apply kMt) Tryz.isAgg22 (by rfl)) rfl ?_
          refine NA (WA.seq (fuel := 0) [3, 4, 5] rfl (by kernel_rfl) ?_)
          obtain ⟨q26, rfl⟩ := f19_0_2.hd
          refine WR.litS (enc := xrl34.enc) xty22 ([(s19, b20, q26)] : List (List UInt8 × Bool × Hd)) H (fun _ => rfl) rfl (by kernel_rfl) rfl rfl rfl (Wn.none rfl) rfl ?_
          intro v20 M w H hle hs20
          replace hg_maxl := hg_maxl.mono hle
          replace hg_tabs := hg_tabs.mono hle
          replace hb5 := hb5.mono hle
          replace f19_0_2 := f19_0_2.mono hle
          replace hs20 := SlR.of (R := xrl34) (l := ([(s19, b20, l21)] : List (List UInt8 × Bool × List (List UInt8 × List UInt8 × List UInt8)))) hs20 ⟨⟨rfl, rfl, f19_0_2⟩, trivial⟩
          replace H := H.newRowS 34 xrl34.k xrl34.enc
          have hr28 : RelL xrl34 M [] [] := RelL.nil
          refine WR.appRC (R := xrl34) (l := []) xty22 rfl H hr28 rfl (fun _ => by repeat first | exact .head | apply Upd.tail) rfl (hs20) hxl29 (Wn.none rfl) rfl ?_
          intro v21 g21 w hr21 H
          refine WR.putV [_] H rfl rfl (H.rowOneS (by repeat first | exact kMh | apply kMt)) (by repeat first | exact .head | apply Upd.tail) (by rfl) Tryz.sizeOf22 (by first | decide | (simp; done) | (simp; omega)) (Wn.none rfl) ?_
          intro w H
          refine NA (WA.done (by kernel_rfl) ?_)
          exact WQ.meetP [(1, _), (2, _), (3, _), (4, _)] ⟨rfl, rfl, rfl, rfl, trivial⟩ ⟨_, _, _, rfl, (H.pick (L' := [.blk bk2 (.cells #[v21] 22), RowS 34 xrl34.k xrl34.enc v21 g21, .blk bk3 (.cells #[I 0, I 0] 27), .blk bk13 (.cells #[S o22.1, I o22.2] 72)]) (by repeat first | exact kPn | refine kPc (by repeat first | exact .head | apply Rem.tail) ?_)), hg_maxl, hg_tabs, hb5, hr21⟩
         ·
          obtain ⟨q26, rfl⟩ := f19_0_2.hd
          refine WR.litS (enc := xrl34.enc) xty22 ([(s19, b20, q26)] : List (List UInt8 × Bool × Hd)) H (fun _ => rfl) rfl (by kernel_rfl) rfl rfl rfl (Wn.none rfl) rfl ?_
          intro v20 M w H hle hs20
          replace hg_maxl := hg_maxl.mono hle
          replace hg_tabs := hg_tabs.mono hle
          replace hb5 := hb5.mono hle
          replace f19_0_2 := f19_0_2.mono hle
          replace hs20 := SlR.of (R := xrl34) (l := ([(s19, b20, l21)] : List (List UInt8 × Bool × List (List UInt8 × List UInt8 × List UInt8)))) hs20 ⟨⟨rfl, rfl, f19_0_2⟩, trivial⟩
          refine NA (WA.seq (fuel := 0) [0, 4, 5] rfl (by kernel_rfl) (ST (Ex.load1 H rfl (by repeat first | exact kMh | apply kMt) Tryz.isAgg22 (by rfl)) rfl ?_))
          replace H := H.newRowS 34 xrl34.k xrl34.enc
          have hr28 : RelL xrl34 M [] [] := RelL.nil
          refine WR.appRC (R := xrl34) (l := []) xty22 rfl H hr28 rfl (fun _ => by repeat first | exact .head | apply Upd.tail) rfl (hs20) hxl29 (Wn.none rfl) rfl ?_
          intro v21 g21 w hr21 H
          refine WR.putV [_] H rfl rfl (H.rowOneS (by repeat first | exact kMh | apply kMt)) (by repeat first | exact .head | apply Upd.tail) (by rfl) Tryz.sizeOf22 (by first | decide | (simp; done) | (simp; omega)) (Wn.none rfl) ?_
          intro w H
          refine NA (WA.done (by kernel_rfl) ?_)
          exact WQ.meetP [(1, _), (2, _), (3, _), (4, _)] ⟨rfl, rfl, rfl, rfl, trivial⟩ ⟨_, _, _, rfl, (H.pick (L' := [.blk bk2 (.cells #[v21] 22), RowS 34 xrl34.k xrl34.enc v21 g21, .blk bk3 (.cells #[I 0, I 0] 27), .blk bk13 (.cells #[S o22.1, I o22.2] 72)]) (by repeat first | exact kPn | refine kPc (by repeat first | exact .head | apply Rem.tail) ?_)), hg_maxl, hg_tabs, hb5, hr21⟩
       ·
        rintro e w ⟨v30, b31, M, rfl, H, hg_maxl, hg_tabs, hb5, hr32⟩
        refine TN (SQ ?_)
        obtain ⟨o33, e34, e12⟩ := bnd e12
        refine WC.cutX (fun e w => ∃ (l36 : List (List UInt8 × Bool × List (List UInt8 × List UInt8 × List UInt8))) (v37 : Value) (g38 : List (List UInt8 × Bool × Hd)) (s40 : List UInt8) (n41 : Int) (M : Mem), e = [(1, ptr bk1 0), (2, ptr bk2 0), (3, ptr bk3 0), (4, ptr bk13 0)] ∧ St w0 M0 M [.blk bk2 (.cells #[v37] 22), RowS 34 xrl34.k xrl34.enc v37 g38, .blk bk3 (.cells #[I 0, I 0] 27), .blk bk13 (.cells #[S s40, I n41] 72)] w ∧ GlF (fun w => ∃ m, w.cell? ⟨2, 0, none⟩ = some (.int .i64 m)) M ∧ Tabs M ∧ PtM M bk1 (.cells #[S p0] 9) ∧ RelL xrl34 M g38 l36 ∧ some (.inl (l36, s40, n41)) = some o33) [] ?_ ?_ (trivial)
        ·
         refine BL (WC.loopP (fun m e w => ∃ (l43 : List (List UInt8 × Bool × List (List UInt8 × List UInt8 × List UInt8))) (v44 : Value) (g45 : List (List UInt8 × Bool × Hd)) (s47 : List UInt8) (n48 : Int) (M : Mem), e = [(1, ptr bk1 0), (2, ptr bk2 0), (3, ptr bk3 0), (4, ptr bk13 0)] ∧ St w0 M0 M [.blk bk2 (.cells #[v44] 22), RowS 34 xrl34.k xrl34.enc v44 g45, .blk bk3 (.cells #[I 0, I 0] 27), .blk bk13 (.cells #[S s47, I n48] 72)] w ∧ GlF (fun w => ∃ m, w.cell? ⟨2, 0, none⟩ = some (.int .i64 m)) M ∧ Tabs M ∧ PtM M bk1 (.cells #[S p0] 9) ∧ RelL xrl34 M g45 l43 ∧ address_Parse_L1 p0 m l43 s47 n48 = some o33) FU [(1, _), (2, _), (3, _), (4, _)] ⟨rfl, rfl, rfl, rfl, trivial⟩ ⟨_, _, _, _, _, _, rfl, H, hg_maxl, hg_tabs, hb5, hr32, e34⟩ ?_)
         rintro m49 e w ⟨l43, v44, g45, s47, n48, M, rfl, H, hg_maxl, hg_tabs, hb5, hs46, e34⟩
         rcases m49 with _ | m49
         · rw [address_Parse_L1] at e34; cases e34
         rw [address_Parse_L1] at e34
         refine SQ (SQ ?_)
         obtain ⟨o53, hx52, e34⟩ := bnd e34
         rcases o53 with ⟨b50, o51⟩ | n54
         ·
          try dsimp only at e34
          refine RG (MV rfl rfl ?_)
          refine WR.callX (A := [.blk bk13 (.cells #[S s47, I n48] 72)]) (B := [.blk bk2 (.cells #[v44] 22), RowS 34 xrl34.k xrl34.enc v44 g45, .blk bk3 (.cells #[I 0, I 0] 27)]) (H.pick (L' := [.blk bk13 (.cells #[S s47, I n48] 72), .blk bk2 (.cells #[v44] 22), RowS 34 xrl34.k xrl34.enc v44 g45, .blk bk3 (.cells #[I 0, I 0] 27)]) (by repeat first | exact kPn | refine kPc (by repeat first | exact .head | apply Rem.tail) ?_)) (address_reader_is_ct hx52) (.left (Spl.all _)) rfl trivial (Wn.none rfl) rfl ?_
          intro v23 M w its H hle hR
          replace hg_maxl := hg_maxl.mono hle
          replace hg_tabs := hg_tabs.mono hle
          replace hs46 := hs46.mono hle
          replace hb5 := hb5.mono hle
          try dsimp only at hR
          obtain ⟨rfl, rfl⟩ := hR
          simp only [List.cons_append, List.nil_append] at H
          refine NL (TN ?_)
          refine WC.condB rfl (fun hk55 => ?_) (fun hk55 => ?_)
          ·
           subst hk55
           rw [if_pos rfl] at e34
           refine SK (TN (BL ?_))
           obtain ⟨o61, hx60, e34⟩ := bnd e34
           rcases o61 with ⟨⟨s56, b57, l58⟩, o59⟩ | n62
           ·
            try dsimp only at e34
            obtain ⟨l64, hxl64, e34⟩ := bnd e34
            refine WC.cutP (fun e w => ∃ (v65 : Value) (b66 : List (List UInt8 × Bool × Hd)) (M : Mem), e = [(1, ptr bk1 0), (2, ptr bk2 0), (3, ptr bk3 0), (4, ptr bk13 0)] ∧ St w0 M0 M [.blk bk2 (.cells #[v65] 22), RowS 34 xrl34.k xrl34.enc v65 b66, .blk bk3 (.cells #[I 0, I 0] 27), .blk bk13 (.cells #[S o59.1, I o59.2] 72)] w ∧ GlF (fun w => ∃ m, w.cell? ⟨2, 0, none⟩ = some (.int .i64 m)) M ∧ Tabs M ∧ PtM M bk1 (.cells #[S p0] 9) ∧ RelL xrl34 M b66 l64) ?_ ?_
            ·
             refine WC.draw (m := 6) rfl rfl H ?_
             intro w H
             refine WA.take (i := 1) rfl (by kernel_rfl) (by kernel_rfl) (by kernel_rfl) (fun _ => Ex.move rfl) (Wn.none rfl) rfl rfl (fun _ _ => rfl) ?_
             refine WA.two (i := 0) (j := 2) (by kernel_rfl) rfl rfl ?_ ?_
             ·
              refine ST (Ex.load1 H rfl (by repeat first | exact kMh | apply kMt) Tryz.isAgg22 (by rfl)) rfl ?_
              refine NA (WA.seq (fuel := 0) [2, 3, 4, 5] rfl (by kernel_rfl) ?_)
              refine WR.callX (A := [.blk bk13 (.cells #[S o51.1, I o51.2] 72)]) (B := [.blk bk2 (.cells #[v44] 22), RowS 34 xrl34.k xrl34.enc v44 g45, .blk bk3 (.cells #[I 0, I 0] 27)]) (H.pick (L' := [.blk bk13 (.cells #[S o51.1, I o51.2] 72), .blk bk2 (.cells #[v44] 22), RowS 34 xrl34.k xrl34.enc v44 g45, .blk bk3 (.cells #[I 0, I 0] 27)]) (by repeat first | exact kPn | refine kPc (by repeat first | exact .head | apply Rem.tail) ?_)) (address_reader_item_ct hx60) (.left (Spl.all _)) rfl ⟨hg_maxl, hg_tabs⟩ (Wn.none rfl) rfl ?_
              intro v26 M w its H hle hR
              replace hg_maxl := hg_maxl.mono hle
              replace hg_tabs := hg_tabs.mono hle
              replace hs46 := hs46.mono hle
              replace hb5 := hb5.mono hle
              try dsimp only at hR
              obtain ⟨x26_0_2, rfl, f26_0_2, rfl⟩ := hR
              simp only [List.cons_append, List.nil_append] at H
              obtain ⟨q63, rfl⟩ := f26_0_2.hd
              refine WR.litS (enc := xrl34.enc) xty22 ([(s56, b57, q63)] : List (List UInt8 × Bool × Hd)) H (fun _ => rfl) rfl (by kernel_rfl) rfl rfl rfl (Wn.none rfl) rfl ?_
              intro v27 M w H hle hs27
              replace hg_maxl := hg_maxl.mono hle
              replace hg_tabs := hg_tabs.mono hle
              replace hs46 := hs46.mono hle
              replace hb5 := hb5.mono hle
              replace f26_0_2 := f26_0_2.mono hle
              replace hs27 := SlR.of (R := xrl34) (l := ([(s56, b57, l58)] : List (List UInt8 × Bool × List (List UInt8 × List UInt8 × List UInt8)))) hs27 ⟨⟨rfl, rfl, f26_0_2⟩, trivial⟩
              refine WR.appRC (R := xrl34) (l := l43) xty22 rfl H hs46 rfl (fun _ => by repeat first | exact .head | apply Upd.tail) rfl (hs27) hxl64 (Wn.none rfl) rfl ?_
              intro v28 g28 w hr28 H
              refine WR.putV [_] H rfl rfl (H.rowOneS (by repeat first | exact kMh | apply kMt)) (by repeat first | exact .head | apply Upd.tail) (by rfl) Tryz.sizeOf22 (by first | decide | (simp; done) | (simp; omega)) (Wn.none rfl) ?_
              intro w H
              refine NA (WA.done (by kernel_rfl) ?_)
              exact WQ.meetP [(1, _), (2, _), (3, _), (4, _)] ⟨rfl, rfl, rfl, rfl, trivial⟩ ⟨_, _, _, rfl, (H.pick (L' := [.blk bk2 (.cells #[v28] 22), RowS 34 xrl34.k xrl34.enc v28 g28, .blk bk3 (.cells #[I 0, I 0] 27), .blk bk13 (.cells #[S o59.1, I o59.2] 72)]) (by repeat first | exact kPn | refine kPc (by repeat first | exact .head | apply Rem.tail) ?_)), hg_maxl, hg_tabs, hb5, hr28⟩
             ·
              refine WR.callX (A := [.blk bk13 (.cells #[S o51.1, I o51.2] 72)]) (B := [.blk bk2 (.cells #[v44] 22), RowS 34 xrl34.k xrl34.enc v44 g45, .blk bk3 (.cells #[I 0, I 0] 27)]) (H.pick (L' := [.blk bk13 (.cells #[S o51.1, I o51.2] 72), .blk bk2 (.cells #[v44] 22), RowS 34 xrl34.k xrl34.enc v44 g45, .blk bk3 (.cells #[I 0, I 0] 27)]) (by repeat first | exact kPn | refine kPc (by repeat first | exact .head | apply Rem.tail) ?_)) (address_reader_item_ct hx60) (.left (Spl.all _)) rfl ⟨hg_maxl, hg_tabs⟩ (Wn.none rfl) rfl ?_
              intro v26 M w its H hle hR
              replace hg_maxl := hg_maxl.mono hle
              replace hg_tabs := hg_tabs.mono hle
              replace hs46 := hs46.mono hle
              replace hb5 := hb5.mono hle
              try dsimp only at hR
              obtain ⟨x26_0_2, rfl, f26_0_2, rfl⟩ := hR
              simp only [List.cons_append, List.nil_append] at H
              refine NA ?_
              refine WA.two (i := 0) (j := 3) (by kernel_rfl) rfl rfl ?_ ?_
              ·
               refine ST (Ex.load1 H rfl (by repeat first | exact kMh | apply kMt) Tryz.isAgg22 (by rfl)) rfl ?_
               refine NA (WA.seq (fuel := 0) [3, 4, 5] rfl (by kernel_rfl) ?_)
               obtain ⟨q63, rfl⟩ := f26_0_2.hd
               refine WR.litS (enc := xrl34.enc) xty22 ([(s56, b57, q63)] : List (List UInt8 × Bool × Hd)) H (fun _ => rfl) rfl (by kernel_rfl) rfl rfl rfl (Wn.none rfl) rfl ?_
               intro v27 M w H hle hs27
               replace hg_maxl := hg_maxl.mono hle
               replace hg_tabs := hg_tabs.mono hle
               replace hs46 := hs46.mono hle
               replace hb5 := hb5.mono hle
               replace f26_0_2 := f26_0_2.mono hle
               replace hs27 := SlR.of (R := xrl34) (l := ([(s56, b57, l58)] : List (List UInt8 × Bool × List (List UInt8 × List UInt8 × List UInt8)))) hs27 ⟨⟨rfl, rfl, f26_0_2⟩, trivial⟩
               refine WR.appRC (R := xrl34) (l := l43) xty22 rfl H hs46 rfl (fun _ => by repeat first | exact .head | apply Upd.tail) rfl (hs27) hxl64 (Wn.none rfl) rfl ?_
               intro v28 g28 w hr28 H
               refine WR.putV [_] H rfl rfl (H.rowOneS (by repeat first | exact kMh | apply kMt)) (by repeat first | exact .head | apply Upd.tail) (by rfl) Tryz.sizeOf22 (by first | decide | (simp; done) | (simp; omega)) (Wn.none rfl) ?_
               intro w H
               refine NA (WA.done (by kernel_rfl) ?_)
               exact WQ.meetP [(1, _), (2, _), (3, _), (4, _)] ⟨rfl, rfl, rfl, rfl, trivial⟩ ⟨_, _, _, rfl, (H.pick (L' := [.blk bk2 (.cells #[v28] 22), RowS 34 xrl34.k xrl34.enc v28 g28, .blk bk3 (.cells #[I 0, I 0] 27), .blk bk13 (.cells #[S o59.1, I o59.2] 72)]) (by repeat first | exact kPn | refine kPc (by repeat first | exact .head | apply Rem.tail) ?_)), hg_maxl, hg_tabs, hb5, hr28⟩
              ·
               obtain ⟨q63, rfl⟩ := f26_0_2.hd
               refine WR.litS (enc := xrl34.enc) xty22 ([(s56, b57, q63)] : List (List UInt8 × Bool × Hd)) H (fun _ => rfl) rfl (by kernel_rfl) rfl rfl rfl (Wn.none rfl) rfl ?_
               intro v27 M w H hle hs27
               replace hg_maxl := hg_maxl.mono hle
               replace hg_tabs := hg_tabs.mono hle
               replace hs46 := hs46.mono hle
               replace hb5 := hb5.mono hle
               replace f26_0_2 := f26_0_2.mono hle
               replace hs27 := SlR.of (R := xrl34) (l := ([(s56, b57, l58)] : List (List UInt8 × Bool × List (List UInt8 × List UInt8 × List UInt8)))) hs27 ⟨⟨rfl, rfl, f26_0_2⟩, trivial⟩
               refine NA (WA.seq (fuel := 0) [0, 4, 5] rfl (by kernel_rfl) (ST (Ex.load1 H rfl (by repeat first | exact kMh | apply kMt) Tryz.isAgg22 (by rfl)) rfl ?_))
               refine WR.appRC (R := xrl34) (l := l43) xty22 rfl H hs46 rfl (fun _ => by repeat first | exact .head | apply Upd.tail) rfl (hs27) hxl64 (Wn.none rfl) rfl ?_
               intro v28 g28 w hr28 H
               refine WR.putV [_] H rfl rfl (H.rowOneS (by repeat first | exact kMh | apply kMt)) (by repeat first | exact .head | apply Upd.tail) (by rfl) Tryz.sizeOf22 (by first | decide | (simp; done) | (simp; omega)) (Wn.none rfl) ?_
               intro w H
               refine NA (WA.done (by kernel_rfl) ?_)
               exact WQ.meetP [(1, _), (2, _), (3, _), (4, _)] ⟨rfl, rfl, rfl, rfl, trivial⟩ ⟨_, _, _, rfl, (H.pick (L' := [.blk bk2 (.cells #[v28] 22), RowS 34 xrl34.k xrl34.enc v28 g28, .blk bk3 (.cells #[I 0, I 0] 27), .blk bk13 (.cells #[S o59.1, I o59.2] 72)]) (by repeat first | exact kPn | refine kPc (by repeat first | exact .head | apply Rem.tail) ?_)), hg_maxl, hg_tabs, hb5, hr28⟩
            ·
             rintro e w ⟨v65, b66, M, rfl, H, hg_maxl, hg_tabs, hb5, hr67⟩
             refine IB ?_
             exact WQ.againP m49 [(1, _), (2, _), (3, _), (4, _)] ⟨rfl, rfl, rfl, rfl, trivial⟩ ⟨_, _, _, _, _, _, rfl, H, hg_maxl, hg_tabs, hb5, hr67, e34⟩ (Nat.lt_succ_self _)
           ·
            try dsimp only at e34
            obtain rfl := oI e34
            try dsimp only at e12
            obtain rfl := oI e12
            try dsimp only at h
            obtain rfl := oI h
            refine WC.draw (m := 6) rfl rfl H ?_
            intro w H
            refine WA.take (i := 1) rfl (by kernel_rfl) (by kernel_rfl) (by kernel_rfl) (fun _ => Ex.move rfl) (Wn.none rfl) rfl rfl (fun _ _ => rfl) ?_
            refine WA.two (i := 0) (j := 2) (by kernel_rfl) rfl rfl ?_ ?_
            ·
             refine ST (Ex.load1 H rfl (by repeat first | exact kMh | apply kMt) Tryz.isAgg22 (by rfl)) rfl ?_
             refine NA (ON 2 (by kernel_rfl) rfl ?_)
             refine WR.callPan (A := [.blk bk13 (.cells #[S o51.1, I o51.2] 72)]) (B := [.blk bk2 (.cells #[v44] 22), RowS 34 xrl34.k xrl34.enc v44 g45, .blk bk3 (.cells #[I 0, I 0] 27)]) (H.pick (L' := [.blk bk13 (.cells #[S o51.1, I o51.2] 72), .blk bk2 (.cells #[v44] 22), RowS 34 xrl34.k xrl34.enc v44 g45, .blk bk3 (.cells #[I 0, I 0] 27)]) (by repeat first | exact kPn | refine kPc (by repeat first | exact .head | apply Rem.tail) ?_)) (address_reader_item_ct hx60) (.left (Spl.all _)) rfl ⟨hg_maxl, hg_tabs⟩ (Wn.none rfl) ?_
             intro M w H hle
             refine WQ.pAny (e' := [(2, ptr bk2 0), (3, ptr bk3 0)]) ⟨rfl, rfl, trivial⟩ (by kernel_rfl) ?_
             (repeat (first | refine WQ.pThen ?_ | refine WQ.pIn ?_ | refine WQ.pCut ?_ | refine WQ.pSc ?_))
             exact parse_pan (s := p0) (n := n62) H (by repeat first | exact kPn | refine kPc (by repeat first | exact .head | apply Rem.tail) ?_) (hb5.mono hle) rfl rfl (fun M => ⟨_, rfl, SlR.nil⟩)
            ·
             refine WR.callPan (A := [.blk bk13 (.cells #[S o51.1, I o51.2] 72)]) (B := [.blk bk2 (.cells #[v44] 22), RowS 34 xrl34.k xrl34.enc v44 g45, .blk bk3 (.cells #[I 0, I 0] 27)]) (H.pick (L' := [.blk bk13 (.cells #[S o51.1, I o51.2] 72), .blk bk2 (.cells #[v44] 22), RowS 34 xrl34.k xrl34.enc v44 g45, .blk bk3 (.cells #[I 0, I 0] 27)]) (by repeat first | exact kPn | refine kPc (by repeat first | exact .head | apply Rem.tail) ?_)) (address_reader_item_ct hx60) (.left (Spl.all _)) rfl ⟨hg_maxl, hg_tabs⟩ (Wn.none rfl) ?_
             intro M w H hle
             refine WQ.pAny (e' := [(2, ptr bk2 0), (3, ptr bk3 0)]) ⟨rfl, rfl, trivial⟩ (by kernel_rfl) ?_
             (repeat (first | refine WQ.pThen ?_ | refine WQ.pIn ?_ | refine WQ.pCut ?_ | refine WQ.pSc ?_))
             exact parse_pan (s := p0) (n := n62) H (by repeat first | exact kPn | refine kPc (by repeat first | exact .head | apply Rem.tail) ?_) (hb5.mono hle) rfl rfl (fun M => ⟨_, rfl, SlR.nil⟩)
          ·
           subst hk55
           rw [if_neg Bool.false_ne_true] at e34
           refine WC.exit (WQ.thenExit (WQ.thenExit (WQ.exitHere ?_)))
           exact WQ.meetN [(1, _), (2, _), (3, _), (4, _)] ⟨rfl, rfl, rfl, rfl, trivial⟩ ⟨_, _, _, _, _, _, rfl, (H.pick (L' := [.blk bk2 (.cells #[v44] 22), RowS 34 xrl34.k xrl34.enc v44 g45, .blk bk3 (.cells #[I 0, I 0] 27), .blk bk13 (.cells #[S o51.1, I o51.2] 72)]) (by repeat first | exact kPn | refine kPc (by repeat first | exact .head | apply Rem.tail) ?_)), hg_maxl, hg_tabs, hb5, hs46, e34⟩
         ·
          try dsimp only at e34
          obtain rfl := oI e34
          try dsimp only at e12
          obtain rfl := oI e12
          try dsimp only at h
          obtain rfl := oI h
          refine RG (MV rfl rfl ?_)
          refine WR.callPan (A := [.blk bk13 (.cells #[S s47, I n48] 72)]) (B := [.blk bk2 (.cells #[v44] 22), RowS 34 xrl34.k xrl34.enc v44 g45, .blk bk3 (.cells #[I 0, I 0] 27)]) (H.pick (L' := [.blk bk13 (.cells #[S s47, I n48] 72), .blk bk2 (.cells #[v44] 22), RowS 34 xrl34.k xrl34.enc v44 g45, .blk bk3 (.cells #[I 0, I 0] 27)]) (by repeat first | exact kPn | refine kPc (by repeat first | exact .head | apply Rem.tail) ?_)) (address_reader_is_ct hx52) (.left (Spl.all _)) rfl trivial (Wn.none rfl) ?_
          intro M w H hle
          (repeat (first | refine WQ.pThen ?_ | refine WQ.pIn ?_ | refine WQ.pCut ?_ | refine WQ.pSc ?_))
          exact parse_pan (s := p0) (n := n54) H (by repeat first | exact kPn | refine kPc (by repeat first | exact .head | apply Rem.tail) ?_) (hb5.mono hle) rfl rfl (fun M => ⟨_, rfl, SlR.nil⟩)
        ·
         rintro e w ⟨l36, v37, g38, s40, n41, M, rfl, H, hg_maxl, hg_tabs, hb5, hs39, q68⟩
         obtain rfl := oI q68
         try dsimp only at e12
         refine TN (SQ ?_)
         obtain ⟨o72, hx71, e12⟩ := bnd e12
         rcases o72 with ⟨n69, o70⟩ | n73
         ·
          try dsimp only at e12
          refine RG (MV rfl rfl ?_)
          refine WR.callX (A := [.blk bk13 (.cells #[S s40, I n41] 72)]) (B := [.blk bk2 (.cells #[v37] 22), RowS 34 xrl34.k xrl34.enc v37 g38, .blk bk3 (.cells #[I 0, I 0] 27)]) (H.pick (L' := [.blk bk13 (.cells #[S s40, I n41] 72), .blk bk2 (.cells #[v37] 22), RowS 34 xrl34.k xrl34.enc v37 g38, .blk bk3 (.cells #[I 0, I 0] 27)]) (by repeat first | exact kPn | refine kPc (by repeat first | exact .head | apply Rem.tail) ?_)) (address_reader_peek_ct hx71) (.left (Spl.all _)) rfl trivial (Wn.none rfl) rfl ?_
          intro v30 M w its H hle hR
          replace hg_maxl := hg_maxl.mono hle
          replace hg_tabs := hg_tabs.mono hle
          replace hs39 := hs39.mono hle
          replace hb5 := hb5.mono hle
          try dsimp only at hR
          obtain ⟨rfl, rfl⟩ := hR
          simp only [List.cons_append, List.nil_append] at H
          refine ST (Ex.neqAnyNil Tryz.underlying20 rfl) rfl (NL (TN ?_))
          refine WC.condB rfl (fun hk74 => ?_) (fun hk74 => ?_)
          ·
           replace hk74 : ¬ (n69 = none) := of_not_decide hk74
           rw [if_neg hk74] at e12
           obtain ⟨o77, hx76, e12⟩ := bnd e12
           rcases o77 with o75 | n78
           ·
            try dsimp only at e12
            refine RG (MV rfl rfl ?_)
            refine WR.callX (A := [.blk bk13 (.cells #[S o70.1, I o70.2] 72)]) (B := [.blk bk2 (.cells #[v37] 22), RowS 34 xrl34.k xrl34.enc v37 g38, .blk bk3 (.cells #[I 0, I 0] 27)]) (H.pick (L' := [.blk bk13 (.cells #[S o70.1, I o70.2] 72), .blk bk2 (.cells #[v37] 22), RowS 34 xrl34.k xrl34.enc v37 g38, .blk bk3 (.cells #[I 0, I 0] 27)]) (by repeat first | exact kPn | refine kPc (by repeat first | exact .head | apply Rem.tail) ?_)) (address_reader_fail_ct hx76) (.left (Spl.all _)) rfl trivial (Wn.none rfl) rfl ?_
            intro v33 M w its H hle hR
            replace hg_maxl := hg_maxl.mono hle
            replace hg_tabs := hg_tabs.mono hle
            replace hs39 := hs39.mono hle
            replace hb5 := hb5.mono hle
            try dsimp only at hR
            obtain ⟨rfl, rfl⟩ := hR
            simp only [List.cons_append, List.nil_append] at H
            refine NL ?_
            exact WQ.meetN [(1, _), (2, _), (3, _)] ⟨rfl, rfl, rfl, trivial⟩ ⟨_, _, _, _, rfl, (H.pick (L' := [.blk bk2 (.cells #[v37] 22), RowS 34 xrl34.k xrl34.enc v37 g38, .blk bk3 (.cells #[I 0, I 0] 27)]) (by repeat first | exact kPn | refine kPc (by repeat first | exact .head | apply Rem.tail) ?_)), hg_maxl, hg_tabs, hb5, hs39, e12⟩
           ·
            try dsimp only at e12
            obtain rfl := oI e12
            try dsimp only at h
            obtain rfl := oI h
            refine RG (MV rfl rfl ?_)
            refine WR.callPan (A := [.blk bk13 (.cells #[S o70.1, I o70.2] 72)]) (B := [.blk bk2 (.cells #[v37] 22), RowS 34 xrl34.k xrl34.enc v37 g38, .blk bk3 (.cells #[I 0, I 0] 27)]) (H.pick (L' := [.blk bk13 (.cells #[S o70.1, I o70.2] 72), .blk bk2 (.cells #[v37] 22), RowS 34 xrl34.k xrl34.enc v37 g38, .blk bk3 (.cells #[I 0, I 0] 27)]) (by repeat first | exact kPn | refine kPc (by repeat first | exact .head | apply Rem.tail) ?_)) (address_reader_fail_ct hx76) (.left (Spl.all _)) rfl trivial (Wn.none rfl) ?_
            intro M w H hle
            (repeat (first | refine WQ.pThen ?_ | refine WQ.pIn ?_ | refine WQ.pCut ?_ | refine WQ.pSc ?_))
            exact parse_pan (s := p0) (n := n78) H (by repeat first | exact kPn | refine kPc (by repeat first | exact .head | apply Rem.tail) ?_) (hb5.mono hle) rfl rfl (fun M => ⟨_, rfl, SlR.nil⟩)
          ·
           replace hk74 : n69 = none := of_not_decide' hk74
           rw [if_pos hk74] at e12
           refine SK ?_
           exact WQ.meetN [(1, _), (2, _), (3, _)] ⟨rfl, rfl, rfl, trivial⟩ ⟨_, _, _, _, rfl, (H.pick (L' := [.blk bk2 (.cells #[v37] 22), RowS 34 xrl34.k xrl34.enc v37 g38, .blk bk3 (.cells #[I 0, I 0] 27)]) (by repeat first | exact kPn | refine kPc (by repeat first | exact .head | apply Rem.tail) ?_)), hg_maxl, hg_tabs, hb5, hs39, e12⟩
         ·
          try dsimp only at e12
          obtain rfl := oI e12
          try dsimp only at h
          obtain rfl := oI h
          refine RG (MV rfl rfl ?_)
          refine WR.callPan (A := [.blk bk13 (.cells #[S s40, I n41] 72)]) (B := [.blk bk2 (.cells #[v37] 22), RowS 34 xrl34.k xrl34.enc v37 g38, .blk bk3 (.cells #[I 0, I 0] 27)]) (H.pick (L' := [.blk bk13 (.cells #[S s40, I n41] 72), .blk bk2 (.cells #[v37] 22), RowS 34 xrl34.k xrl34.enc v37 g38, .blk bk3 (.cells #[I 0, I 0] 27)]) (by repeat first | exact kPn | refine kPc (by repeat first | exact .head | apply Rem.tail) ?_)) (address_reader_peek_ct hx71) (.left (Spl.all _)) rfl trivial (Wn.none rfl) ?_
          intro M w H hle
          (repeat (first | refine WQ.pThen ?_ | refine WQ.pIn ?_ | refine WQ.pCut ?_ | refine WQ.pSc ?_))
          exact parse_pan (s := p0) (n := n73) H (by repeat first | exact kPn | refine kPc (by repeat first | exact .head | apply Rem.tail) ?_) (hb5.mono hle) rfl rfl (fun M => ⟨_, rfl, SlR.nil⟩)
      ·
       try dsimp only at e12
       obtain rfl := oI e12
       try dsimp only at h
       obtain rfl := oI h
       refine WC.draw (m := 6) rfl rfl H ?_
       intro w H
       refine WA.take (i := 1) rfl (by kernel_rfl) (by kernel_rfl) (by kernel_rfl) (fun _ => Ex.move rfl) (Wn.none rfl) rfl rfl (fun _ _ => rfl) ?_
       refine WA.two (i := 0) (j := 2) (by kernel_rfl) rfl rfl ?_ ?_
       ·
        refine ST (Ex.load1 H rfl (by repeat first | exact kMh | apply kMt) Tryz.isAgg22 (by rfl)) rfl ?_
        refine NA (ON 2 (by kernel_rfl) rfl ?_)
        refine WR.callPan (A := [.blk bk13 (.cells #[S o7.1, I o7.2] 72)]) (B := [.blk bk3 (.cells #[I 0, I 0] 27), .blk bk2 (.cells #[Value.slice none 0 0] 22)]) (H.pick (L' := [.blk bk13 (.cells #[S o7.1, I o7.2] 72), .blk bk3 (.cells #[I 0, I 0] 27), .blk bk2 (.cells #[Value.slice none 0 0] 22)]) (by repeat first | exact kPn | refine kPc (by repeat first | exact .head | apply Rem.tail) ?_)) (address_reader_item_ct hx23) (.left (Spl.all _)) rfl ⟨hg_maxl, hg_tabs⟩ (Wn.none rfl) ?_
        intro M w H hle
        refine WQ.pAny (e' := [(2, ptr bk2 0), (3, ptr bk3 0)]) ⟨rfl, rfl, trivial⟩ (by kernel_rfl) ?_
        (repeat (first | refine WQ.pThen ?_ | refine WQ.pIn ?_ | refine WQ.pCut ?_ | refine WQ.pSc ?_))
        exact parse_pan (s := p0) (n := n25) H (by repeat first | exact kPn | refine kPc (by repeat first | exact .head | apply Rem.tail) ?_) (hb5.mono hle) rfl rfl (fun M => ⟨_, rfl, SlR.nil⟩)
       ·
        refine WR.callPan (A := [.blk bk13 (.cells #[S o7.1, I o7.2] 72)]) (B := [.blk bk3 (.cells #[I 0, I 0] 27), .blk bk2 (.cells #[Value.slice none 0 0] 22)]) (H.pick (L' := [.blk bk13 (.cells #[S o7.1, I o7.2] 72), .blk bk3 (.cells #[I 0, I 0] 27), .blk bk2 (.cells #[Value.slice none 0 0] 22)]) (by repeat first | exact kPn | refine kPc (by repeat first | exact .head | apply Rem.tail) ?_)) (address_reader_item_ct hx23) (.left (Spl.all _)) rfl ⟨hg_maxl, hg_tabs⟩ (Wn.none rfl) ?_
        intro M w H hle
        refine WQ.pAny (e' := [(2, ptr bk2 0), (3, ptr bk3 0)]) ⟨rfl, rfl, trivial⟩ (by kernel_rfl) ?_
        (repeat (first | refine WQ.pThen ?_ | refine WQ.pIn ?_ | refine WQ.pCut ?_ | refine WQ.pSc ?_))
        exact parse_pan (s := p0) (n := n25) H (by repeat first | exact kPn | refine kPc (by repeat first | exact .head | apply Rem.tail) ?_) (hb5.mono hle) rfl rfl (fun M => ⟨_, rfl, SlR.nil⟩)
     ·
      replace hk18 : n6 = none := of_not_decide' hk18
      rw [if_pos hk18] at e12
      refine SK ?_
      replace H := H.newRowS 34 xrl34.k xrl34.enc
      have hr82 : RelL xrl34 M [] [] := RelL.nil
      exact WQ.meetN [(1, _), (2, _), (3, _)] ⟨rfl, rfl, rfl, trivial⟩ ⟨_, _, _, _, rfl, (H.pick (L' := [.blk bk2 (.cells #[(Value.slice none 0 0)] 22), RowS 34 xrl34.k xrl34.enc (Value.slice none 0 0) ([] : List (List UInt8 × Bool × Hd)), .blk bk3 (.cells #[I 0, I 0] 27)]) (by repeat first | exact kPn | refine kPc (by repeat first | exact .head | apply Rem.tail) ?_)), hg_maxl, hg_tabs, hb5, hr82, e12⟩
    ·
     rintro e w ⟨l14, v15, g16, M, rfl, H, hg_maxl, hg_tabs, hb5, hs17, q83⟩
     obtain rfl := oI q83
     try dsimp only at h
     refine TN (SQ (SQ ?_))
     obtain ⟨⟨n85, n86⟩, hx87, h⟩ := bnd h
     try dsimp only at h
     refine RG (ST (Ex.load1 H rfl (by repeat first | exact kMh | apply kMt) Tryz.isAgg22 (by rfl)) rfl ?_)
     obtain ⟨M, hle, hs84, H⟩ := H.freezeRowS (v := v15) (enc := xrl34.enc) (t := 34) (by repeat first | exact .head | apply Rem.tail) (fun _ => rfl)
     replace hg_maxl := hg_maxl.mono hle
     replace hg_tabs := hg_tabs.mono hle
     replace hs17 := hs17.mono hle
     replace hb5 := hb5.mono hle
     replace hs84 := SlR.of (R := xrl34) hs84 hs17
     refine WR.call H (address_Check_ct hx87) rfl ⟨hg_maxl, hg_tabs, hs84⟩ (Wn.none rfl) rfl ?_
     intro v35 M w H hle hR
     replace hg_maxl := hg_maxl.mono hle
     replace hg_tabs := hg_tabs.mono hle
     replace hs17 := hs17.mono hle
     replace hb5 := hb5.mono hle
     replace hs84 := hs84.mono hle
     try dsimp only at hR
     obtain rfl := hR
     refine WR.alloc [_, _] H Tryz.zeroValue27 rfl (Wn.none rfl) rfl ?_
     intro bk5 w H
     refine WR.store [_, _] H rfl rfl rfl (by repeat first | exact .head | apply Upd.tail) Tryz.sizeOf27 rfl (by rfl) (by rfl) (Wn.none rfl) ?_
     intro w H
     refine NL (TN (SQ ?_))
     obtain ⟨b88, hx89, h⟩ := bnd h
     refine RG (ST (Ex.loadAgg H rfl (by repeat first | exact kMh | apply kMt) Tryz.isAgg27 Tryz.sizeOf27 (by rfl)) rfl ?_)
     refine WR.call H (basic_Failed_ct hx89) rfl trivial (Wn.none rfl) rfl ?_
     intro v37 M w H hle hR
     replace hg_maxl := hg_maxl.mono hle
     replace hg_tabs := hg_tabs.mono hle
     replace hs84 := hs84.mono hle
     replace hb5 := hb5.mono hle
     obtain rfl := hR
     refine NL (TN ?_)
     refine WC.condB rfl (fun hk90 => ?_) (fun hk90 => ?_)
     ·
      subst hk90
      rw [if_pos rfl] at h
      refine SQ ?_
      obtain ⟨⟨n91, n92⟩, hx93, h⟩ := bnd h
      try dsimp only at h
      refine RG (ST (Ex.fieldAddr Tryz.underlying27 rfl Tryz.sizeOf3 (by decide) rfl) rfl (ST (Ex.load1 H rfl (by repeat first | exact kMh | apply kMt) Tryz.isAgg3 (by rfl)) rfl ?_))
      refine WR.call H (basic_Fault_ct hx93) rfl trivial (Wn.none rfl) rfl ?_
      intro v40 M w H hle hR
      replace hg_maxl := hg_maxl.mono hle
      replace hg_tabs := hg_tabs.mono hle
      replace hs84 := hs84.mono hle
      replace hb5 := hb5.mono hle
      try dsimp only at hR
      obtain rfl := hR
      refine WR.putV [_] H rfl rfl (One.slice _ _ _) (by repeat first | exact .head | apply Upd.tail) (by rfl) Tryz.sizeOf22 (by first | decide | (simp; done) | (simp; omega)) (Wn.none rfl) ?_
      intro w H
      refine WR.store [_, _] H rfl rfl rfl (by repeat first | exact .head | apply Upd.tail) Tryz.sizeOf27 rfl (by rfl) (by rfl) (Wn.none rfl) ?_
      intro w H
      refine NL (TN (RT ?_))
      obtain rfl := oI h
      exact WQ.dretD2 rfl ⟨_, rfl, H.load1 (by repeat first | exact kMh | apply kMt) Tryz.isAgg22 (by rfl)⟩ ⟨_, rfl, H.loadAgg (by repeat first | exact kMh | apply kMt) Tryz.isAgg27 Tryz.sizeOf27 (by rfl)⟩ H.ext (fun _ hK => parse_ret hK) (⟨_, rfl, SlR.nil⟩)
     ·
      subst hk90
      rw [if_neg Bool.false_ne_true] at h
      refine SK (TN (SQ ?_))
      obtain ⟨⟨n94, n95⟩, hx96, h⟩ := bnd h
      try dsimp only at h
      refine WC.cutP (fun e w => ∃  (M : Mem), e = [(1, ptr bk1 0), (2, ptr bk2 0), (3, ptr bk3 0)] ∧ St w0 M0 M [.blk bk2 (.cells #[v15] 22), .blk bk3 (.cells #[I n94, I n95] 27)] w ∧ GlF (fun w => ∃ m, w.cell? ⟨2, 0, none⟩ = some (.int .i64 m)) M ∧ Tabs M ∧ PtM M bk1 (.cells #[S p0] 9) ∧ SlR xrl34 M v15 l14) ?_ ?_
      ·
       refine WC.draw (m := 4) rfl rfl H ?_
       intro w H
       refine WA.two (i := 0) (j := 1) (by kernel_rfl) rfl rfl ?_ ?_
       ·
        refine ST (Ex.load1 H rfl (by repeat first | exact kMh | apply kMt) Tryz.isAgg22 (by rfl)) rfl ?_
        refine NA (WA.seq (fuel := 0) [1, 2, 3] rfl (by kernel_rfl) (WR.call H (basic_None_ct hx96) rfl trivial (Wn.none rfl) rfl ?_))
        intro v42 M w H hle hR
        replace hg_maxl := hg_maxl.mono hle
        replace hg_tabs := hg_tabs.mono hle
        replace hs84 := hs84.mono hle
        replace hb5 := hb5.mono hle
        try dsimp only at hR
        obtain rfl := hR
        refine WR.putV [_] H rfl rfl (hs84.one) (by repeat first | exact .head | apply Upd.tail) (by rfl) Tryz.sizeOf22 (by first | decide | (simp; done) | (simp; omega)) (Wn.none rfl) ?_
        intro w H
        refine WR.store [_, _] H rfl rfl rfl (by repeat first | exact .head | apply Upd.tail) Tryz.sizeOf27 rfl (by rfl) (by rfl) (Wn.none rfl) ?_
        intro w H
        refine NA (WA.done (by kernel_rfl) ?_)
        exact WQ.meetP [(1, _), (2, _), (3, _)] ⟨rfl, rfl, rfl, trivial⟩ ⟨_, rfl, (H.pick (L' := [.blk bk2 (.cells #[v15] 22), .blk bk3 (.cells #[I n94, I n95] 27)]) (by repeat first | exact kPn | refine kPc (by repeat first | exact .head | apply Rem.tail) ?_)), hg_maxl, hg_tabs, hb5, hs84⟩
       ·
        refine WR.call H (basic_None_ct hx96) rfl trivial (Wn.none rfl) rfl ?_
        intro v42 M w H hle hR
        replace hg_maxl := hg_maxl.mono hle
        replace hg_tabs := hg_tabs.mono hle
        replace hs84 := hs84.mono hle
        replace hb5 := hb5.mono hle
        try dsimp only at hR
        obtain rfl := hR
        refine NA (WA.seq (fuel := 0) [0, 2, 3] rfl (by kernel_rfl) (ST (Ex.load1 H rfl (by repeat first | exact kMh | apply kMt) Tryz.isAgg22 (by rfl)) rfl ?_))
        refine WR.putV [_] H rfl rfl (hs84.one) (by repeat first | exact .head | apply Upd.tail) (by rfl) Tryz.sizeOf22 (by first | decide | (simp; done) | (simp; omega)) (Wn.none rfl) ?_
        intro w H
        refine WR.store [_, _] H rfl rfl rfl (by repeat first | exact .head | apply Upd.tail) Tryz.sizeOf27 rfl (by rfl) (by rfl) (Wn.none rfl) ?_
        intro w H
        refine NA (WA.done (by kernel_rfl) ?_)
        exact WQ.meetP [(1, _), (2, _), (3, _)] ⟨rfl, rfl, rfl, trivial⟩ ⟨_, rfl, (H.pick (L' := [.blk bk2 (.cells #[v15] 22), .blk bk3 (.cells #[I n94, I n95] 27)]) (by repeat first | exact kPn | refine kPc (by repeat first | exact .head | apply Rem.tail) ?_)), hg_maxl, hg_tabs, hb5, hs84⟩
      ·
       rintro e w ⟨M, rfl, H, hg_maxl, hg_tabs, hb5, hs84⟩
       refine TN (RT ?_)
       obtain rfl := oI h
       exact WQ.dretD2 rfl ⟨_, rfl, H.load1 (by repeat first | exact kMh | apply kMt) Tryz.isAgg22 (by rfl)⟩ ⟨_, rfl, H.loadAgg (by repeat first | exact kMh | apply kMt) Tryz.isAgg27 Tryz.sizeOf27 (by rfl)⟩ H.ext (fun _ hK => parse_ret hK) (⟨_, rfl, hs84⟩)
   ·
    try dsimp only at h
    obtain rfl := oI h
    refine RG (MV rfl rfl ?_)
    refine WR.callPan (A := [.blk bk13 (.cells #[S p0, I 0] 72)]) (B := [.blk bk3 (.cells #[I 0, I 0] 27), .blk bk2 (.cells #[Value.slice none 0 0] 22)]) (H.pick (L' := [.blk bk13 (.cells #[S p0, I 0] 72), .blk bk3 (.cells #[I 0, I 0] 27), .blk bk2 (.cells #[Value.slice none 0 0] 22)]) (by repeat first | exact kPn | refine kPc (by repeat first | exact .head | apply Rem.tail) ?_)) (address_reader_peek_ct hx8) (.left (Spl.all _)) rfl trivial (Wn.none rfl) ?_
    intro M w H hle
    (repeat (first | refine WQ.pThen ?_ | refine WQ.pIn ?_ | refine WQ.pCut ?_ | refine WQ.pSc ?_))
    exact parse_pan (s := p0) (n := n10) H (by repeat first | exact kPn | refine kPc (by repeat first | exact .head | apply Rem.tail) ?_) (hb5.mono hle) rfl rfl (fun M => ⟨_, rfl, SlR.nil⟩)
theorem address_Normal_ct {p0 : (List UInt8 × List UInt8 × List UInt8)} {r : (List UInt8 × (Int × Int))} (h : address_Normal p0 = some r) : Ct Tryz.prog 23 [Value.agg #[S p0.1, S p0.2.1, S p0.2.2]] (fun M => GlF (fun w => ∃ m, w.cell? ⟨2, 0, none⟩ = some (.int .i64 m)) M ∧ Tabs M) (fun v M => v = Value.tuple #[S r.1, Value.agg #[I r.2.1, I r.2.2]]) := by
  refine Ct.of Tryz.func23 (enters Tryz.func23 (by kernel_rfl) rfl) rfl rfl rfl ?_
  intro w0 M0 H hp
  obtain ⟨hg_maxl, hg_tabs⟩ := hp
  unfold address_Normal at h
  refine SQ (RG (WR.box [_, _, _] H rfl rfl (Wn.none rfl) rfl ?_))
  intro bk1 w H
  refine AS rfl rfl (WR.alloc [_, _] H Tryz.zeroValue27 rfl (Wn.none rfl) rfl ?_)
  intro bk3 w H
  refine NL (TN (SQ (SQ ?_)))
  obtain ⟨⟨n1, n2⟩, hx3, h⟩ := bnd h
  try dsimp only at h
  refine RG (ST (Ex.loadAgg H rfl (by repeat first | exact kMh | apply kMt) Tryz.isAgg24 Tryz.sizeOf24 (by rfl)) rfl ?_)
  refine WR.call H (address_Validate_ct hx3) rfl ⟨hg_maxl, hg_tabs⟩ (Wn.none rfl) rfl ?_
  intro v6 M w H hle hR
  replace hg_maxl := hg_maxl.mono hle
  replace hg_tabs := hg_tabs.mono hle
  try dsimp only at hR
  obtain rfl := hR
  refine WR.alloc [_, _] H Tryz.zeroValue27 rfl (Wn.none rfl) rfl ?_
  intro bk4 w H
  refine WR.store [_, _] H rfl rfl rfl (by repeat first | exact .head | apply Upd.tail) Tryz.sizeOf27 rfl (by rfl) (by rfl) (Wn.none rfl) ?_
  intro w H
  refine NL (TN (SQ ?_))
  obtain ⟨b4, hx5, h⟩ := bnd h
  refine RG (ST (Ex.loadAgg H rfl (by repeat first | exact kMh | apply kMt) Tryz.isAgg27 Tryz.sizeOf27 (by rfl)) rfl ?_)
  refine WR.call H (basic_Failed_ct hx5) rfl trivial (Wn.none rfl) rfl ?_
  intro v8 M w H hle hR
  replace hg_maxl := hg_maxl.mono hle
  replace hg_tabs := hg_tabs.mono hle
  obtain rfl := hR
  refine NL (TN ?_)
  refine WC.condB rfl (fun hk6 => ?_) (fun hk6 => ?_)
  ·
   subst hk6
   rw [if_pos rfl] at h
   refine SQ (WC.draw (m := 3) rfl rfl H ?_)
   intro w H
   refine WA.take (i := 1) rfl (by kernel_rfl) (by kernel_rfl) (by kernel_rfl) (fun _ => Ex.assign rfl) (Wn.none rfl) rfl rfl (fun _ _ => rfl) (WA.seq (fuel := 0) [0, 2] rfl (by kernel_rfl) (ST (Ex.loadAgg H rfl (by repeat first | exact kMh | apply kMt) Tryz.isAgg27 Tryz.sizeOf27 (by rfl)) rfl ?_))
   refine WR.store [_, _] H rfl rfl rfl (by repeat first | exact .head | apply Upd.tail) Tryz.sizeOf27 rfl (by rfl) (by rfl) (Wn.none rfl) ?_
   intro w H
   refine NA (WA.done (by kernel_rfl) (TN (RT ?_)))
   obtain rfl := oI h
   exact WQ.ret2 rfl rfl ⟨_, rfl, H.loadAgg (by repeat first | exact kMh | apply kMt) Tryz.isAgg27 Tryz.sizeOf27 (by rfl)⟩ H.ext rfl
  ·
   subst hk6
   rw [if_neg Bool.false_ne_true] at h
   refine SK (TN (SQ ?_))
   obtain ⟨s7, hx8, h⟩ := bnd h
   refine RG (ST (Ex.fieldAddr Tryz.underlying24 rfl Tryz.sizeOf9 (by decide) rfl) rfl (ST (Ex.load1 H rfl (by repeat first | exact kMh | apply kMt) Tryz.isAgg9 (by rfl)) rfl ?_))
   refine WR.call H (basic_Lower_ct hx8) rfl trivial (Wn.none rfl) rfl ?_
   intro v12 M w H hle hR
   replace hg_maxl := hg_maxl.mono hle
   replace hg_tabs := hg_tabs.mono hle
   obtain rfl := hR
   refine ST (Ex.fieldAddr Tryz.underlying24 rfl Tryz.sizeOf9 (by decide) rfl) rfl (WR.store1 [_, _, _] H rfl rfl (by repeat first | exact .head | apply Upd.tail) (by rfl) Tryz.sizeOf9 (by first | decide | (simp; done) | (simp; omega)) (by rfl) (by rfl) (Wn.none rfl) ?_)
   intro w H
   refine NL (TN (SQ ?_))
   obtain ⟨s9, hx10, h⟩ := bnd h
   obtain ⟨⟨n11, n12⟩, hx13, h⟩ := bnd h
   try dsimp only at h
   refine RG (ST (Ex.loadAgg H rfl (by repeat first | exact kMh | apply kMt) Tryz.isAgg24 Tryz.sizeOf24 (by rfl)) rfl ?_)
   refine WR.call H (address_specification_ct hx10) rfl ⟨hg_maxl, hg_tabs⟩ (Wn.none rfl) rfl ?_
   intro v15 M w H hle hR
   replace hg_maxl := hg_maxl.mono hle
   replace hg_tabs := hg_tabs.mono hle
   obtain rfl := hR
   refine WR.call H (basic_None_ct hx13) rfl trivial (Wn.none rfl) rfl ?_
   intro v16 M w H hle hR
   replace hg_maxl := hg_maxl.mono hle
   replace hg_tabs := hg_tabs.mono hle
   try dsimp only at hR
   obtain rfl := hR
   refine AS rfl rfl (WR.store [_, _] H rfl rfl rfl (by repeat first | exact .head | apply Upd.tail) Tryz.sizeOf27 rfl (by rfl) (by rfl) (Wn.none rfl) ?_)
   intro w H
   refine NL (TN (RT ?_))
   obtain rfl := oI h
   exact WQ.ret2 rfl rfl ⟨_, rfl, H.loadAgg (by repeat first | exact kMh | apply kMt) Tryz.isAgg27 Tryz.sizeOf27 (by rfl)⟩ H.ext rfl
end Go.Proofs.YtkmjdamkifbddaaGreatDoor
end
section
namespace Go.Proofs.YtkmjdamkifbddaaGreatDoor
open Go Go.RowKit Go.Ph Go.Ph.Pl Go.Ph.Pf
theorem address_All_ct {p0 : List (List UInt8 × Bool × List (List UInt8 × List UInt8 × List UInt8))} {vp0 : Value} {r : (List (List UInt8 × List UInt8 × List UInt8) × (Int × Int))} (h : address_All p0 = some r) : Ct Tryz.prog 14 [vp0] (fun M => GlF (fun w => ∃ m, w.cell? ⟨2, 0, none⟩ = some (.int .i64 m)) M ∧ Tabs M ∧ SlR xrl34 M vp0 p0) (fun v M => ∃ x0, v = Value.tuple #[x0, Value.agg #[I r.2.1, I r.2.2]] ∧ SlS M 3 xenc24 x0 r.1) := by
  refine Ct.of Tryz.func14 (enters Tryz.func14 (by kernel_rfl) rfl) rfl rfl rfl ?_
  intro w0 M0 H hp
  obtain ⟨hg_maxl, hg_tabs, hp0⟩ := hp
  unfold address_All at h
  refine SQ (RG (AS rfl rfl (WR.alloc [_, _] H Tryz.zeroValue27 rfl (Wn.none rfl) rfl ?_)))
  intro bk3 w H
  refine NL (TN (SQ (SQ ?_)))
  obtain ⟨⟨n1, n2⟩, hx3, h⟩ := bnd h
  try dsimp only at h
  refine RG (MV rfl rfl (WR.call H (address_Check_ct hx3) rfl ⟨hg_maxl, hg_tabs, hp0⟩ (Wn.none rfl) rfl ?_))
  intro v9 M w H hle hR
  replace hg_maxl := hg_maxl.mono hle
  replace hg_tabs := hg_tabs.mono hle
  replace hp0 := hp0.mono hle
  try dsimp only at hR
  obtain rfl := hR
  refine WR.alloc [_, _] H Tryz.zeroValue27 rfl (Wn.none rfl) rfl ?_
  intro bk4 w H
  refine WR.store [_, _] H rfl rfl rfl (by repeat first | exact .head | apply Upd.tail) Tryz.sizeOf27 rfl (by rfl) (by rfl) (Wn.none rfl) ?_
  intro w H
  refine NL (TN (SQ ?_))
  obtain ⟨b4, hx5, h⟩ := bnd h
  refine RG (ST (Ex.loadAgg H rfl (by repeat first | exact kMh | apply kMt) Tryz.isAgg27 Tryz.sizeOf27 (by rfl)) rfl ?_)
  refine WR.call H (basic_Failed_ct hx5) rfl trivial (Wn.none rfl) rfl ?_
  intro v11 M w H hle hR
  replace hg_maxl := hg_maxl.mono hle
  replace hg_tabs := hg_tabs.mono hle
  replace hp0 := hp0.mono hle
  obtain rfl := hR
  refine NL (TN ?_)
  refine WC.condB rfl (fun hk6 => ?_) (fun hk6 => ?_)
  ·
   subst hk6
   rw [if_pos rfl] at h
   refine SQ (WC.draw (m := 3) rfl rfl H ?_)
   intro w H
   refine WA.take (i := 1) rfl (by kernel_rfl) (by kernel_rfl) (by kernel_rfl) (fun _ => Ex.assign rfl) (Wn.none rfl) rfl rfl (fun _ _ => rfl) (WA.seq (fuel := 0) [0, 2] rfl (by kernel_rfl) (ST (Ex.loadAgg H rfl (by repeat first | exact kMh | apply kMt) Tryz.isAgg27 Tryz.sizeOf27 (by rfl)) rfl ?_))
   refine WR.store [_, _] H rfl rfl rfl (by repeat first | exact .head | apply Upd.tail) Tryz.sizeOf27 rfl (by rfl) (by rfl) (Wn.none rfl) ?_
   intro w H
   refine NA (WA.done (by kernel_rfl) (TN (RT ?_)))
   obtain rfl := oI h
   exact WQ.ret2 rfl rfl ⟨_, rfl, H.loadAgg (by repeat first | exact kMh | apply kMt) Tryz.isAgg27 Tryz.sizeOf27 (by rfl)⟩ H.ext (⟨_, rfl, (SlS.nil _ _ (fun _ => rfl))⟩)
  ·
   subst hk6
   rw [if_neg Bool.false_ne_true] at h
   refine SK (TN (SQ (RG (AS rfl rfl (NL (TN (SQ (SQ (RG (MV rfl rfl (ST (Ex.lenSlR Tryz.underlying22 hp0 rfl) rfl (MV rfl rfl (NL (TN ?_))))))))))))))
   obtain ⟨o7, e8, h⟩ := bnd h
   refine WC.cutX (fun e w => ∃ (l10 : List (List UInt8 × List UInt8 × List UInt8)) (v11 : Value) (M : Mem), e = [(3, ptr bk3 0), (5, v11)] ∧ St w0 M0 M [.blk bk3 (.cells #[I 0, I 0] 27), RowS 24 3 xenc24 v11 l10] w ∧ GlF (fun w => ∃ m, w.cell? ⟨2, 0, none⟩ = some (.int .i64 m)) M ∧ Tabs M ∧ some l10 = some o7) [] ?_ ?_ (trivial)
   ·
    refine BL ?_
    replace H := H.newRowS 24 3 xenc24
    refine WC.loopP (fun m e w => ∃ (l13 : List (List UInt8 × List UInt8 × List UInt8)) (v14 : Value) (n15 : Int) (M : Mem), e = [(3, ptr bk3 0), (5, v14), (13, vp0), (14, I (p0.length : Int)), (15, I n15)] ∧ St w0 M0 M [.blk bk3 (.cells #[I 0, I 0] 27), RowS 24 3 xenc24 v14 l13] w ∧ GlF (fun w => ∃ m, w.cell? ⟨2, 0, none⟩ = some (.int .i64 m)) M ∧ Tabs M ∧ SlR xrl34 M vp0 p0 ∧ address_All_L1 p0 m l13 n15 = some o7) FU [(3, _), (5, _), (13, _), (14, _), (15, _)] ⟨rfl, rfl, rfl, rfl, rfl, trivial⟩ ⟨_, _, _, _, rfl, (H.pick (L' := [.blk bk3 (.cells #[I 0, I 0] 27), RowS 24 3 xenc24 (Value.slice none 0 0) []]) (by repeat first | exact kPn | refine kPc (by repeat first | exact .head | apply Rem.tail) ?_)), hg_maxl, hg_tabs, hp0, e8⟩ ?_
    rintro m16 e w ⟨l13, v14, n15, M, rfl, H, hg_maxl, hg_tabs, hp0, e8⟩
    rcases m16 with _ | m16
    · rw [address_All_L1] at e8; cases e8
    rw [address_All_L1] at e8
    refine SQ (RG (ST (Ex.lss rfl rfl) rfl (NL (TN (SQ ?_)))))
    refine WC.condB rfl (fun hk18 => ?_) (fun hk18 => ?_)
    ·
     replace hk18 : n15 < (p0.length : Int) := of_decide_eq_true hk18
     rw [if_pos hk18] at e8
     refine SK (TN (SQ (BL (SQ ?_))))
     obtain ⟨a19, hxa19, e8⟩ := bnd e8
     obtain ⟨bk17, o17, fq17, ha17, hc17, hr17⟩ := hp0.atC hxa19
     obtain ⟨f17_0, f17_1, q17_2⟩ := fq17
     replace hr17 : f17_0 = a19.1 ∧ f17_1 = a19.2.1 ∧ SlS M 3 xenc24 (hv q17_2) a19.2.2 := hr17
     obtain ⟨rfl, rfl, hs17_2⟩ := hr17
     refine RG (ST (Ex.idxAt ha17 Tryz.underlying22 Tryz.sizeOf34 rfl rfl) rfl (ST (Ex.loadAggM H rfl hc17 Tryz.isAgg34 Tryz.sizeOf34 (by rfl)) rfl ?_))
     refine WR.alloc [_, _, _] H Tryz.zeroValue34 rfl (Wn.none rfl) rfl ?_
     intro bk7 w H
     refine WR.store [_, _, _] H rfl rfl rfl (by repeat first | exact .head | apply Upd.tail) Tryz.sizeOf34 rfl (by rfl) (by simp only [List.all_cons, List.all_nil, (hs17_2).one.2]; rfl) (Wn.none rfl) ?_
     intro w H
     refine NL (TN ?_)
     obtain ⟨l20, hx21, e8⟩ := bnd e8
     obtain ⟨l22, hxl22, e8⟩ := bnd e8
     refine RG (MV rfl rfl (ST (Ex.fieldAddr Tryz.underlying34 rfl Tryz.sizeOf30 (by decide) rfl) rfl (ST (Ex.load1 H rfl (by repeat first | exact kMh | apply kMt) Tryz.isAgg30 (by rfl)) rfl ?_)))
     refine WR.call H (slices_Clone_Address_ct hx21) rfl (hs17_2) (Wn.none rfl) rfl ?_
     intro v22 M w H hle hR
     replace hg_maxl := hg_maxl.mono hle
     replace hg_tabs := hg_tabs.mono hle
     replace hp0 := hp0.mono hle
     replace hc17 := hc17.mono hle
     replace hs17_2 := hs17_2.mono hle
     have f22_0 := hR
     refine WR.appSC (l := l13) xty30 rfl xone24 H rfl (fun _ => by repeat first | exact .head | apply Upd.tail) rfl (f22_0) hxl22 (Wn.none rfl) rfl ?_
     intro v23 w H
     refine AS rfl rfl (NL (IB (TN ?_)))
     obtain ⟨n23, hxn23, e8⟩ := bnd e8
     refine RG (ST (Ex.addC rfl rfl hxn23) rfl (MV rfl rfl (NL ?_)))
     exact WQ.againP m16 [(3, _), (5, _), (13, _), (14, _), (15, _)] ⟨rfl, rfl, rfl, rfl, rfl, trivial⟩ ⟨_, _, _, _, rfl, (H.pick (L' := [.blk bk3 (.cells #[I 0, I 0] 27), RowS 24 3 xenc24 v23 l22]) (by repeat first | exact kPn | refine kPc (by repeat first | exact .head | apply Rem.tail) ?_)), hg_maxl, hg_tabs, hp0, e8⟩ (Nat.lt_succ_self _)
    ·
     replace hk18 : ¬ (n15 < (p0.length : Int)) := of_decide_eq_false hk18
     rw [if_neg hk18] at e8
     refine WC.exit (WQ.thenExit (WQ.thenExit (WQ.exitHere ?_)))
     exact WQ.meetN [(3, _), (5, _)] ⟨rfl, rfl, trivial⟩ ⟨_, _, _, rfl, H, hg_maxl, hg_tabs, e8⟩
   ·
    rintro e w ⟨l10, v11, M, rfl, H, hg_maxl, hg_tabs, q24⟩
    obtain rfl := oI q24
    refine TN (SQ ?_)
    obtain ⟨⟨n25, n26⟩, hx27, h⟩ := bnd h
    try dsimp only at h
    refine RG (MV rfl rfl (WR.call H (basic_None_ct hx27) rfl trivial (Wn.none rfl) rfl ?_))
    intro v26 M w H hle hR
    replace hg_maxl := hg_maxl.mono hle
    replace hg_tabs := hg_tabs.mono hle
    try dsimp only at hR
    obtain rfl := hR
    refine AS rfl rfl (WR.store [_, _] H rfl rfl rfl (by repeat first | exact .head | apply Upd.tail) Tryz.sizeOf27 rfl (by rfl) (by rfl) (Wn.none rfl) ?_)
    intro w H
    refine NL (TN (RT ?_))
    obtain ⟨M, hle, hs28, H⟩ := H.freezeRowS (v := v11) (enc := xenc24) (t := 24) (by repeat first | exact .head | apply Rem.tail) (fun _ => rfl)
    replace hg_maxl := hg_maxl.mono hle
    replace hg_tabs := hg_tabs.mono hle
    obtain rfl := oI h
    exact WQ.ret2 rfl rfl ⟨_, rfl, H.loadAgg (by repeat first | exact kMh | apply kMt) Tryz.isAgg27 Tryz.sizeOf27 (by rfl)⟩ H.ext (⟨_, rfl, hs28⟩)
set_option maxHeartbeats 4000000 in
theorem L_addressExample_ct  {r : Bool} (h : L_addressExample = some r) : Ct Tryz.prog 9 [] (fun M => GlF (fun w => ∃ m, w.cell? ⟨2, 0, none⟩ = some (.int .i64 m)) M ∧ Tabs M) (fun v M => v = Value.bool r) := by
  refine Ct.of Tryz.func9 (enters Tryz.func9 (by kernel_rfl) rfl) rfl rfl rfl ?_
  intro w0 M0 H hp
  obtain ⟨hg_maxl, hg_tabs⟩ := hp
  unfold L_addressExample at h
  refine SQ (RG (AS rfl rfl (NL (TN (SQ ?_)))))
  obtain ⟨⟨s2, ⟨n3, n4⟩⟩, hx5, h⟩ := bnd h
  try dsimp only at h
  refine RG (ST (Ex.build [S [65, 46, 32, 66], S [97], S [120]] Tryz.underlying24 Tryz.zeroValue24 (xplaces24 Tryz.underlying24) rfl rfl) rfl (WR.litS (enc := xenc24) xty30 ([([65, 46, 32, 66], [97], [120])] : List (List UInt8 × List UInt8 × List UInt8)) H (fun _ => rfl) rfl (by kernel_rfl) rfl rfl rfl (Wn.none rfl) rfl ?_))
  intro v11 M w H hle hs11
  replace hg_maxl := hg_maxl.mono hle
  replace hg_tabs := hg_tabs.mono hle
  refine ST (Ex.build [S [], Value.bool false, v11] Tryz.underlying34 Tryz.zeroValue34 (xplaces34 Tryz.underlying34) rfl (by obtain ⟨_, _, _, hv, -⟩ := hs11; rw [hv]; clear hv; rfl)) rfl ?_
  obtain ⟨q1, rfl⟩ := hs11.hd
  refine WR.litS (enc := xrl34.enc) xty22 ([([], false, q1)] : List (List UInt8 × Bool × Hd)) H (fun _ => rfl) rfl (by kernel_rfl) rfl rfl rfl (Wn.none rfl) rfl ?_
  intro v13 M w H hle hs13
  replace hg_maxl := hg_maxl.mono hle
  replace hg_tabs := hg_tabs.mono hle
  replace hs11 := hs11.mono hle
  replace hs13 := SlR.of (R := xrl34) (l := ([([], false, ([([65, 46, 32, 66], [97], [120])] : List (List UInt8 × List UInt8 × List UInt8)))] : List (List UInt8 × Bool × List (List UInt8 × List UInt8 × List UInt8)))) hs13 ⟨⟨rfl, rfl, hs11⟩, trivial⟩
  refine WR.call H (address_Print_ct hx5) rfl ⟨hg_maxl, hg_tabs, hs13⟩ (Wn.none rfl) rfl ?_
  intro v14 M w H hle hR
  replace hg_maxl := hg_maxl.mono hle
  replace hg_tabs := hg_tabs.mono hle
  replace hs11 := hs11.mono hle
  replace hs13 := hs13.mono hle
  try dsimp only at hR
  obtain rfl := hR
  refine MV rfl rfl (ST (Ex.extract rfl rfl) rfl (ST (Ex.extract rfl rfl) rfl (WR.alloc [_, _] H Tryz.zeroValue27 rfl (Wn.none rfl) rfl ?_)))
  intro bk2 w H
  refine AS rfl rfl (WR.store [_, _] H rfl rfl rfl (by repeat first | exact .head | apply Upd.tail) Tryz.sizeOf27 rfl (by rfl) (by rfl) (Wn.none rfl) ?_)
  intro w H
  refine NL (TN (SQ ?_))
  obtain ⟨⟨l6, ⟨n7, n8⟩⟩, hx9, h⟩ := bnd h
  try dsimp only at h
  refine RG (WR.call H (address_Parse_ct hx9) rfl ⟨hg_maxl, hg_tabs⟩ (Wn.none rfl) rfl ?_)
  intro v18 M w H hle hR
  replace hg_maxl := hg_maxl.mono hle
  replace hg_tabs := hg_tabs.mono hle
  replace hs11 := hs11.mono hle
  replace hs13 := hs13.mono hle
  try dsimp only at hR
  obtain ⟨x18_0, rfl, f18_0⟩ := hR
  refine MV rfl rfl (ST (Ex.extract rfl rfl) rfl (ST (Ex.extract rfl rfl) rfl (WR.alloc [_, _] H Tryz.zeroValue27 rfl (Wn.none rfl) rfl ?_)))
  intro bk4 w H
  refine AS rfl rfl (WR.store [_, _] H rfl rfl rfl (by repeat first | exact .head | apply Upd.tail) Tryz.sizeOf27 rfl (by rfl) (by rfl) (Wn.none rfl) ?_)
  intro w H
  refine NL (TN (SQ ?_))
  obtain ⟨⟨s10, ⟨n11, n12⟩⟩, hx13, h⟩ := bnd h
  try dsimp only at h
  refine RG (ST (Ex.build [S [], S [65], S [88, 46, 69, 120, 97, 109, 112, 108, 101]] Tryz.underlying24 Tryz.zeroValue24 (xplaces24 Tryz.underlying24) rfl rfl) rfl (WR.call H (address_Normal_ct hx13) rfl ⟨hg_maxl, hg_tabs⟩ (Wn.none rfl) rfl ?_))
  intro v23 M w H hle hR
  replace hg_maxl := hg_maxl.mono hle
  replace hg_tabs := hg_tabs.mono hle
  replace hs11 := hs11.mono hle
  replace hs13 := hs13.mono hle
  replace f18_0 := f18_0.mono hle
  try dsimp only at hR
  obtain rfl := hR
  refine MV rfl rfl (ST (Ex.extract rfl rfl) rfl (ST (Ex.extract rfl rfl) rfl (WR.alloc [_, _] H Tryz.zeroValue27 rfl (Wn.none rfl) rfl ?_)))
  intro bk6 w H
  refine AS rfl rfl (WR.store [_, _] H rfl rfl rfl (by repeat first | exact .head | apply Upd.tail) Tryz.sizeOf27 rfl (by rfl) (by rfl) (Wn.none rfl) ?_)
  intro w H
  refine NL (TN (SQ ?_))
  obtain ⟨⟨l14, ⟨n15, n16⟩⟩, hx17, h⟩ := bnd h
  try dsimp only at h
  refine RG (MV rfl rfl (WR.call H (address_All_ct hx17) rfl ⟨hg_maxl, hg_tabs, f18_0⟩ (Wn.none rfl) rfl ?_))
  intro v28 M w H hle hR
  replace hg_maxl := hg_maxl.mono hle
  replace hg_tabs := hg_tabs.mono hle
  replace hs11 := hs11.mono hle
  replace hs13 := hs13.mono hle
  replace f18_0 := f18_0.mono hle
  try dsimp only at hR
  obtain ⟨x28_0, rfl, f28_0⟩ := hR
  refine MV rfl rfl (ST (Ex.extract rfl rfl) rfl (ST (Ex.extract rfl rfl) rfl (WR.alloc [_, _] H Tryz.zeroValue27 rfl (Wn.none rfl) rfl ?_)))
  intro bk8 w H
  refine AS rfl rfl (WR.store [_, _] H rfl rfl rfl (by repeat first | exact .head | apply Upd.tail) Tryz.sizeOf27 rfl (by rfl) (by rfl) (Wn.none rfl) ?_)
  intro w H
  refine NL (TN (SQ ?_))
  obtain ⟨o18, e19, h⟩ := bnd h
  refine WC.cutX (fun e w => ∃ (b20 : Bool) (M : Mem), e = [(0, Value.bool b20)] ∧ St w0 M0 M [] w ∧ GlF (fun w => ∃ m, w.cell? ⟨2, 0, none⟩ = some (.int .i64 m)) M ∧ Tabs M ∧ some b20 = some o18) [] ?_ ?_ (trivial)
  ·
   refine RG (ST (Ex.fieldAddr Tryz.underlying27 rfl Tryz.sizeOf3 (by decide) rfl) rfl (ST (Ex.load1 H rfl (by repeat first | exact kMh | apply kMt) Tryz.isAgg3 (by rfl)) rfl ?_))
   by_cases hk21 : n3 = (0 : Int)
   ·
    rw [if_pos hk21] at e19
    by_cases hk22 : n7 = (0 : Int)
    ·
     rw [if_pos hk22] at e19
     by_cases hk23 : n11 = (0 : Int)
     ·
      rw [if_pos hk23] at e19
      by_cases hk24 : n15 = (0 : Int)
      ·
       rw [if_pos hk24] at e19
       by_cases hk25 : s2 = [34, 65, 46, 32, 66, 34, 32, 60, 97, 64, 120, 62]
       ·
        rw [if_pos hk25] at e19
        by_cases hk26 : (l6.length : Int) = (1 : Int)
        ·
         rw [if_pos hk26] at e19
         obtain ⟨a27, hxa27, e19⟩ := bnd e19
         obtain ⟨bk60, o60, fq60, ha60, hc60, hr60⟩ := f18_0.atC hxa27
         obtain ⟨f60_0, f60_1, q60_2⟩ := fq60
         replace hr60 : f60_0 = a27.1 ∧ f60_1 = a27.2.1 ∧ SlS M 3 xenc24 (hv q60_2) a27.2.2 := hr60
         obtain ⟨rfl, rfl, hs60_2⟩ := hr60
         by_cases hk28 : a27.2.1 = true
         ·
          rw [if_pos hk28] at e19
          obtain ⟨a29, hxa29, e19⟩ := bnd e19
          obtain ⟨bk66, o66, fq66, ha66, hc66, hr66⟩ := f18_0.atC hxa29
          obtain ⟨f66_0, f66_1, q66_2⟩ := fq66
          replace hr66 : f66_0 = a29.1 ∧ f66_1 = a29.2.1 ∧ SlS M 3 xenc24 (hv q66_2) a29.2.2 := hr66
          obtain ⟨rfl, rfl, hs66_2⟩ := hr66
          by_cases hk30 : a29.1 = [103]
          ·
           rw [if_pos hk30] at e19
           by_cases hk31 : s10 = [65, 64, 120, 46, 101, 120, 97, 109, 112, 108, 101]
           ·
            rw [if_pos hk31] at e19
            by_cases hk32 : (l14.length : Int) = (2 : Int)
            ·
             rw [if_pos hk32] at e19
             obtain ⟨a33, hxa33, e19⟩ := bnd e19
             obtain ⟨bk82, o82, ha82, hc82⟩ := f28_0.atC hxa33
             refine WR.stepE (v' := .bool true) (Ex.eql rfl rfl) (congrArg Value.bool (decide_eq_true hk21)) (Wn.none rfl) rfl rfl (MV rfl rfl (SG (Ex.fieldAddr Tryz.underlying27 rfl Tryz.sizeOf3 (by decide) rfl) rfl rfl rfl (SG (Ex.load1 H rfl (by repeat first | exact kMh | apply kMt) Tryz.isAgg3 (by rfl)) rfl rfl rfl ?_)))
             refine WR.stepE (v' := .bool true) (Ex.eql rfl rfl) (congrArg Value.bool (decide_eq_true hk22)) (Wn.some rfl rfl rfl) rfl rfl (PT rfl rfl rfl (MV rfl rfl (SG (Ex.fieldAddr Tryz.underlying27 rfl Tryz.sizeOf3 (by decide) rfl) rfl rfl rfl (SG (Ex.load1 H rfl (by repeat first | exact kMh | apply kMt) Tryz.isAgg3 (by rfl)) rfl rfl rfl ?_))))
             refine WR.stepE (v' := .bool true) (Ex.eql rfl rfl) (congrArg Value.bool (decide_eq_true hk23)) (Wn.some rfl rfl rfl) rfl rfl (PT rfl rfl rfl (MV rfl rfl (SG (Ex.fieldAddr Tryz.underlying27 rfl Tryz.sizeOf3 (by decide) rfl) rfl rfl rfl (SG (Ex.load1 H rfl (by repeat first | exact kMh | apply kMt) Tryz.isAgg3 (by rfl)) rfl rfl rfl ?_))))
             refine WR.stepE (v' := .bool true) (Ex.eql rfl rfl) (congrArg Value.bool (decide_eq_true hk24)) (Wn.some rfl rfl rfl) rfl rfl (PT rfl rfl rfl (MV rfl rfl (SG (Ex.move rfl) rfl rfl rfl (WR.stepE (v' := .bool true) (Ex.strEql rfl rfl) (congrArg Value.bool (decide_eq_true hk25)) (Wn.some rfl rfl rfl) rfl rfl (PT rfl rfl rfl (MV rfl rfl (SG (Ex.move rfl) rfl rfl rfl (SG (Ex.lenSlR Tryz.underlying22 f18_0 rfl) rfl rfl rfl (WR.stepE (v' := .bool true) (Ex.eql rfl rfl) (congrArg Value.bool (decide_eq_true hk26)) (Wn.some rfl rfl rfl) rfl rfl (PT rfl rfl rfl (MV rfl rfl (SG (Ex.move rfl) rfl rfl rfl (SG (Ex.idxAt ha60 Tryz.underlying22 Tryz.sizeOf34 rfl rfl) rfl rfl rfl (SG (Ex.fieldAddr Tryz.underlying34 rfl Tryz.sizeOf4 (by decide) rfl) rfl rfl rfl (WR.stepE (v' := .bool true) (Ex.loadM H rfl (hc60.at (j := 1) rfl) Tryz.isAgg4) (congrArg Value.bool hk28) (Wn.some rfl rfl rfl) rfl rfl (PT rfl rfl rfl ?_))))))))))))))))
             refine MV rfl rfl (SG (Ex.move rfl) rfl rfl rfl (SG (Ex.idxAt ha66 Tryz.underlying22 Tryz.sizeOf34 rfl rfl) rfl rfl rfl (SG (Ex.fieldAddr Tryz.underlying34 rfl Tryz.sizeOf9 (by decide) rfl) rfl rfl rfl (SG (Ex.loadM H rfl (hc66.at (j := 0) rfl) Tryz.isAgg9) rfl rfl rfl (WR.stepE (v' := .bool true) (Ex.strEql rfl rfl) (congrArg Value.bool (decide_eq_true hk30)) (Wn.some rfl rfl rfl) rfl rfl (PT rfl rfl rfl (MV rfl rfl (SG (Ex.move rfl) rfl rfl rfl (WR.stepE (v' := .bool true) (Ex.strEql rfl rfl) (congrArg Value.bool (decide_eq_true hk31)) (Wn.some rfl rfl rfl) rfl rfl (PT rfl rfl rfl (MV rfl rfl (SG (Ex.move rfl) rfl rfl rfl (SG (Ex.lenSlS Tryz.underlying30 f28_0 rfl) rfl rfl rfl (WR.stepE (v' := .bool true) (Ex.eql rfl rfl) (congrArg Value.bool (decide_eq_true hk32)) (Wn.some rfl rfl rfl) rfl rfl (PT rfl rfl rfl (MV rfl rfl (SG (Ex.move rfl) rfl rfl rfl (SG (Ex.idxAt ha82 Tryz.underlying30 Tryz.sizeOf24 rfl rfl) rfl rfl rfl ?_))))))))))))))))))
             refine SG (Ex.fieldAddr Tryz.underlying24 rfl Tryz.sizeOf9 (by decide) rfl) rfl rfl rfl (SG (Ex.loadM H rfl (hc82.at (j := 1) rfl) Tryz.isAgg9) rfl rfl rfl (SG (Ex.strEql rfl rfl) rfl rfl rfl (PT rfl rfl rfl (AS rfl rfl (NL ?_)))))
             exact WQ.meetN [(0, _)] ⟨rfl, trivial⟩ ⟨_, _, rfl, (H.pick (L' := []) (by repeat first | exact kPn | refine kPc (by repeat first | exact .head | apply Rem.tail) ?_)), hg_maxl, hg_tabs, e19⟩
            ·
             rw [if_neg hk32] at e19
             refine WR.stepE (v' := .bool true) (Ex.eql rfl rfl) (congrArg Value.bool (decide_eq_true hk21)) (Wn.none rfl) rfl rfl (MV rfl rfl (SG (Ex.fieldAddr Tryz.underlying27 rfl Tryz.sizeOf3 (by decide) rfl) rfl rfl rfl (SG (Ex.load1 H rfl (by repeat first | exact kMh | apply kMt) Tryz.isAgg3 (by rfl)) rfl rfl rfl ?_)))
             refine WR.stepE (v' := .bool true) (Ex.eql rfl rfl) (congrArg Value.bool (decide_eq_true hk22)) (Wn.some rfl rfl rfl) rfl rfl (PT rfl rfl rfl (MV rfl rfl (SG (Ex.fieldAddr Tryz.underlying27 rfl Tryz.sizeOf3 (by decide) rfl) rfl rfl rfl (SG (Ex.load1 H rfl (by repeat first | exact kMh | apply kMt) Tryz.isAgg3 (by rfl)) rfl rfl rfl ?_))))
             refine WR.stepE (v' := .bool true) (Ex.eql rfl rfl) (congrArg Value.bool (decide_eq_true hk23)) (Wn.some rfl rfl rfl) rfl rfl (PT rfl rfl rfl (MV rfl rfl (SG (Ex.fieldAddr Tryz.underlying27 rfl Tryz.sizeOf3 (by decide) rfl) rfl rfl rfl (SG (Ex.load1 H rfl (by repeat first | exact kMh | apply kMt) Tryz.isAgg3 (by rfl)) rfl rfl rfl ?_))))
             refine WR.stepE (v' := .bool true) (Ex.eql rfl rfl) (congrArg Value.bool (decide_eq_true hk24)) (Wn.some rfl rfl rfl) rfl rfl (PT rfl rfl rfl (MV rfl rfl (SG (Ex.move rfl) rfl rfl rfl (WR.stepE (v' := .bool true) (Ex.strEql rfl rfl) (congrArg Value.bool (decide_eq_true hk25)) (Wn.some rfl rfl rfl) rfl rfl (PT rfl rfl rfl (MV rfl rfl (SG (Ex.move rfl) rfl rfl rfl (SG (Ex.lenSlR Tryz.underlying22 f18_0 rfl) rfl rfl rfl (WR.stepE (v' := .bool true) (Ex.eql rfl rfl) (congrArg Value.bool (decide_eq_true hk26)) (Wn.some rfl rfl rfl) rfl rfl (PT rfl rfl rfl (MV rfl rfl (SG (Ex.move rfl) rfl rfl rfl (SG (Ex.idxAt ha60 Tryz.underlying22 Tryz.sizeOf34 rfl rfl) rfl rfl rfl (SG (Ex.fieldAddr Tryz.underlying34 rfl Tryz.sizeOf4 (by decide) rfl) rfl rfl rfl (WR.stepE (v' := .bool true) (Ex.loadM H rfl (hc60.at (j := 1) rfl) Tryz.isAgg4) (congrArg Value.bool hk28) (Wn.some rfl rfl rfl) rfl rfl (PT rfl rfl rfl ?_))))))))))))))))
             refine MV rfl rfl (SG (Ex.move rfl) rfl rfl rfl (SG (Ex.idxAt ha66 Tryz.underlying22 Tryz.sizeOf34 rfl rfl) rfl rfl rfl (SG (Ex.fieldAddr Tryz.underlying34 rfl Tryz.sizeOf9 (by decide) rfl) rfl rfl rfl (SG (Ex.loadM H rfl (hc66.at (j := 0) rfl) Tryz.isAgg9) rfl rfl rfl (WR.stepE (v' := .bool true) (Ex.strEql rfl rfl) (congrArg Value.bool (decide_eq_true hk30)) (Wn.some rfl rfl rfl) rfl rfl (PT rfl rfl rfl (MV rfl rfl (SG (Ex.move rfl) rfl rfl rfl (WR.stepE (v' := .bool true) (Ex.strEql rfl rfl) (congrArg Value.bool (decide_eq_true hk31)) (Wn.some rfl rfl rfl) rfl rfl (PT rfl rfl rfl (MV rfl rfl (SG (Ex.move rfl) rfl rfl rfl (SG (Ex.lenSlS Tryz.underlying30 f28_0 rfl) rfl rfl rfl (WR.stepE (v' := .bool false) (Ex.eql rfl rfl) (congrArg Value.bool (decide_eq_false hk32)) (Wn.some rfl rfl rfl) rfl rfl (PT rfl rfl rfl (MV rfl rfl (WR.skipN 5 rfl rfl (PF rfl rfl rfl (AS rfl rfl (NL ?_))))))))))))))))))))
             exact WQ.meetN [(0, _)] ⟨rfl, trivial⟩ ⟨_, _, rfl, (H.pick (L' := []) (by repeat first | exact kPn | refine kPc (by repeat first | exact .head | apply Rem.tail) ?_)), hg_maxl, hg_tabs, e19⟩
           ·
            rw [if_neg hk31] at e19
            refine WR.stepE (v' := .bool true) (Ex.eql rfl rfl) (congrArg Value.bool (decide_eq_true hk21)) (Wn.none rfl) rfl rfl (MV rfl rfl (SG (Ex.fieldAddr Tryz.underlying27 rfl Tryz.sizeOf3 (by decide) rfl) rfl rfl rfl (SG (Ex.load1 H rfl (by repeat first | exact kMh | apply kMt) Tryz.isAgg3 (by rfl)) rfl rfl rfl ?_)))
            refine WR.stepE (v' := .bool true) (Ex.eql rfl rfl) (congrArg Value.bool (decide_eq_true hk22)) (Wn.some rfl rfl rfl) rfl rfl (PT rfl rfl rfl (MV rfl rfl (SG (Ex.fieldAddr Tryz.underlying27 rfl Tryz.sizeOf3 (by decide) rfl) rfl rfl rfl (SG (Ex.load1 H rfl (by repeat first | exact kMh | apply kMt) Tryz.isAgg3 (by rfl)) rfl rfl rfl ?_))))
            refine WR.stepE (v' := .bool true) (Ex.eql rfl rfl) (congrArg Value.bool (decide_eq_true hk23)) (Wn.some rfl rfl rfl) rfl rfl (PT rfl rfl rfl (MV rfl rfl (SG (Ex.fieldAddr Tryz.underlying27 rfl Tryz.sizeOf3 (by decide) rfl) rfl rfl rfl (SG (Ex.load1 H rfl (by repeat first | exact kMh | apply kMt) Tryz.isAgg3 (by rfl)) rfl rfl rfl ?_))))
            refine WR.stepE (v' := .bool true) (Ex.eql rfl rfl) (congrArg Value.bool (decide_eq_true hk24)) (Wn.some rfl rfl rfl) rfl rfl (PT rfl rfl rfl (MV rfl rfl (SG (Ex.move rfl) rfl rfl rfl (WR.stepE (v' := .bool true) (Ex.strEql rfl rfl) (congrArg Value.bool (decide_eq_true hk25)) (Wn.some rfl rfl rfl) rfl rfl (PT rfl rfl rfl (MV rfl rfl (SG (Ex.move rfl) rfl rfl rfl (SG (Ex.lenSlR Tryz.underlying22 f18_0 rfl) rfl rfl rfl (WR.stepE (v' := .bool true) (Ex.eql rfl rfl) (congrArg Value.bool (decide_eq_true hk26)) (Wn.some rfl rfl rfl) rfl rfl (PT rfl rfl rfl (MV rfl rfl (SG (Ex.move rfl) rfl rfl rfl (SG (Ex.idxAt ha60 Tryz.underlying22 Tryz.sizeOf34 rfl rfl) rfl rfl rfl (SG (Ex.fieldAddr Tryz.underlying34 rfl Tryz.sizeOf4 (by decide) rfl) rfl rfl rfl (WR.stepE (v' := .bool true) (Ex.loadM H rfl (hc60.at (j := 1) rfl) Tryz.isAgg4) (congrArg Value.bool hk28) (Wn.some rfl rfl rfl) rfl rfl (PT rfl rfl rfl ?_))))))))))))))))
            refine MV rfl rfl (SG (Ex.move rfl) rfl rfl rfl (SG (Ex.idxAt ha66 Tryz.underlying22 Tryz.sizeOf34 rfl rfl) rfl rfl rfl (SG (Ex.fieldAddr Tryz.underlying34 rfl Tryz.sizeOf9 (by decide) rfl) rfl rfl rfl (SG (Ex.loadM H rfl (hc66.at (j := 0) rfl) Tryz.isAgg9) rfl rfl rfl (WR.stepE (v' := .bool true) (Ex.strEql rfl rfl) (congrArg Value.bool (decide_eq_true hk30)) (Wn.some rfl rfl rfl) rfl rfl (PT rfl rfl rfl (MV rfl rfl (SG (Ex.move rfl) rfl rfl rfl (WR.stepE (v' := .bool false) (Ex.strEql rfl rfl) (congrArg Value.bool (decide_eq_false hk31)) (Wn.some rfl rfl rfl) rfl rfl (PT rfl rfl rfl (MV rfl rfl (WR.skipN 3 rfl rfl (PF rfl rfl rfl (MV rfl rfl (WR.skipN 5 rfl rfl (PF rfl rfl rfl (AS rfl rfl (NL ?_))))))))))))))))))
            exact WQ.meetN [(0, _)] ⟨rfl, trivial⟩ ⟨_, _, rfl, (H.pick (L' := []) (by repeat first | exact kPn | refine kPc (by repeat first | exact .head | apply Rem.tail) ?_)), hg_maxl, hg_tabs, e19⟩
          ·
           rw [if_neg hk30] at e19
           refine WR.stepE (v' := .bool true) (Ex.eql rfl rfl) (congrArg Value.bool (decide_eq_true hk21)) (Wn.none rfl) rfl rfl (MV rfl rfl (SG (Ex.fieldAddr Tryz.underlying27 rfl Tryz.sizeOf3 (by decide) rfl) rfl rfl rfl (SG (Ex.load1 H rfl (by repeat first | exact kMh | apply kMt) Tryz.isAgg3 (by rfl)) rfl rfl rfl ?_)))
           refine WR.stepE (v' := .bool true) (Ex.eql rfl rfl) (congrArg Value.bool (decide_eq_true hk22)) (Wn.some rfl rfl rfl) rfl rfl (PT rfl rfl rfl (MV rfl rfl (SG (Ex.fieldAddr Tryz.underlying27 rfl Tryz.sizeOf3 (by decide) rfl) rfl rfl rfl (SG (Ex.load1 H rfl (by repeat first | exact kMh | apply kMt) Tryz.isAgg3 (by rfl)) rfl rfl rfl ?_))))
           refine WR.stepE (v' := .bool true) (Ex.eql rfl rfl) (congrArg Value.bool (decide_eq_true hk23)) (Wn.some rfl rfl rfl) rfl rfl (PT rfl rfl rfl (MV rfl rfl (SG (Ex.fieldAddr Tryz.underlying27 rfl Tryz.sizeOf3 (by decide) rfl) rfl rfl rfl (SG (Ex.load1 H rfl (by repeat first | exact kMh | apply kMt) Tryz.isAgg3 (by rfl)) rfl rfl rfl ?_))))
           refine WR.stepE (v' := .bool true) (Ex.eql rfl rfl) (congrArg Value.bool (decide_eq_true hk24)) (Wn.some rfl rfl rfl) rfl rfl (PT rfl rfl rfl (MV rfl rfl (SG (Ex.move rfl) rfl rfl rfl (WR.stepE (v' := .bool true) (Ex.strEql rfl rfl) (congrArg Value.bool (decide_eq_true hk25)) (Wn.some rfl rfl rfl) rfl rfl (PT rfl rfl rfl (MV rfl rfl (SG (Ex.move rfl) rfl rfl rfl (SG (Ex.lenSlR Tryz.underlying22 f18_0 rfl) rfl rfl rfl (WR.stepE (v' := .bool true) (Ex.eql rfl rfl) (congrArg Value.bool (decide_eq_true hk26)) (Wn.some rfl rfl rfl) rfl rfl (PT rfl rfl rfl (MV rfl rfl (SG (Ex.move rfl) rfl rfl rfl (SG (Ex.idxAt ha60 Tryz.underlying22 Tryz.sizeOf34 rfl rfl) rfl rfl rfl (SG (Ex.fieldAddr Tryz.underlying34 rfl Tryz.sizeOf4 (by decide) rfl) rfl rfl rfl (WR.stepE (v' := .bool true) (Ex.loadM H rfl (hc60.at (j := 1) rfl) Tryz.isAgg4) (congrArg Value.bool hk28) (Wn.some rfl rfl rfl) rfl rfl (PT rfl rfl rfl ?_))))))))))))))))
           refine MV rfl rfl (SG (Ex.move rfl) rfl rfl rfl (SG (Ex.idxAt ha66 Tryz.underlying22 Tryz.sizeOf34 rfl rfl) rfl rfl rfl (SG (Ex.fieldAddr Tryz.underlying34 rfl Tryz.sizeOf9 (by decide) rfl) rfl rfl rfl (SG (Ex.loadM H rfl (hc66.at (j := 0) rfl) Tryz.isAgg9) rfl rfl rfl (WR.stepE (v' := .bool false) (Ex.strEql rfl rfl) (congrArg Value.bool (decide_eq_false hk30)) (Wn.some rfl rfl rfl) rfl rfl (PT rfl rfl rfl (MV rfl rfl (GF rfl rfl rfl (GF rfl rfl rfl (PF rfl rfl rfl (MV rfl rfl (WR.skipN 3 rfl rfl (PF rfl rfl rfl (MV rfl rfl (WR.skipN 5 rfl rfl (PF rfl rfl rfl (AS rfl rfl (NL ?_))))))))))))))))))
           exact WQ.meetN [(0, _)] ⟨rfl, trivial⟩ ⟨_, _, rfl, (H.pick (L' := []) (by repeat first | exact kPn | refine kPc (by repeat first | exact .head | apply Rem.tail) ?_)), hg_maxl, hg_tabs, e19⟩
         ·
          rw [if_neg hk28] at e19
          refine WR.stepE (v' := .bool true) (Ex.eql rfl rfl) (congrArg Value.bool (decide_eq_true hk21)) (Wn.none rfl) rfl rfl (MV rfl rfl (SG (Ex.fieldAddr Tryz.underlying27 rfl Tryz.sizeOf3 (by decide) rfl) rfl rfl rfl (SG (Ex.load1 H rfl (by repeat first | exact kMh | apply kMt) Tryz.isAgg3 (by rfl)) rfl rfl rfl ?_)))
          refine WR.stepE (v' := .bool true) (Ex.eql rfl rfl) (congrArg Value.bool (decide_eq_true hk22)) (Wn.some rfl rfl rfl) rfl rfl (PT rfl rfl rfl (MV rfl rfl (SG (Ex.fieldAddr Tryz.underlying27 rfl Tryz.sizeOf3 (by decide) rfl) rfl rfl rfl (SG (Ex.load1 H rfl (by repeat first | exact kMh | apply kMt) Tryz.isAgg3 (by rfl)) rfl rfl rfl ?_))))
          refine WR.stepE (v' := .bool true) (Ex.eql rfl rfl) (congrArg Value.bool (decide_eq_true hk23)) (Wn.some rfl rfl rfl) rfl rfl (PT rfl rfl rfl (MV rfl rfl (SG (Ex.fieldAddr Tryz.underlying27 rfl Tryz.sizeOf3 (by decide) rfl) rfl rfl rfl (SG (Ex.load1 H rfl (by repeat first | exact kMh | apply kMt) Tryz.isAgg3 (by rfl)) rfl rfl rfl ?_))))
          refine WR.stepE (v' := .bool true) (Ex.eql rfl rfl) (congrArg Value.bool (decide_eq_true hk24)) (Wn.some rfl rfl rfl) rfl rfl (PT rfl rfl rfl (MV rfl rfl (SG (Ex.move rfl) rfl rfl rfl (WR.stepE (v' := .bool true) (Ex.strEql rfl rfl) (congrArg Value.bool (decide_eq_true hk25)) (Wn.some rfl rfl rfl) rfl rfl (PT rfl rfl rfl (MV rfl rfl (SG (Ex.move rfl) rfl rfl rfl (SG (Ex.lenSlR Tryz.underlying22 f18_0 rfl) rfl rfl rfl (WR.stepE (v' := .bool true) (Ex.eql rfl rfl) (congrArg Value.bool (decide_eq_true hk26)) (Wn.some rfl rfl rfl) rfl rfl (PT rfl rfl rfl (MV rfl rfl (SG (Ex.move rfl) rfl rfl rfl (SG (Ex.idxAt ha60 Tryz.underlying22 Tryz.sizeOf34 rfl rfl) rfl rfl rfl (SG (Ex.fieldAddr Tryz.underlying34 rfl Tryz.sizeOf4 (by decide) rfl) rfl rfl rfl (WR.stepE (v' := .bool false) (Ex.loadM H rfl (hc60.at (j := 1) rfl) Tryz.isAgg4) (congrArg Value.bool (Bool.of_not_eq_true hk28)) (Wn.some rfl rfl rfl) rfl rfl ?_)))))))))))))))
          refine PT rfl rfl rfl (MV rfl rfl (WR.skipN 5 rfl rfl (PF rfl rfl rfl (MV rfl rfl (GF rfl rfl rfl (GF rfl rfl rfl (PF rfl rfl rfl (MV rfl rfl (WR.skipN 3 rfl rfl (PF rfl rfl rfl (MV rfl rfl (WR.skipN 5 rfl rfl (PF rfl rfl rfl (AS rfl rfl (NL ?_)))))))))))))))
          exact WQ.meetN [(0, _)] ⟨rfl, trivial⟩ ⟨_, _, rfl, (H.pick (L' := []) (by repeat first | exact kPn | refine kPc (by repeat first | exact .head | apply Rem.tail) ?_)), hg_maxl, hg_tabs, e19⟩
        ·
         rw [if_neg hk26] at e19
         refine WR.stepE (v' := .bool true) (Ex.eql rfl rfl) (congrArg Value.bool (decide_eq_true hk21)) (Wn.none rfl) rfl rfl (MV rfl rfl (SG (Ex.fieldAddr Tryz.underlying27 rfl Tryz.sizeOf3 (by decide) rfl) rfl rfl rfl (SG (Ex.load1 H rfl (by repeat first | exact kMh | apply kMt) Tryz.isAgg3 (by rfl)) rfl rfl rfl ?_)))
         refine WR.stepE (v' := .bool true) (Ex.eql rfl rfl) (congrArg Value.bool (decide_eq_true hk22)) (Wn.some rfl rfl rfl) rfl rfl (PT rfl rfl rfl (MV rfl rfl (SG (Ex.fieldAddr Tryz.underlying27 rfl Tryz.sizeOf3 (by decide) rfl) rfl rfl rfl (SG (Ex.load1 H rfl (by repeat first | exact kMh | apply kMt) Tryz.isAgg3 (by rfl)) rfl rfl rfl ?_))))
         refine WR.stepE (v' := .bool true) (Ex.eql rfl rfl) (congrArg Value.bool (decide_eq_true hk23)) (Wn.some rfl rfl rfl) rfl rfl (PT rfl rfl rfl (MV rfl rfl (SG (Ex.fieldAddr Tryz.underlying27 rfl Tryz.sizeOf3 (by decide) rfl) rfl rfl rfl (SG (Ex.load1 H rfl (by repeat first | exact kMh | apply kMt) Tryz.isAgg3 (by rfl)) rfl rfl rfl ?_))))
         refine WR.stepE (v' := .bool true) (Ex.eql rfl rfl) (congrArg Value.bool (decide_eq_true hk24)) (Wn.some rfl rfl rfl) rfl rfl (PT rfl rfl rfl (MV rfl rfl (SG (Ex.move rfl) rfl rfl rfl (WR.stepE (v' := .bool true) (Ex.strEql rfl rfl) (congrArg Value.bool (decide_eq_true hk25)) (Wn.some rfl rfl rfl) rfl rfl (PT rfl rfl rfl (MV rfl rfl (SG (Ex.move rfl) rfl rfl rfl (SG (Ex.lenSlR Tryz.underlying22 f18_0 rfl) rfl rfl rfl (WR.stepE (v' := .bool false) (Ex.eql rfl rfl) (congrArg Value.bool (decide_eq_false hk26)) (Wn.some rfl rfl rfl) rfl rfl (PT rfl rfl rfl (MV rfl rfl (WR.skipN 4 rfl rfl (PF rfl rfl rfl (MV rfl rfl (WR.skipN 5 rfl rfl (PF rfl rfl rfl (MV rfl rfl (GF rfl rfl rfl (GF rfl rfl rfl (PF rfl rfl rfl (MV rfl rfl (WR.skipN 3 rfl rfl (PF rfl rfl rfl (MV rfl rfl (WR.skipN 5 rfl rfl (PF rfl rfl rfl (AS rfl rfl (NL ?_))))))))))))))))))))))))))))
         exact WQ.meetN [(0, _)] ⟨rfl, trivial⟩ ⟨_, _, rfl, (H.pick (L' := []) (by repeat first | exact kPn | refine kPc (by repeat first | exact .head | apply Rem.tail) ?_)), hg_maxl, hg_tabs, e19⟩
       ·
        rw [if_neg hk25] at e19
        refine WR.stepE (v' := .bool true) (Ex.eql rfl rfl) (congrArg Value.bool (decide_eq_true hk21)) (Wn.none rfl) rfl rfl (MV rfl rfl (SG (Ex.fieldAddr Tryz.underlying27 rfl Tryz.sizeOf3 (by decide) rfl) rfl rfl rfl (SG (Ex.load1 H rfl (by repeat first | exact kMh | apply kMt) Tryz.isAgg3 (by rfl)) rfl rfl rfl ?_)))
        refine WR.stepE (v' := .bool true) (Ex.eql rfl rfl) (congrArg Value.bool (decide_eq_true hk22)) (Wn.some rfl rfl rfl) rfl rfl (PT rfl rfl rfl (MV rfl rfl (SG (Ex.fieldAddr Tryz.underlying27 rfl Tryz.sizeOf3 (by decide) rfl) rfl rfl rfl (SG (Ex.load1 H rfl (by repeat first | exact kMh | apply kMt) Tryz.isAgg3 (by rfl)) rfl rfl rfl ?_))))
        refine WR.stepE (v' := .bool true) (Ex.eql rfl rfl) (congrArg Value.bool (decide_eq_true hk23)) (Wn.some rfl rfl rfl) rfl rfl (PT rfl rfl rfl (MV rfl rfl (SG (Ex.fieldAddr Tryz.underlying27 rfl Tryz.sizeOf3 (by decide) rfl) rfl rfl rfl (SG (Ex.load1 H rfl (by repeat first | exact kMh | apply kMt) Tryz.isAgg3 (by rfl)) rfl rfl rfl ?_))))
        refine WR.stepE (v' := .bool true) (Ex.eql rfl rfl) (congrArg Value.bool (decide_eq_true hk24)) (Wn.some rfl rfl rfl) rfl rfl (PT rfl rfl rfl (MV rfl rfl (SG (Ex.move rfl) rfl rfl rfl (WR.stepE (v' := .bool false) (Ex.strEql rfl rfl) (congrArg Value.bool (decide_eq_false hk25)) (Wn.some rfl rfl rfl) rfl rfl (PT rfl rfl rfl (MV rfl rfl (WR.skipN 3 rfl rfl (PF rfl rfl rfl (MV rfl rfl (WR.skipN 4 rfl rfl (PF rfl rfl rfl (MV rfl rfl (WR.skipN 5 rfl rfl (PF rfl rfl rfl (MV rfl rfl (GF rfl rfl rfl (GF rfl rfl rfl (PF rfl rfl rfl (MV rfl rfl (WR.skipN 3 rfl rfl (PF rfl rfl rfl (MV rfl rfl (WR.skipN 5 rfl rfl (PF rfl rfl rfl (AS rfl rfl (NL ?_))))))))))))))))))))))))))
        exact WQ.meetN [(0, _)] ⟨rfl, trivial⟩ ⟨_, _, rfl, (H.pick (L' := []) (by repeat first | exact kPn | refine kPc (by repeat first | exact .head | apply Rem.tail) ?_)), hg_maxl, hg_tabs, e19⟩
      ·
       rw [if_neg hk24] at e19
       refine WR.stepE (v' := .bool true) (Ex.eql rfl rfl) (congrArg Value.bool (decide_eq_true hk21)) (Wn.none rfl) rfl rfl (MV rfl rfl (SG (Ex.fieldAddr Tryz.underlying27 rfl Tryz.sizeOf3 (by decide) rfl) rfl rfl rfl (SG (Ex.load1 H rfl (by repeat first | exact kMh | apply kMt) Tryz.isAgg3 (by rfl)) rfl rfl rfl ?_)))
       refine WR.stepE (v' := .bool true) (Ex.eql rfl rfl) (congrArg Value.bool (decide_eq_true hk22)) (Wn.some rfl rfl rfl) rfl rfl (PT rfl rfl rfl (MV rfl rfl (SG (Ex.fieldAddr Tryz.underlying27 rfl Tryz.sizeOf3 (by decide) rfl) rfl rfl rfl (SG (Ex.load1 H rfl (by repeat first | exact kMh | apply kMt) Tryz.isAgg3 (by rfl)) rfl rfl rfl ?_))))
       refine WR.stepE (v' := .bool true) (Ex.eql rfl rfl) (congrArg Value.bool (decide_eq_true hk23)) (Wn.some rfl rfl rfl) rfl rfl (PT rfl rfl rfl (MV rfl rfl (SG (Ex.fieldAddr Tryz.underlying27 rfl Tryz.sizeOf3 (by decide) rfl) rfl rfl rfl (SG (Ex.load1 H rfl (by repeat first | exact kMh | apply kMt) Tryz.isAgg3 (by rfl)) rfl rfl rfl ?_))))
       refine WR.stepE (v' := .bool false) (Ex.eql rfl rfl) (congrArg Value.bool (decide_eq_false hk24)) (Wn.some rfl rfl rfl) rfl rfl (PT rfl rfl rfl (MV rfl rfl (GF rfl rfl rfl (GF rfl rfl rfl (PF rfl rfl rfl (MV rfl rfl (WR.skipN 3 rfl rfl (PF rfl rfl rfl (MV rfl rfl (WR.skipN 4 rfl rfl (PF rfl rfl rfl (MV rfl rfl (WR.skipN 5 rfl rfl (PF rfl rfl rfl (MV rfl rfl (GF rfl rfl rfl (GF rfl rfl rfl (PF rfl rfl rfl (MV rfl rfl (WR.skipN 3 rfl rfl (PF rfl rfl rfl (MV rfl rfl (WR.skipN 5 rfl rfl (PF rfl rfl rfl (AS rfl rfl (NL ?_))))))))))))))))))))))))))
       exact WQ.meetN [(0, _)] ⟨rfl, trivial⟩ ⟨_, _, rfl, (H.pick (L' := []) (by repeat first | exact kPn | refine kPc (by repeat first | exact .head | apply Rem.tail) ?_)), hg_maxl, hg_tabs, e19⟩
     ·
      rw [if_neg hk23] at e19
      refine WR.stepE (v' := .bool true) (Ex.eql rfl rfl) (congrArg Value.bool (decide_eq_true hk21)) (Wn.none rfl) rfl rfl (MV rfl rfl (SG (Ex.fieldAddr Tryz.underlying27 rfl Tryz.sizeOf3 (by decide) rfl) rfl rfl rfl (SG (Ex.load1 H rfl (by repeat first | exact kMh | apply kMt) Tryz.isAgg3 (by rfl)) rfl rfl rfl ?_)))
      refine WR.stepE (v' := .bool true) (Ex.eql rfl rfl) (congrArg Value.bool (decide_eq_true hk22)) (Wn.some rfl rfl rfl) rfl rfl (PT rfl rfl rfl (MV rfl rfl (SG (Ex.fieldAddr Tryz.underlying27 rfl Tryz.sizeOf3 (by decide) rfl) rfl rfl rfl (SG (Ex.load1 H rfl (by repeat first | exact kMh | apply kMt) Tryz.isAgg3 (by rfl)) rfl rfl rfl ?_))))
      refine WR.stepE (v' := .bool false) (Ex.eql rfl rfl) (congrArg Value.bool (decide_eq_false hk23)) (Wn.some rfl rfl rfl) rfl rfl (PT rfl rfl rfl (MV rfl rfl (WR.skipN 3 rfl rfl (PF rfl rfl rfl (MV rfl rfl (GF rfl rfl rfl (GF rfl rfl rfl (PF rfl rfl rfl (MV rfl rfl (WR.skipN 3 rfl rfl (PF rfl rfl rfl (MV rfl rfl (WR.skipN 4 rfl rfl (PF rfl rfl rfl (MV rfl rfl (WR.skipN 5 rfl rfl (PF rfl rfl rfl (MV rfl rfl (GF rfl rfl rfl (GF rfl rfl rfl (PF rfl rfl rfl (MV rfl rfl (WR.skipN 3 rfl rfl (PF rfl rfl rfl (MV rfl rfl (WR.skipN 5 rfl rfl (PF rfl rfl rfl (AS rfl rfl (NL ?_)))))))))))))))))))))))))))))
      exact WQ.meetN [(0, _)] ⟨rfl, trivial⟩ ⟨_, _, rfl, (H.pick (L' := []) (by repeat first | exact kPn | refine kPc (by repeat first | exact .head | apply Rem.tail) ?_)), hg_maxl, hg_tabs, e19⟩
    ·
     rw [if_neg hk22] at e19
     refine WR.stepE (v' := .bool true) (Ex.eql rfl rfl) (congrArg Value.bool (decide_eq_true hk21)) (Wn.none rfl) rfl rfl (MV rfl rfl (SG (Ex.fieldAddr Tryz.underlying27 rfl Tryz.sizeOf3 (by decide) rfl) rfl rfl rfl (SG (Ex.load1 H rfl (by repeat first | exact kMh | apply kMt) Tryz.isAgg3 (by rfl)) rfl rfl rfl ?_)))
     refine WR.stepE (v' := .bool false) (Ex.eql rfl rfl) (congrArg Value.bool (decide_eq_false hk22)) (Wn.some rfl rfl rfl) rfl rfl (PT rfl rfl rfl (MV rfl rfl (WR.skipN 3 rfl rfl (PF rfl rfl rfl (MV rfl rfl (WR.skipN 3 rfl rfl (PF rfl rfl rfl (MV rfl rfl (GF rfl rfl rfl (GF rfl rfl rfl (PF rfl rfl rfl (MV rfl rfl (WR.skipN 3 rfl rfl (PF rfl rfl rfl (MV rfl rfl (WR.skipN 4 rfl rfl (PF rfl rfl rfl (MV rfl rfl (WR.skipN 5 rfl rfl (PF rfl rfl rfl (MV rfl rfl (GF rfl rfl rfl (GF rfl rfl rfl (PF rfl rfl rfl (MV rfl rfl (WR.skipN 3 rfl rfl (PF rfl rfl rfl (MV rfl rfl (WR.skipN 5 rfl rfl (PF rfl rfl rfl (AS rfl rfl (NL ?_))))))))))))))))))))))))))))))))
     exact WQ.meetN [(0, _)] ⟨rfl, trivial⟩ ⟨_, _, rfl, (H.pick (L' := []) (by repeat first | exact kPn | refine kPc (by repeat first | exact .head | apply Rem.tail) ?_)), hg_maxl, hg_tabs, e19⟩
   ·
    rw [if_neg hk21] at e19
    refine WR.stepE (v' := .bool false) (Ex.eql rfl rfl) (congrArg Value.bool (decide_eq_false hk21)) (Wn.none rfl) rfl rfl (MV rfl rfl (WR.skipN 3 rfl rfl (PF rfl rfl rfl (MV rfl rfl (WR.skipN 3 rfl rfl (PF rfl rfl rfl (MV rfl rfl (WR.skipN 3 rfl rfl (PF rfl rfl rfl (MV rfl rfl (GF rfl rfl rfl (GF rfl rfl rfl (PF rfl rfl rfl (MV rfl rfl (WR.skipN 3 rfl rfl (PF rfl rfl rfl (MV rfl rfl (WR.skipN 4 rfl rfl (PF rfl rfl rfl (MV rfl rfl (WR.skipN 5 rfl rfl (PF rfl rfl rfl (MV rfl rfl (GF rfl rfl rfl (GF rfl rfl rfl (PF rfl rfl rfl (MV rfl rfl (WR.skipN 3 rfl rfl (PF rfl rfl rfl (MV rfl rfl (WR.skipN 5 rfl rfl (PF rfl rfl rfl (AS rfl rfl (NL ?_))))))))))))))))))))))))))))))))))
    exact WQ.meetN [(0, _)] ⟨rfl, trivial⟩ ⟨_, _, rfl, (H.pick (L' := []) (by repeat first | exact kPn | refine kPc (by repeat first | exact .head | apply Rem.tail) ?_)), hg_maxl, hg_tabs, e19⟩
  ·
   rintro e w ⟨b20, M, rfl, H, hg_maxl, hg_tabs, q34⟩
   obtain rfl := oI q34
   refine TN (RT ?_)
   obtain rfl := oI h
   exact WQ.ret1 rfl rfl H.ext rfl
theorem R_displayCode_ct {p0 : List UInt8} {r : Int} (h : R_displayCode p0 = some r) : Ct Tryz.prog 34 [S p0] (fun M => True) (fun v M => v = I r) := by
  refine Ct.of Tryz.func34 (enters Tryz.func34 (by kernel_rfl) rfl) rfl rfl rfl ?_
  intro w0 M0 H hp
  unfold R_displayCode at h
  refine SQ (RG (AS rfl rfl (NL (TN (SQ (SQ (RG (MV rfl rfl (ST (Ex.lenStr Tryz.underlying9 rfl) rfl (ST (Ex.gtr rfl rfl) rfl (NL (TN ?_))))))))))))
  refine WC.condB rfl (fun hk1 => ?_) (fun hk1 => ?_)
  ·
   replace hk1 : (500 : Int) < (p0.length : Int) := of_decide_eq_true hk1
   rw [if_pos hk1] at h
   refine SQ (RG (AS rfl rfl (NL (TN (RT ?_)))))
   obtain rfl := oI h
   exact WQ.ret1 rfl rfl H.ext rfl
  ·
   replace hk1 : ¬ ((500 : Int) < (p0.length : Int)) := of_decide_eq_false hk1
   rw [if_neg hk1] at h
   refine SK (TN (SQ (SQ ?_)))
   obtain ⟨b2, hx3, h⟩ := bnd h
   refine RG (MV rfl rfl (WR.call H (R_Valid_ct hx3) rfl trivial (Wn.none rfl) rfl ?_))
   intro v7 M w H hle hR
   obtain rfl := hR
   refine ST (Ex.not rfl) rfl (NL (TN ?_))
   refine WC.condB rfl (fun hk4 => ?_) (fun hk4 => ?_)
   ·
    replace hk4 : b2 = false := by simpa using hk4
    subst hk4
    rw [if_neg Bool.false_ne_true] at h
    refine SQ (RG (AS rfl rfl (NL (TN (RT ?_)))))
    obtain rfl := oI h
    exact WQ.ret1 rfl rfl H.ext rfl
   ·
    replace hk4 : b2 = true := by simpa using hk4
    subst hk4
    rw [if_pos rfl] at h
    refine SK (TN (SQ (RG (AS rfl rfl (NL (TN (RT ?_)))))))
    obtain rfl := oI h
    exact WQ.ret1 rfl rfl H.ext rfl
theorem R_At_ct {p0 : Int} {p1 : Int} {r : (Int × Int)} (h : R_At p0 p1 = some r) : Ct Tryz.prog 18 [I p0, I p1] (fun M => True) (fun v M => v = Value.agg #[I r.1, I r.2]) := by
  refine Ct.of Tryz.func18 (enters Tryz.func18 (by kernel_rfl) rfl) rfl rfl rfl ?_
  intro w0 M0 H hp
  unfold R_At at h
  refine SQ (RG (WR.alloc [_, _] H Tryz.zeroValue27 rfl (Wn.none rfl) rfl ?_))
  intro bk4 w H
  refine NL (TN (SQ (RG (MV rfl rfl (MV rfl rfl (ST (Ex.build [I p0, I p1] Tryz.underlying27 Tryz.zeroValue27 (xplaces27 Tryz.underlying27) rfl rfl) rfl (WR.store [_, _] H rfl rfl rfl (by repeat first | exact .head | apply Upd.tail) Tryz.sizeOf27 rfl (by rfl) (by rfl) (Wn.none rfl) ?_)))))))
  intro w H
  refine NL (TN (RT ?_))
  obtain rfl := oI h
  exact WQ.ret1 rfl ⟨_, rfl, H.loadAgg (by repeat first | exact kMh | apply kMt) Tryz.isAgg27 Tryz.sizeOf27 (by rfl)⟩ H.ext rfl
theorem R_In_ct {p0 : Int} {p1 : Int} {p2 : Int} {r : Bool} (h : R_In p0 p1 p2 = some r) : Ct Tryz.prog 21 [I p0, I p1, I p2] (fun M => True) (fun v M => v = Value.bool r) := by
  refine Ct.of Tryz.func21 (enters Tryz.func21 (by kernel_rfl) rfl) rfl rfl rfl ?_
  intro w0 M0 H hp
  unfold R_In at h
  refine SQ (RG (AS rfl rfl (NL (TN (SQ ?_)))))
  obtain ⟨o1, e2, h⟩ := bnd h
  refine WC.cutX (fun e w => ∃ (b3 : Bool) (M : Mem), e = [(6, Value.bool b3)] ∧ St w0 M0 M [] w ∧ some b3 = some o1) [] ?_ ?_ (trivial)
  ·
   refine RG (MV rfl rfl (MV rfl rfl ?_))
   by_cases hk4 : p1 ≤ p0
   ·
    rw [if_pos hk4] at e2
    refine WR.stepE (v' := .bool true) (Ex.geq rfl rfl) (congrArg Value.bool (decide_eq_true hk4)) (Wn.none rfl) rfl rfl (MV rfl rfl (SG (Ex.move rfl) rfl rfl rfl (SG (Ex.move rfl) rfl rfl rfl (SG (Ex.leq rfl rfl) rfl rfl rfl (PT rfl rfl rfl (AS rfl rfl (NL ?_)))))))
    exact WQ.meetN [(6, _)] ⟨rfl, trivial⟩ ⟨_, _, rfl, H, e2⟩
   ·
    rw [if_neg hk4] at e2
    refine WR.stepE (v' := .bool false) (Ex.geq rfl rfl) (congrArg Value.bool (decide_eq_false hk4)) (Wn.none rfl) rfl rfl (MV rfl rfl (WR.skipN 3 rfl rfl (PF rfl rfl rfl (AS rfl rfl (NL ?_)))))
    exact WQ.meetN [(6, _)] ⟨rfl, trivial⟩ ⟨_, _, rfl, H, e2⟩
  ·
   rintro e w ⟨b3, M, rfl, H, q5⟩
   obtain rfl := oI q5
   refine TN (RT ?_)
   obtain rfl := oI h
   exact WQ.ret1 rfl rfl H.ext rfl
theorem R_LocalPart_ct {p0 : List UInt8} {r : Bool} (h : R_LocalPart p0 = some r) : Ct Tryz.prog 35 [S p0] (fun M => True) (fun v M => v = Value.bool r) := by
  refine Ct.of Tryz.func35 (enters Tryz.func35 (by kernel_rfl) rfl) rfl rfl rfl ?_
  intro w0 M0 H hp
  unfold R_LocalPart at h
  refine SQ (RG (AS rfl rfl (NL (TN (SQ (SQ (RG (AS rfl rfl (NL (TN ?_))))))))))
  obtain ⟨o1, e2, h⟩ := bnd h
  refine WC.cutX (fun e w => ∃  (M : Mem), e = [(0, S p0)] ∧ St w0 M0 M [] w ∧ some (.inl ()) = some o1) [] ?_ ?_ (trivial)
  ·
   refine BL (WC.loopP (fun m e w => ∃ (n3 : Int) (M : Mem), e = [(0, S p0), (3, I n3)] ∧ St w0 M0 M [] w ∧ R_LocalPart_L1 p0 m n3 = some o1) FU [(0, _), (3, _)] ⟨rfl, rfl, trivial⟩ ⟨_, _, rfl, H, e2⟩ ?_)
   rintro m4 e w ⟨n3, M, rfl, H, e2⟩
   rcases m4 with _ | m4
   · rw [R_LocalPart_L1] at e2; cases e2
   rw [R_LocalPart_L1] at e2
   refine SQ (SQ (RG (MV rfl rfl (MV rfl rfl (ST (Ex.lenStr Tryz.underlying9 rfl) rfl (ST (Ex.lss rfl rfl) rfl (NL (TN ?_))))))))
   refine WC.condB rfl (fun hk5 => ?_) (fun hk5 => ?_)
   ·
    replace hk5 : n3 < (p0.length : Int) := of_decide_eq_true hk5
    rw [if_pos hk5] at e2
    refine SK (TN (SQ (BL (SQ ?_))))
    obtain ⟨c6, hxc6, e2⟩ := bnd e2
    obtain ⟨b7, hx8, e2⟩ := bnd e2
    refine RG (MV rfl rfl (MV rfl rfl (ST (Ex.idxStrC Tryz.underlying9 rfl rfl hxc6) rfl (ST (Ex.convB Tryz.underlying5 Tryz.underlying3 rfl) rfl (WR.call H (R_In_ct hx8) rfl trivial (Wn.none rfl) rfl ?_)))))
    intro v14 M w H hle hR
    obtain rfl := hR
    refine ST (Ex.not rfl) rfl (NL (TN ?_))
    refine WC.condB rfl (fun hk9 => ?_) (fun hk9 => ?_)
    ·
     replace hk9 : b7 = false := by simpa using hk9
     subst hk9
     rw [if_neg Bool.false_ne_true] at e2
     refine SQ (RG (AS rfl rfl (NL (TN (RT ?_)))))
     obtain rfl := oI e2
     try dsimp only at h
     obtain rfl := oI h
     exact WQ.ret1 rfl rfl H.ext rfl
    ·
     replace hk9 : b7 = true := by simpa using hk9
     subst hk9
     rw [if_pos rfl] at e2
     refine SK (IB (TN ?_))
     obtain ⟨n10, hxn10, e2⟩ := bnd e2
     refine RG (MV rfl rfl (ST (Ex.addC rfl rfl hxn10) rfl (AS rfl rfl (NL ?_))))
     exact WQ.againP m4 [(0, _), (3, _)] ⟨rfl, rfl, trivial⟩ ⟨_, _, rfl, H, e2⟩ (Nat.lt_succ_self _)
   ·
    replace hk5 : ¬ (n3 < (p0.length : Int)) := of_decide_eq_false hk5
    rw [if_neg hk5] at e2
    refine WC.exit (WQ.thenExit (WQ.thenExit (WQ.exitHere ?_)))
    exact WQ.meetN [(0, _)] ⟨rfl, trivial⟩ ⟨_, rfl, H, e2⟩
  ·
   rintro e w ⟨M, rfl, H, q11⟩
   obtain rfl := oI q11
   try dsimp only at h
   refine TN (SQ ?_)
   obtain ⟨b12, hx13, h⟩ := bnd h
   refine RG (MV rfl rfl (ST (Ex.lenStr Tryz.underlying9 rfl) rfl (WR.call H (R_In_ct hx13) rfl trivial (Wn.none rfl) rfl ?_)))
   intro v18 M w H hle hR
   obtain rfl := hR
   refine AS rfl rfl (NL (TN (RT ?_)))
   obtain rfl := oI h
   exact WQ.ret1 rfl rfl H.ext rfl
theorem R_letter_ct {p0 : UInt8} {r : Bool} (h : R_letter p0 = some r) : Ct Tryz.prog 73 [encB p0] (fun M => True) (fun v M => v = Value.bool r) := by
  refine Ct.of Tryz.func73 (enters Tryz.func73 (by kernel_rfl) rfl) rfl rfl rfl ?_
  intro w0 M0 H hp
  unfold R_letter at h
  refine SQ (RG (AS rfl rfl (NL (TN (SQ (RG (MV rfl rfl (ST (Ex.convB Tryz.underlying5 Tryz.underlying3 rfl) rfl (AS rfl rfl (NL (TN (SQ ?_))))))))))))
  obtain ⟨o1, e2, h⟩ := bnd h
  refine WC.cutX (fun e w => ∃ (b3 : Bool) (M : Mem), e = [(2, Value.bool b3)] ∧ St w0 M0 M [] w ∧ some b3 = some o1) [] ?_ ?_ (trivial)
  ·
   obtain ⟨b4, hx5, e2⟩ := bnd e2
   refine RG (MV rfl rfl (WR.call H (R_In_ct hx5) rfl trivial (Wn.none rfl) rfl ?_))
   intro v7 M w H hle hR
   obtain rfl := hR
   refine MV rfl rfl ?_
   rcases b4 with _ | _
   ·
    rw [if_neg Bool.false_ne_true] at e2
    obtain ⟨b6, hx7, e2⟩ := bnd e2
    refine SG (Ex.move rfl) rfl rfl rfl (WR.call H (R_In_ct hx7) rfl trivial (Wn.some rfl rfl rfl) rfl ?_)
    intro v10 M w H hle hR
    obtain rfl := hR
    refine PF rfl rfl rfl (MV rfl rfl ?_)
    rcases b6 with _ | _
    ·
     rw [if_neg Bool.false_ne_true] at e2
     obtain ⟨b8, hx9, e2⟩ := bnd e2
     refine SG (Ex.move rfl) rfl rfl rfl (WR.call H (R_In_ct hx9) rfl trivial (Wn.some rfl rfl rfl) rfl ?_)
     intro v14 M w H hle hR
     obtain rfl := hR
     refine PF rfl rfl rfl (AS rfl rfl (NL ?_))
     exact WQ.meetN [(2, _)] ⟨rfl, trivial⟩ ⟨_, _, rfl, H, e2⟩
    ·
     rw [if_pos rfl] at e2
     refine GT rfl rfl rfl (GT rfl rfl rfl (PT rfl rfl rfl (AS rfl rfl (NL ?_))))
     exact WQ.meetN [(2, _)] ⟨rfl, trivial⟩ ⟨_, _, rfl, H, e2⟩
   ·
    rw [if_pos rfl] at e2
    refine GT rfl rfl rfl (GT rfl rfl rfl (PT rfl rfl rfl (MV rfl rfl (GT rfl rfl rfl (GT rfl rfl rfl (PT rfl rfl rfl (AS rfl rfl (NL ?_))))))))
    exact WQ.meetN [(2, _)] ⟨rfl, trivial⟩ ⟨_, _, rfl, H, e2⟩
  ·
   rintro e w ⟨b3, M, rfl, H, q10⟩
   obtain rfl := oI q10
   refine TN (RT ?_)
   obtain rfl := oI h
   exact WQ.ret1 rfl rfl H.ext rfl
theorem R_OneOf_ct {p0 : UInt8} {p1 : List UInt8} {r : Bool} (h : R_OneOf p0 p1 = some r) : Ct Tryz.prog 26 [encB p0, S p1] (fun M => True) (fun v M => v = Value.bool r) := by
  refine Ct.of Tryz.func26 (enters Tryz.func26 (by kernel_rfl) rfl) rfl rfl rfl ?_
  intro w0 M0 H hp
  unfold R_OneOf at h
  refine SQ (RG (AS rfl rfl (NL (TN (SQ (SQ (RG (AS rfl rfl (NL (TN ?_))))))))))
  obtain ⟨o1, e2, h⟩ := bnd h
  refine WC.cutX (fun e w => ∃  (M : Mem), e = [] ∧ St w0 M0 M [] w ∧ some (.inl ()) = some o1) [] ?_ ?_ (trivial)
  ·
   refine BL (WC.loopP (fun m e w => ∃ (n3 : Int) (M : Mem), e = [(0, encB p0), (1, S p1), (5, I n3)] ∧ St w0 M0 M [] w ∧ R_OneOf_L1 p0 p1 m n3 = some o1) FU [(0, _), (1, _), (5, _)] ⟨rfl, rfl, rfl, trivial⟩ ⟨_, _, rfl, H, e2⟩ ?_)
   rintro m4 e w ⟨n3, M, rfl, H, e2⟩
   rcases m4 with _ | m4
   · rw [R_OneOf_L1] at e2; cases e2
   rw [R_OneOf_L1] at e2
   refine SQ (SQ (RG (MV rfl rfl (MV rfl rfl (ST (Ex.lenStr Tryz.underlying9 rfl) rfl (ST (Ex.lss rfl rfl) rfl (NL (TN ?_))))))))
   refine WC.condB rfl (fun hk5 => ?_) (fun hk5 => ?_)
   ·
    replace hk5 : n3 < (p1.length : Int) := of_decide_eq_true hk5
    rw [if_pos hk5] at e2
    refine SK (TN (SQ (BL (SQ ?_))))
    obtain ⟨c6, hxc6, e2⟩ := bnd e2
    refine RG (MV rfl rfl (MV rfl rfl (ST (Ex.idxStrC Tryz.underlying9 rfl rfl hxc6) rfl (MV rfl rfl (ST (Ex.eqlB (c := c6) (d := p0) rfl rfl) rfl (NL (TN ?_)))))))
    refine WC.condB rfl (fun hk7 => ?_) (fun hk7 => ?_)
    ·
     replace hk7 : c6 = p0 := of_decide_eq_true hk7
     rw [if_pos hk7] at e2
     refine SQ (RG (AS rfl rfl (NL (TN (RT ?_)))))
     obtain rfl := oI e2
     try dsimp only at h
     obtain rfl := oI h
     exact WQ.ret1 rfl rfl H.ext rfl
    ·
     replace hk7 : ¬ (c6 = p0) := of_decide_eq_false hk7
     rw [if_neg hk7] at e2
     refine SK (IB (TN ?_))
     obtain ⟨n8, hxn8, e2⟩ := bnd e2
     refine RG (MV rfl rfl (ST (Ex.addC rfl rfl hxn8) rfl (AS rfl rfl (NL ?_))))
     exact WQ.againP m4 [(0, _), (1, _), (5, _)] ⟨rfl, rfl, rfl, trivial⟩ ⟨_, _, rfl, H, e2⟩ (Nat.lt_succ_self _)
   ·
    replace hk5 : ¬ (n3 < (p1.length : Int)) := of_decide_eq_false hk5
    rw [if_neg hk5] at e2
    refine WC.exit (WQ.thenExit (WQ.thenExit (WQ.exitHere ?_)))
    exact WQ.meetN [] trivial ⟨_, rfl, H, e2⟩
  ·
   rintro e w ⟨M, rfl, H, q9⟩
   obtain rfl := oI q9
   try dsimp only at h
   refine TN (SQ (RG (AS rfl rfl (NL (TN (RT ?_))))))
   obtain rfl := oI h
   exact WQ.ret1 rfl rfl H.ext rfl
theorem R_AtomByte_ct {p0 : UInt8} {r : Bool} (h : R_AtomByte p0 = some r) : Ct Tryz.prog 72 [encB p0] (fun M => True) (fun v M => v = Value.bool r) := by
  refine Ct.of Tryz.func72 (enters Tryz.func72 (by kernel_rfl) rfl) rfl rfl rfl ?_
  intro w0 M0 H hp
  unfold R_AtomByte at h
  refine SQ (RG (AS rfl rfl (NL (TN (SQ ?_)))))
  obtain ⟨o1, e2, h⟩ := bnd h
  refine WC.cutX (fun e w => ∃ (b3 : Bool) (M : Mem), e = [(2, Value.bool b3)] ∧ St w0 M0 M [] w ∧ some b3 = some o1) [] ?_ ?_ (trivial)
  ·
   obtain ⟨b4, hx5, e2⟩ := bnd e2
   refine RG (MV rfl rfl (WR.call H (R_letter_ct hx5) rfl trivial (Wn.none rfl) rfl ?_))
   intro v4 M w H hle hR
   obtain rfl := hR
   refine MV rfl rfl ?_
   rcases b4 with _ | _
   ·
    rw [if_neg Bool.false_ne_true] at e2
    obtain ⟨b6, hx7, e2⟩ := bnd e2
    refine SG (Ex.move rfl) rfl rfl rfl (WR.call H (R_OneOf_ct hx7) rfl trivial (Wn.some rfl rfl rfl) rfl ?_)
    intro v7 M w H hle hR
    obtain rfl := hR
    refine PF rfl rfl rfl (AS rfl rfl (NL ?_))
    exact WQ.meetN [(2, _)] ⟨rfl, trivial⟩ ⟨_, _, rfl, H, e2⟩
   ·
    rw [if_pos rfl] at e2
    refine GT rfl rfl rfl (GT rfl rfl rfl (PT rfl rfl rfl (AS rfl rfl (NL ?_))))
    exact WQ.meetN [(2, _)] ⟨rfl, trivial⟩ ⟨_, _, rfl, H, e2⟩
  ·
   rintro e w ⟨b3, M, rfl, H, q8⟩
   obtain rfl := oI q8
   refine TN (RT ?_)
   obtain rfl := oI h
   exact WQ.ret1 rfl rfl H.ext rfl
theorem R_Dotted_ct {p0 : List UInt8} {p1 : Bool} {r : Bool} (h : R_Dotted p0 p1 = some r) : Ct Tryz.prog 36 [S p0, Value.bool p1] (fun M => True) (fun v M => v = Value.bool r) := by
  refine Ct.of Tryz.func36 (enters Tryz.func36 (by kernel_rfl) rfl) rfl rfl rfl ?_
  intro w0 M0 H hp
  unfold R_Dotted at h
  refine SQ (RG (AS rfl rfl (NL (TN (SQ (RG (AS rfl rfl (NL (TN (SQ (SQ (RG (AS rfl rfl (NL (TN ?_)))))))))))))))
  obtain ⟨o1, e2, h⟩ := bnd h
  refine WC.cutX (fun e w => ∃ (b3 : Bool) (M : Mem), e = [(5, Value.bool b3)] ∧ St w0 M0 M [] w ∧ some (.inl b3) = some o1) [] ?_ ?_ (trivial)
  ·
   refine BL (WC.loopP (fun m e w => ∃ (b4 : Bool) (n5 : Int) (M : Mem), e = [(0, S p0), (1, Value.bool p1), (5, Value.bool b4), (6, I n5)] ∧ St w0 M0 M [] w ∧ R_Dotted_L1 p0 p1 m b4 n5 = some o1) FU [(0, _), (1, _), (5, _), (6, _)] ⟨rfl, rfl, rfl, rfl, trivial⟩ ⟨_, _, _, rfl, H, e2⟩ ?_)
   rintro m6 e w ⟨b4, n5, M, rfl, H, e2⟩
   rcases m6 with _ | m6
   · rw [R_Dotted_L1] at e2; cases e2
   rw [R_Dotted_L1] at e2
   refine SQ (SQ (RG (MV rfl rfl (MV rfl rfl (ST (Ex.lenStr Tryz.underlying9 rfl) rfl (ST (Ex.lss rfl rfl) rfl (NL (TN ?_))))))))
   refine WC.condB rfl (fun hk7 => ?_) (fun hk7 => ?_)
   ·
    replace hk7 : n5 < (p0.length : Int) := of_decide_eq_true hk7
    rw [if_pos hk7] at e2
    refine SK (TN (SQ (BL (SQ (SQ ?_)))))
    obtain ⟨c8, hxc8, e2⟩ := bnd e2
    refine RG (MV rfl rfl (MV rfl rfl (ST (Ex.idxStrC Tryz.underlying9 rfl rfl hxc8) rfl (ST (Ex.eqlB (c := c8) (d := 46) rfl rfl) rfl (NL (TN ?_))))))
    refine WC.condB rfl (fun hk9 => ?_) (fun hk9 => ?_)
    ·
     replace hk9 : c8 = 46 := of_decide_eq_true hk9
     rw [if_pos hk9] at e2
     refine SQ (SQ (RG (MV rfl rfl (NL (TN ?_)))))
     refine WC.condB rfl (fun hk10 => ?_) (fun hk10 => ?_)
     ·
      subst hk10
      rw [if_pos rfl] at e2
      refine SQ (RG (AS rfl rfl (NL (TN (RT ?_)))))
      obtain rfl := oI e2
      try dsimp only at h
      obtain rfl := oI h
      exact WQ.ret1 rfl rfl H.ext rfl
     ·
      subst hk10
      rw [if_neg Bool.false_ne_true] at e2
      refine SK (TN (SQ (RG (AS rfl rfl (NL (TN (WC.exit (WQ.thenExit (WQ.exitHere (TN ?_))))))))))
      obtain ⟨n11, hxn11, e2⟩ := bnd e2
      refine RG (MV rfl rfl (ST (Ex.addC rfl rfl hxn11) rfl (AS rfl rfl (NL ?_))))
      exact WQ.againP m6 [(0, _), (1, _), (5, _), (6, _)] ⟨rfl, rfl, rfl, rfl, trivial⟩ ⟨_, _, _, rfl, H, e2⟩ (Nat.lt_succ_self _)
    ·
     replace hk9 : ¬ (c8 = 46) := of_decide_eq_false hk9
     rw [if_neg hk9] at e2
     refine SK (TN (SQ (SQ ?_)))
     obtain ⟨o12, e13, e2⟩ := bnd e2
     refine WC.cutX (fun e w => ∃ (b14 : Bool) (M : Mem), e = [(0, S p0), (1, Value.bool p1), (6, I n5), (38, Value.bool b14)] ∧ St w0 M0 M [] w ∧ some b14 = some o12) [] ?_ ?_ (trivial)
     ·
      obtain ⟨c15, hxc15, e13⟩ := bnd e13
      obtain ⟨b16, hx17, e13⟩ := bnd e13
      refine RG (MV rfl rfl (MV rfl rfl (ST (Ex.idxStrC Tryz.underlying9 rfl rfl hxc15) rfl (WR.call H (R_AtomByte_ct hx17) rfl trivial (Wn.none rfl) rfl ?_))))
      intro v21 M w H hle hR
      obtain rfl := hR
      refine ST (Ex.not rfl) rfl (MV rfl rfl ?_)
      rcases b16 with _ | _
      ·
       rw [if_neg Bool.false_ne_true] at e13
       refine WR.skipN 14 rfl rfl (PT rfl rfl rfl (NL ?_))
       exact WQ.meetN [(0, _), (1, _), (6, _), (38, _)] ⟨rfl, rfl, rfl, rfl, trivial⟩ ⟨_, _, rfl, H, e13⟩
      ·
       rw [if_pos rfl] at e13
       refine SG (Ex.move rfl) rfl rfl rfl (SG (Ex.move rfl) rfl rfl rfl ?_)
       rcases p1 with _ | _
       ·
        rw [if_neg Bool.false_ne_true] at e13
        refine WR.skipN 5 rfl rfl (SG (Ex.pickF rfl rfl) rfl rfl rfl (SG (Ex.move rfl) rfl rfl rfl (WR.skipN 4 rfl rfl (SG (Ex.pickF rfl rfl) rfl rfl rfl (PF rfl rfl rfl (NL ?_))))))
        exact WQ.meetN [(0, _), (1, _), (6, _), (38, _)] ⟨rfl, rfl, rfl, rfl, trivial⟩ ⟨_, _, rfl, H, e13⟩
       ·
        rw [if_pos rfl] at e13
        obtain ⟨c18, hxc18, e13⟩ := bnd e13
        obtain ⟨b19, hx20, e13⟩ := bnd e13
        refine SG (Ex.move rfl) rfl rfl rfl (SG (Ex.move rfl) rfl rfl rfl (SG (Ex.idxStrC Tryz.underlying9 rfl rfl hxc18) rfl rfl rfl (WR.call H (R_letter_ct hx20) rfl trivial (Wn.some rfl rfl rfl) rfl ?_)))
        intro v29 M w H hle hR
        obtain rfl := hR
        refine SG (Ex.not rfl) rfl rfl rfl (SG (Ex.pickT rfl rfl) rfl rfl rfl (SG (Ex.move rfl) rfl rfl rfl ?_))
        rcases b19 with _ | _
        ·
         rw [if_neg Bool.false_ne_true] at e13
         obtain ⟨c21, hxc21, e13⟩ := bnd e13
         refine SG (Ex.move rfl) rfl rfl rfl (SG (Ex.move rfl) rfl rfl rfl (SG (Ex.idxStrC Tryz.underlying9 rfl rfl hxc21) rfl rfl rfl (SG (Ex.neqB (c := c21) (d := 45) rfl rfl) rfl rfl rfl (SG (Ex.pickT rfl rfl) rfl rfl rfl (PF rfl rfl rfl (NL ?_))))))
         exact WQ.meetN [(0, _), (1, _), (6, _), (38, _)] ⟨rfl, rfl, rfl, rfl, trivial⟩ ⟨_, _, rfl, H, e13⟩
        ·
         rw [if_pos rfl] at e13
         refine WR.skipN 4 rfl rfl (SG (Ex.pickF rfl rfl) rfl rfl rfl (PF rfl rfl rfl (NL ?_)))
         exact WQ.meetN [(0, _), (1, _), (6, _), (38, _)] ⟨rfl, rfl, rfl, rfl, trivial⟩ ⟨_, _, rfl, H, e13⟩
     ·
      rintro e w ⟨b14, M, rfl, H, q22⟩
      obtain rfl := oI q22
      refine TN ?_
      refine WC.condB rfl (fun hk23 => ?_) (fun hk23 => ?_)
      ·
       subst hk23
       rw [if_pos rfl] at e2
       refine SQ (RG (AS rfl rfl (NL (TN (RT ?_)))))
       obtain rfl := oI e2
       try dsimp only at h
       obtain rfl := oI h
       exact WQ.ret1 rfl rfl H.ext rfl
      ·
       subst hk23
       rw [if_neg Bool.false_ne_true] at e2
       refine SK (TN (RG (AS rfl rfl (NL (IB (TN ?_))))))
       obtain ⟨n24, hxn24, e2⟩ := bnd e2
       refine RG (MV rfl rfl (ST (Ex.addC rfl rfl hxn24) rfl (AS rfl rfl (NL ?_))))
       exact WQ.againP m6 [(0, _), (1, _), (5, _), (6, _)] ⟨rfl, rfl, rfl, rfl, trivial⟩ ⟨_, _, _, rfl, H, e2⟩ (Nat.lt_succ_self _)
   ·
    replace hk7 : ¬ (n5 < (p0.length : Int)) := of_decide_eq_false hk7
    rw [if_neg hk7] at e2
    refine WC.exit (WQ.thenExit (WQ.thenExit (WQ.exitHere ?_)))
    exact WQ.meetN [(5, _)] ⟨rfl, trivial⟩ ⟨_, _, rfl, H, e2⟩
  ·
   rintro e w ⟨b3, M, rfl, H, q25⟩
   obtain rfl := oI q25
   try dsimp only at h
   refine TN (SQ (RG (MV rfl rfl (ST (Ex.not rfl) rfl (AS rfl rfl (NL (TN (RT ?_))))))))
   obtain rfl := oI h
   exact WQ.ret1 rfl rfl H.ext rfl
theorem R_AddressFault_ct {p0 : (List UInt8 × List UInt8 × List UInt8)} {r : (Int × Int)} (h : R_AddressFault p0 = some r) : Ct Tryz.prog 11 [Value.agg #[S p0.1, S p0.2.1, S p0.2.2]] (fun M => True) (fun v M => v = Value.agg #[I r.1, I r.2]) := by
  refine Ct.of Tryz.func11 (enters Tryz.func11 (by kernel_rfl) rfl) rfl rfl rfl ?_
  intro w0 M0 H hp
  unfold R_AddressFault at h
  refine SQ (RG (WR.box [_, _, _] H rfl rfl (Wn.none rfl) rfl ?_))
  intro bk1 w H
  refine WR.alloc [_, _] H Tryz.zeroValue27 rfl (Wn.none rfl) rfl ?_
  intro bk2 w H
  refine NL (TN (SQ (SQ ?_)))
  obtain ⟨n1, hx2, h⟩ := bnd h
  refine RG (ST (Ex.fieldAddr Tryz.underlying24 rfl Tryz.sizeOf9 (by decide) rfl) rfl (ST (Ex.load1 H rfl (by repeat first | exact kMh | apply kMt) Tryz.isAgg9 (by rfl)) rfl ?_))
  refine WR.call H (R_displayCode_ct hx2) rfl trivial (Wn.none rfl) rfl ?_
  intro v5 M w H hle hR
  obtain rfl := hR
  refine ST (Ex.neqC rfl rfl) rfl (NL (TN ?_))
  refine WC.condB rfl (fun hk3 => ?_) (fun hk3 => ?_)
  ·
   replace hk3 : ¬ (n1 = (0 : Int)) := of_not_decide hk3
   rw [if_neg hk3] at h
   refine SQ ?_
   obtain ⟨n4, hx5, h⟩ := bnd h
   obtain ⟨⟨n6, n7⟩, hx8, h⟩ := bnd h
   try dsimp only at h
   refine RG (ST (Ex.fieldAddr Tryz.underlying24 rfl Tryz.sizeOf9 (by decide) rfl) rfl (ST (Ex.load1 H rfl (by repeat first | exact kMh | apply kMt) Tryz.isAgg9 (by rfl)) rfl ?_))
   refine WR.call H (R_displayCode_ct hx5) rfl trivial (Wn.none rfl) rfl ?_
   intro v9 M w H hle hR
   obtain rfl := hR
   refine WR.call H (R_At_ct hx8) rfl trivial (Wn.none rfl) rfl ?_
   intro v10 M w H hle hR
   try dsimp only at hR
   obtain rfl := hR
   refine WR.store [_, _] H rfl rfl rfl (by repeat first | exact .head | apply Upd.tail) Tryz.sizeOf27 rfl (by rfl) (by rfl) (Wn.none rfl) ?_
   intro w H
   refine NL (TN (RT ?_))
   obtain rfl := oI h
   exact WQ.ret1 rfl ⟨_, rfl, H.loadAgg (by repeat first | exact kMh | apply kMt) Tryz.isAgg27 Tryz.sizeOf27 (by rfl)⟩ H.ext rfl
  ·
   replace hk3 : n1 = (0 : Int) := of_not_decide' hk3
   rw [if_pos hk3] at h
   refine SK (TN (SQ (SQ ?_)))
   obtain ⟨b9, hx10, h⟩ := bnd h
   refine RG (ST (Ex.fieldAddr Tryz.underlying24 rfl Tryz.sizeOf9 (by decide) rfl) rfl (ST (Ex.load1 H rfl (by repeat first | exact kMh | apply kMt) Tryz.isAgg9 (by rfl)) rfl ?_))
   refine WR.call H (R_LocalPart_ct hx10) rfl trivial (Wn.none rfl) rfl ?_
   intro v13 M w H hle hR
   obtain rfl := hR
   refine ST (Ex.not rfl) rfl (NL (TN ?_))
   refine WC.condB rfl (fun hk11 => ?_) (fun hk11 => ?_)
   ·
    replace hk11 : b9 = false := by simpa using hk11
    subst hk11
    rw [if_neg Bool.false_ne_true] at h
    refine SQ ?_
    obtain ⟨⟨n12, n13⟩, hx14, h⟩ := bnd h
    try dsimp only at h
    refine RG (WR.call H (R_At_ct hx14) rfl trivial (Wn.none rfl) rfl ?_)
    intro v15 M w H hle hR
    try dsimp only at hR
    obtain rfl := hR
    refine WR.store [_, _] H rfl rfl rfl (by repeat first | exact .head | apply Upd.tail) Tryz.sizeOf27 rfl (by rfl) (by rfl) (Wn.none rfl) ?_
    intro w H
    refine NL (TN (RT ?_))
    obtain rfl := oI h
    exact WQ.ret1 rfl ⟨_, rfl, H.loadAgg (by repeat first | exact kMh | apply kMt) Tryz.isAgg27 Tryz.sizeOf27 (by rfl)⟩ H.ext rfl
   ·
    replace hk11 : b9 = true := by simpa using hk11
    subst hk11
    rw [if_pos rfl] at h
    refine SK (TN (SQ (SQ ?_)))
    obtain ⟨o15, e16, h⟩ := bnd h
    refine WC.cutX (fun e w => ∃ (b17 : Bool) (M : Mem), e = [(2, ptr bk2 0), (25, Value.bool b17)] ∧ St w0 M0 M [.blk bk2 (.cells #[I 0, I 0] 27)] w ∧ some b17 = some o15) [] ?_ ?_ (trivial)
    ·
     refine RG (ST (Ex.fieldAddr Tryz.underlying24 rfl Tryz.sizeOf9 (by decide) rfl) rfl (ST (Ex.load1 H rfl (by repeat first | exact kMh | apply kMt) Tryz.isAgg9 (by rfl)) rfl ?_))
     refine ST (Ex.lenStr Tryz.underlying9 rfl) rfl ?_
     by_cases hk18 : (60 : Int) < (p0.2.2.length : Int)
     ·
      rw [if_pos hk18] at e16
      refine WR.stepE (v' := .bool true) (Ex.gtr rfl rfl) (congrArg Value.bool (decide_eq_true hk18)) (Wn.none rfl) rfl rfl (MV rfl rfl (WR.skipN 4 rfl rfl (PT rfl rfl rfl (NL ?_))))
      exact WQ.meetN [(2, _), (25, _)] ⟨rfl, rfl, trivial⟩ ⟨_, _, rfl, (H.pick (L' := [.blk bk2 (.cells #[I 0, I 0] 27)]) (by repeat first | exact kPn | refine kPc (by repeat first | exact .head | apply Rem.tail) ?_)), e16⟩
     ·
      rw [if_neg hk18] at e16
      obtain ⟨b19, hx20, e16⟩ := bnd e16
      refine WR.stepE (v' := .bool false) (Ex.gtr rfl rfl) (congrArg Value.bool (decide_eq_false hk18)) (Wn.none rfl) rfl rfl (MV rfl rfl (SG (Ex.fieldAddr Tryz.underlying24 rfl Tryz.sizeOf9 (by decide) rfl) rfl rfl rfl (SG (Ex.load1 H rfl (by repeat first | exact kMh | apply kMt) Tryz.isAgg9 (by rfl)) rfl rfl rfl ?_)))
      refine WR.call H (R_Dotted_ct hx20) rfl trivial (Wn.some rfl rfl rfl) rfl ?_
      intro v23 M w H hle hR
      obtain rfl := hR
      refine SG (Ex.not rfl) rfl rfl rfl (PF rfl rfl rfl (NL ?_))
      exact WQ.meetN [(2, _), (25, _)] ⟨rfl, rfl, trivial⟩ ⟨_, _, rfl, (H.pick (L' := [.blk bk2 (.cells #[I 0, I 0] 27)]) (by repeat first | exact kPn | refine kPc (by repeat first | exact .head | apply Rem.tail) ?_)), e16⟩
    ·
     rintro e w ⟨b17, M, rfl, H, q21⟩
     obtain rfl := oI q21
     refine TN ?_
     refine WC.condB rfl (fun hk22 => ?_) (fun hk22 => ?_)
     ·
      subst hk22
      rw [if_pos rfl] at h
      refine SQ ?_
      obtain ⟨⟨n23, n24⟩, hx25, h⟩ := bnd h
      try dsimp only at h
      refine RG (WR.call H (R_At_ct hx25) rfl trivial (Wn.none rfl) rfl ?_)
      intro v26 M w H hle hR
      try dsimp only at hR
      obtain rfl := hR
      refine WR.store [_, _] H rfl rfl rfl (by repeat first | exact .head | apply Upd.tail) Tryz.sizeOf27 rfl (by rfl) (by rfl) (Wn.none rfl) ?_
      intro w H
      refine NL (TN (RT ?_))
      obtain rfl := oI h
      exact WQ.ret1 rfl ⟨_, rfl, H.loadAgg (by repeat first | exact kMh | apply kMt) Tryz.isAgg27 Tryz.sizeOf27 (by rfl)⟩ H.ext rfl
     ·
      subst hk22
      rw [if_neg Bool.false_ne_true] at h
      refine SK (TN (SQ (RG (ST (Ex.build [I 0, I 0] Tryz.underlying27 Tryz.zeroValue27 (xplaces27 Tryz.underlying27) rfl rfl) rfl (WR.store [_, _] H rfl rfl rfl (by repeat first | exact .head | apply Upd.tail) Tryz.sizeOf27 rfl (by rfl) (by rfl) (Wn.none rfl) ?_)))))
      intro w H
      refine NL (TN (RT ?_))
      obtain rfl := oI h
      exact WQ.ret1 rfl ⟨_, rfl, H.loadAgg (by repeat first | exact kMh | apply kMt) Tryz.isAgg27 Tryz.sizeOf27 (by rfl)⟩ H.ext rfl
theorem R_SameAddresses_ct {p0 : List (List UInt8 × List UInt8 × List UInt8)} {p1 : List (List UInt8 × List UInt8 × List UInt8)} {vp0 : Value} {vp1 : Value} {r : Bool} (h : R_SameAddresses p0 p1 = some r) : Ct Tryz.prog 15 [vp0, vp1] (fun M => SlS M 3 xenc24 vp0 p0 ∧ SlS M 3 xenc24 vp1 p1) (fun v M => v = Value.bool r) := by
  refine Ct.of Tryz.func15 (enters Tryz.func15 (by kernel_rfl) rfl) rfl rfl rfl ?_
  intro w0 M0 H hp
  obtain ⟨hp0, hp1⟩ := hp
  unfold R_SameAddresses at h
  refine SQ (RG (AS rfl rfl (NL (TN (SQ (SQ (RG (MV rfl rfl (ST (Ex.lenSlS Tryz.underlying30 hp0 rfl) rfl (MV rfl rfl (ST (Ex.lenSlS Tryz.underlying30 hp1 rfl) rfl (ST (Ex.neqC rfl rfl) rfl (NL (TN ?_))))))))))))))
  refine WC.condB rfl (fun hk1 => ?_) (fun hk1 => ?_)
  ·
   replace hk1 : ¬ ((p0.length : Int) = (p1.length : Int)) := of_not_decide hk1
   rw [if_neg hk1] at h
   refine SQ (RG (AS rfl rfl (NL (TN (RT ?_)))))
   obtain rfl := oI h
   exact WQ.ret1 rfl rfl H.ext rfl
  ·
   replace hk1 : (p0.length : Int) = (p1.length : Int) := of_not_decide' hk1
   rw [if_pos hk1] at h
   refine SK (TN (SQ (SQ (RG (AS rfl rfl (NL (TN ?_)))))))
   obtain ⟨o2, e3, h⟩ := bnd h
   refine WC.cutX (fun e w => ∃  (M : Mem), e = [] ∧ St w0 M0 M [] w ∧ some (.inl ()) = some o2) [] ?_ ?_ (trivial)
   ·
    refine BL (WC.loopP (fun m e w => ∃ (n4 : Int) (M : Mem), e = [(0, vp0), (1, vp1), (5, I n4)] ∧ St w0 M0 M [] w ∧ SlS M 3 xenc24 vp0 p0 ∧ SlS M 3 xenc24 vp1 p1 ∧ R_SameAddresses_L1 p0 p1 m n4 = some o2) FU [(0, _), (1, _), (5, _)] ⟨rfl, rfl, rfl, trivial⟩ ⟨_, _, rfl, H, hp0, hp1, e3⟩ ?_)
    rintro m5 e w ⟨n4, M, rfl, H, hp0, hp1, e3⟩
    rcases m5 with _ | m5
    · rw [R_SameAddresses_L1] at e3; cases e3
    rw [R_SameAddresses_L1] at e3
    refine SQ (SQ (RG (MV rfl rfl (MV rfl rfl (ST (Ex.lenSlS Tryz.underlying30 hp0 rfl) rfl (ST (Ex.lss rfl rfl) rfl (NL (TN ?_))))))))
    refine WC.condB rfl (fun hk6 => ?_) (fun hk6 => ?_)
    ·
     replace hk6 : n4 < (p0.length : Int) := of_decide_eq_true hk6
     rw [if_pos hk6] at e3
     refine SK (TN (SQ (BL (SQ ?_))))
     obtain ⟨a7, hxa7, e3⟩ := bnd e3
     obtain ⟨bk19, o19, ha19, hc19⟩ := hp0.atC hxa7
     obtain ⟨a8, hxa8, e3⟩ := bnd e3
     obtain ⟨bk23, o23, ha23, hc23⟩ := hp1.atC hxa8
     refine WC.draw (m := 9) rfl rfl H ?_
     intro w H
     refine WA.take (i := 0) rfl (by kernel_rfl) (by kernel_rfl) (by kernel_rfl) (fun _ => Ex.move rfl) (Wn.none rfl) rfl rfl (fun _ _ => rfl) (WA.take (i := 1) rfl (by kernel_rfl) (by kernel_rfl) (by kernel_rfl) (fun _ => Ex.move rfl) (Wn.none rfl) rfl rfl (fun _ _ => rfl) (WA.take (i := 2) rfl (by kernel_rfl) (by kernel_rfl) (by kernel_rfl) (fun _ => Ex.idxAt ha19 Tryz.underlying30 Tryz.sizeOf24 rfl rfl) (Wn.none rfl) rfl rfl (fun _ _ => rfl) (WA.take (i := 4) rfl (by kernel_rfl) (by kernel_rfl) (by kernel_rfl) (fun _ => Ex.move rfl) (Wn.none rfl) rfl rfl (fun _ _ => rfl) (WA.take (i := 5) rfl (by kernel_rfl) (by kernel_rfl) (by kernel_rfl) (fun _ => Ex.move rfl) (Wn.none rfl) rfl rfl (fun _ _ => rfl) (WA.take (i := 6) rfl (by kernel_rfl) (by kernel_rfl) (by kernel_rfl) (fun _ => Ex.idxAt ha23 Tryz.underlying30 Tryz.sizeOf24 rfl rfl) (Wn.none rfl) rfl rfl (fun _ _ => rfl) (WA.takeM (i := 3) [7] rfl (by kernel_rfl) (by kernel_rfl) (by kernel_rfl) (Ex.loadAggM H rfl hc19 Tryz.isAgg24 Tryz.sizeOf24 (by rfl)) (Wn.none rfl) rfl rfl (fun _ _ => rfl) ?_))))))
     refine WA.seq (fuel := 0) [7, 8] rfl (by kernel_rfl) (ST (Ex.loadAggM H rfl hc23 Tryz.isAgg24 Tryz.sizeOf24 (by rfl)) rfl ?_)
     refine ST (Ex.neqAggC rfl rfl (by kernel_rfl) (xeq24 a7.1 a8.1 a7.2.1 a8.2.1 a7.2.2 a8.2.2)) rfl (NA (WA.done (by kernel_rfl) (TN ?_)))
     refine WC.condB rfl (fun hk9 => ?_) (fun hk9 => ?_)
     ·
      replace hk9 : ¬ (a7.1 = a8.1 ∧ a7.2.1 = a8.2.1 ∧ a7.2.2 = a8.2.2) := of_not_decide hk9
      rw [if_neg hk9] at e3
      refine SQ (RG (AS rfl rfl (NL (TN (RT ?_)))))
      obtain rfl := oI e3
      try dsimp only at h
      obtain rfl := oI h
      exact WQ.ret1 rfl rfl H.ext rfl
     ·
      replace hk9 : a7.1 = a8.1 ∧ a7.2.1 = a8.2.1 ∧ a7.2.2 = a8.2.2 := of_not_decide' hk9
      rw [if_pos hk9] at e3
      refine SK (IB (TN ?_))
      obtain ⟨n10, hxn10, e3⟩ := bnd e3
      refine RG (MV rfl rfl (ST (Ex.addC rfl rfl hxn10) rfl (AS rfl rfl (NL ?_))))
      exact WQ.againP m5 [(0, _), (1, _), (5, _)] ⟨rfl, rfl, rfl, trivial⟩ ⟨_, _, rfl, H, hp0, hp1, e3⟩ (Nat.lt_succ_self _)
    ·
     replace hk6 : ¬ (n4 < (p0.length : Int)) := of_decide_eq_false hk6
     rw [if_neg hk6] at e3
     refine WC.exit (WQ.thenExit (WQ.thenExit (WQ.exitHere ?_)))
     exact WQ.meetN [] trivial ⟨_, rfl, H, e3⟩
   ·
    rintro e w ⟨M, rfl, H, q11⟩
    obtain rfl := oI q11
    try dsimp only at h
    refine TN (SQ (RG (AS rfl rfl (NL (TN (RT ?_))))))
    obtain rfl := oI h
    exact WQ.ret1 rfl rfl H.ext rfl
theorem R_Quote_ct {p0 : List UInt8} {r : List UInt8} (h : R_Quote p0 = some r) : Ct Tryz.prog 57 [S p0] (fun M => True) (fun v M => v = S r) := by
  refine Ct.of Tryz.func57 (enters Tryz.func57 (by kernel_rfl) rfl) rfl rfl rfl ?_
  intro w0 M0 H hp
  unfold R_Quote at h
  refine SQ (RG (AS rfl rfl (NL (TN (SQ (RG (AS rfl rfl (NL (TN (SQ (SQ (RG (AS rfl rfl (NL (TN ?_)))))))))))))))
  obtain ⟨o1, e2, h⟩ := bnd h
  refine WC.cutX (fun e w => ∃ (s3 : List UInt8) (M : Mem), e = [(3, S s3)] ∧ St w0 M0 M [] w ∧ some s3 = some o1) [] ?_ ?_ (trivial)
  ·
   refine BL (WC.loopP (fun m e w => ∃ (s4 : List UInt8) (n5 : Int) (M : Mem), e = [(0, S p0), (3, S s4), (4, I n5)] ∧ St w0 M0 M [] w ∧ R_Quote_L1 p0 m s4 n5 = some o1) FU [(0, _), (3, _), (4, _)] ⟨rfl, rfl, rfl, trivial⟩ ⟨_, _, _, rfl, H, e2⟩ ?_)
   rintro m6 e w ⟨s4, n5, M, rfl, H, e2⟩
   rcases m6 with _ | m6
   · rw [R_Quote_L1] at e2; cases e2
   rw [R_Quote_L1] at e2
   refine SQ (SQ (RG (MV rfl rfl (MV rfl rfl (ST (Ex.lenStr Tryz.underlying9 rfl) rfl (ST (Ex.lss rfl rfl) rfl (NL (TN ?_))))))))
   refine WC.condB rfl (fun hk7 => ?_) (fun hk7 => ?_)
   ·
    replace hk7 : n5 < (p0.length : Int) := of_decide_eq_true hk7
    rw [if_pos hk7] at e2
    refine SK (TN (SQ (BL (SQ (SQ ?_)))))
    obtain ⟨o8, e9, e2⟩ := bnd e2
    refine WC.cutX (fun e w => ∃ (b10 : Bool) (M : Mem), e = [(0, S p0), (3, S s4), (4, I n5), (20, Value.bool b10)] ∧ St w0 M0 M [] w ∧ some b10 = some o8) [] ?_ ?_ (trivial)
    ·
     obtain ⟨c11, hxc11, e9⟩ := bnd e9
     refine RG (MV rfl rfl (MV rfl rfl (ST (Ex.idxStrC Tryz.underlying9 rfl rfl hxc11) rfl ?_)))
     by_cases hk12 : c11 = 34
     ·
      rw [if_pos hk12] at e9
      refine WR.stepE (v' := .bool true) (Ex.eqlB (c := c11) (d := 34) rfl rfl) (congrArg Value.bool (decide_eq_true hk12)) (Wn.none rfl) rfl rfl (MV rfl rfl (WR.skipN 4 rfl rfl (PT rfl rfl rfl (NL ?_))))
      exact WQ.meetN [(0, _), (3, _), (4, _), (20, _)] ⟨rfl, rfl, rfl, rfl, trivial⟩ ⟨_, _, rfl, H, e9⟩
     ·
      rw [if_neg hk12] at e9
      obtain ⟨c13, hxc13, e9⟩ := bnd e9
      refine WR.stepE (v' := .bool false) (Ex.eqlB (c := c11) (d := 34) rfl rfl) (congrArg Value.bool (decide_eq_false hk12)) (Wn.none rfl) rfl rfl (MV rfl rfl (SG (Ex.move rfl) rfl rfl rfl (SG (Ex.move rfl) rfl rfl rfl (SG (Ex.idxStrC Tryz.underlying9 rfl rfl hxc13) rfl rfl rfl (SG (Ex.eqlB (c := c13) (d := 92) rfl rfl) rfl rfl rfl (PF rfl rfl rfl (NL ?_)))))))
      exact WQ.meetN [(0, _), (3, _), (4, _), (20, _)] ⟨rfl, rfl, rfl, rfl, trivial⟩ ⟨_, _, rfl, H, e9⟩
    ·
     rintro e w ⟨b10, M, rfl, H, q14⟩
     obtain rfl := oI q14
     refine TN ?_
     obtain ⟨o15, e16, e2⟩ := bnd e2
     refine WC.cutX (fun e w => ∃ (s17 : List UInt8) (M : Mem), e = [(0, S p0), (3, S s17), (4, I n5)] ∧ St w0 M0 M [] w ∧ some s17 = some o15) [] ?_ ?_ (trivial)
     ·
      refine WC.condB rfl (fun hk18 => ?_) (fun hk18 => ?_)
      ·
       subst hk18
       rw [if_pos rfl] at e16
       obtain ⟨s19, hxs19, e16⟩ := bnd e16
       refine RG (MV rfl rfl (ST (Ex.strAddC rfl rfl hxs19) rfl (AS rfl rfl (NL ?_))))
       exact WQ.meetN [(0, _), (3, _), (4, _)] ⟨rfl, rfl, rfl, trivial⟩ ⟨_, _, rfl, H, e16⟩
      ·
       subst hk18
       rw [if_neg Bool.false_ne_true] at e16
       refine SK ?_
       exact WQ.meetN [(0, _), (3, _), (4, _)] ⟨rfl, rfl, rfl, trivial⟩ ⟨_, _, rfl, H, e16⟩
     ·
      rintro e w ⟨s17, M, rfl, H, q20⟩
      obtain rfl := oI q20
      refine TN ?_
      obtain ⟨n21, hxn21, e2⟩ := bnd e2
      obtain ⟨s22, hxs22, e2⟩ := bnd e2
      obtain ⟨s23, hxs23, e2⟩ := bnd e2
      refine RG (MV rfl rfl (MV rfl rfl (MV rfl rfl (MV rfl rfl (ST (Ex.addC rfl rfl hxn21) rfl (ST (Ex.sliceC Tryz.underlying9 rfl rfl rfl hxs22) rfl (ST (Ex.strAddC rfl rfl hxs23) rfl (AS rfl rfl (NL (IB (TN ?_)))))))))))
      obtain ⟨n24, hxn24, e2⟩ := bnd e2
      refine RG (MV rfl rfl (ST (Ex.addC rfl rfl hxn24) rfl (AS rfl rfl (NL ?_))))
      exact WQ.againP m6 [(0, _), (3, _), (4, _)] ⟨rfl, rfl, rfl, trivial⟩ ⟨_, _, _, rfl, H, e2⟩ (Nat.lt_succ_self _)
   ·
    replace hk7 : ¬ (n5 < (p0.length : Int)) := of_decide_eq_false hk7
    rw [if_neg hk7] at e2
    refine WC.exit (WQ.thenExit (WQ.thenExit (WQ.exitHere ?_)))
    exact WQ.meetN [(3, _)] ⟨rfl, trivial⟩ ⟨_, _, rfl, H, e2⟩
  ·
   rintro e w ⟨s3, M, rfl, H, q25⟩
   obtain rfl := oI q25
   refine TN (SQ ?_)
   obtain ⟨s26, hxs26, h⟩ := bnd h
   refine RG (MV rfl rfl (ST (Ex.strAddC rfl rfl hxs26) rfl (AS rfl rfl (NL (TN (RT ?_))))))
   obtain rfl := oI h
   exact WQ.ret1 rfl rfl H.ext rfl
theorem R_SpecOf_ct {p0 : (List UInt8 × List UInt8 × List UInt8)} {r : List UInt8} (h : R_SpecOf p0 = some r) : Ct Tryz.prog 25 [Value.agg #[S p0.1, S p0.2.1, S p0.2.2]] (fun M => True) (fun v M => v = S r) := by
  refine Ct.of Tryz.func25 (enters Tryz.func25 (by kernel_rfl) rfl) rfl rfl rfl ?_
  intro w0 M0 H hp
  unfold R_SpecOf at h
  refine SQ (RG (WR.box [_, _, _] H rfl rfl (Wn.none rfl) rfl ?_))
  intro bk1 w H
  refine AS rfl rfl (NL (TN (SQ (SQ ?_))))
  obtain ⟨b1, hx2, h⟩ := bnd h
  refine RG (ST (Ex.fieldAddr Tryz.underlying24 rfl Tryz.sizeOf9 (by decide) rfl) rfl (ST (Ex.load1 H rfl (by repeat first | exact kMh | apply kMt) Tryz.isAgg9 (by rfl)) rfl ?_))
  refine WR.call H (R_Dotted_ct hx2) rfl trivial (Wn.none rfl) rfl ?_
  intro v5 M w H hle hR
  obtain rfl := hR
  refine NL (TN ?_)
  refine WC.condB rfl (fun hk3 => ?_) (fun hk3 => ?_)
  ·
   subst hk3
   rw [if_pos rfl] at h
   refine SQ ?_
   obtain ⟨s4, hxs4, h⟩ := bnd h
   obtain ⟨s5, hxs5, h⟩ := bnd h
   refine RG (ST (Ex.fieldAddr Tryz.underlying24 rfl Tryz.sizeOf9 (by decide) rfl) rfl (ST (Ex.load1 H rfl (by repeat first | exact kMh | apply kMt) Tryz.isAgg9 (by rfl)) rfl ?_))
   refine ST (Ex.strAddC rfl rfl hxs4) rfl (ST (Ex.fieldAddr Tryz.underlying24 rfl Tryz.sizeOf9 (by decide) rfl) rfl (ST (Ex.load1 H rfl (by repeat first | exact kMh | apply kMt) Tryz.isAgg9 (by rfl)) rfl ?_))
   refine ST (Ex.strAddC rfl rfl hxs5) rfl (AS rfl rfl (NL (TN (RT ?_))))
   obtain rfl := oI h
   exact WQ.ret1 rfl rfl H.ext rfl
  ·
   subst hk3
   rw [if_neg Bool.false_ne_true] at h
   refine SK (TN (SQ ?_))
   obtain ⟨s6, hx7, h⟩ := bnd h
   obtain ⟨s8, hxs8, h⟩ := bnd h
   obtain ⟨s9, hxs9, h⟩ := bnd h
   refine WC.cutP (fun e w => ∃  (M : Mem), e = [(2, S s9)] ∧ St w0 M0 M [] w) ?_ ?_
   ·
    refine WC.draw (m := 8) rfl rfl H ?_
    intro w H
    refine WA.take (i := 0) rfl (by kernel_rfl) (by kernel_rfl) (by kernel_rfl) (fun _ => Ex.fieldAddr Tryz.underlying24 rfl Tryz.sizeOf9 (by decide) rfl) (Wn.none rfl) rfl rfl (fun _ _ => rfl) (WA.take (i := 4) rfl (by kernel_rfl) (by kernel_rfl) (by kernel_rfl) (fun _ => Ex.fieldAddr Tryz.underlying24 rfl Tryz.sizeOf9 (by decide) rfl) (Wn.none rfl) rfl rfl (fun _ _ => rfl) (WA.takeM (i := 1) [5] rfl (by kernel_rfl) (by kernel_rfl) (by kernel_rfl) (Ex.load1 H rfl (by repeat first | exact kMh | apply kMt) Tryz.isAgg9 (by rfl)) (Wn.none rfl) rfl rfl (fun _ _ => rfl) ?_))
    refine WA.two (i := 2) (j := 5) (by kernel_rfl) rfl rfl ?_ ?_
    ·
     refine WR.call H (R_Quote_ct hx7) rfl trivial (Wn.none rfl) rfl ?_
     intro v14 M w H hle hR
     obtain rfl := hR
     refine NA (WA.take (i := 3) rfl (by kernel_rfl) (by kernel_rfl) (by kernel_rfl) (fun _ => Ex.strAddC rfl rfl hxs8) (Wn.none rfl) rfl rfl (fun _ _ => rfl) (WA.seq (fuel := 0) [5, 6, 7] rfl (by kernel_rfl) (ST (Ex.load1 H rfl (by repeat first | exact kMh | apply kMt) Tryz.isAgg9 (by rfl)) rfl ?_)))
     refine ST (Ex.strAddC rfl rfl hxs9) rfl (AS rfl rfl (NA (WA.done (by kernel_rfl) ?_)))
     exact WQ.meetP [(2, _)] ⟨rfl, trivial⟩ ⟨_, rfl, (H.pick (L' := []) (by repeat first | exact kPn | refine kPc (by repeat first | exact .head | apply Rem.tail) ?_))⟩
    ·
     refine ST (Ex.load1 H rfl (by repeat first | exact kMh | apply kMt) Tryz.isAgg9 (by rfl)) rfl ?_
     refine NA (WA.seq (fuel := 0) [2, 3, 6, 7] rfl (by kernel_rfl) (WR.call H (R_Quote_ct hx7) rfl trivial (Wn.none rfl) rfl ?_))
     intro v14 M w H hle hR
     obtain rfl := hR
     refine ST (Ex.strAddC rfl rfl hxs8) rfl (ST (Ex.strAddC rfl rfl hxs9) rfl (AS rfl rfl (NA (WA.done (by kernel_rfl) ?_))))
     exact WQ.meetP [(2, _)] ⟨rfl, trivial⟩ ⟨_, rfl, (H.pick (L' := []) (by repeat first | exact kPn | refine kPc (by repeat first | exact .head | apply Rem.tail) ?_))⟩
   ·
    rintro e w ⟨M, rfl, H⟩
    refine TN (RT ?_)
    obtain rfl := oI h
    exact WQ.ret1 rfl rfl H.ext rfl
end Go.Proofs.YtkmjdamkifbddaaGreatDoor
end
