/-
  Hct3, Hct4, Open, Opf: own texts of this repository (wip/tpl, wip/plans), merged and shaken by wip/tools/pack.py.
-/
import Derived.KernelRfl
import Derived.Deep.Slices
import Derived.ChangeMaps5
import Derived.ChangeSame
import Derived.Test.YtogkmhjnojphiaaGreatDoorE4c
set_option maxRecDepth 100000
section
set_option maxRecDepth 100000
set_option linter.unusedVariables false
set_option linter.unusedSimpArgs false
namespace Go.Proofs.YtogkmhjnojphiaaGreatDoor
open Go Go.RowKit Go.Ph Go.Ph.Pl Go.Ph.Pf
theorem R_FieldName_ct {p0 : List UInt8} {r : Bool} (h : R_FieldName p0 = some r) : Ct Tryz.prog 30 [S p0] (fun M => True) (fun v M => v = Value.bool r) := by
  refine Ct.of Tryz.func30 (enters Tryz.func30 (by kernel_rfl) rfl) rfl rfl rfl ?_
  intro w0 M0 H hp
  unfold R_FieldName at h
  refine SQ (RG (AS rfl rfl (NL (TN (SQ (SQ (RG (AS rfl rfl (NL (TN ?_))))))))))
  obtain ⟨o1, e2, h⟩ := bnd h
  refine WC.cutX (fun e w => ∃  (M : Mem), e = [(0, S p0)] ∧ St w0 M0 M [] w ∧ some (.inl ()) = some o1) [] ?_ ?_ (trivial)
  ·
   refine BL (WC.loopP (fun m e w => ∃ (n3 : Int) (M : Mem), e = [(0, S p0), (3, I n3)] ∧ St w0 M0 M [] w ∧ R_FieldName_L1 p0 m n3 = some o1) FU [(0, _), (3, _)] ⟨rfl, rfl, trivial⟩ ⟨_, _, rfl, H, e2⟩ ?_)
   rintro m4 e w ⟨n3, M, rfl, H, e2⟩
   rcases m4 with _ | m4
   · rw [R_FieldName_L1] at e2; cases e2
   rw [R_FieldName_L1] at e2
   refine SQ (SQ (RG (MV rfl rfl (MV rfl rfl (ST (Ex.lenStr Tryz.underlying9 rfl) rfl (ST (Ex.lss rfl rfl) rfl (NL (TN ?_))))))))
   refine WC.condB rfl (fun hk5 => ?_) (fun hk5 => ?_)
   ·
    replace hk5 : n3 < (p0.length : Int) := of_decide_eq_true hk5
    rw [if_pos hk5] at e2
    refine SK (TN (SQ (BL (SQ ?_))))
    obtain ⟨o6, e7, e2⟩ := bnd e2
    refine WC.cutX (fun e w => ∃ (b8 : Bool) (M : Mem), e = [(0, S p0), (3, I n3), (21, Value.bool b8)] ∧ St w0 M0 M [] w ∧ some b8 = some o6) [] ?_ ?_ (trivial)
    ·
     obtain ⟨c9, hxc9, e7⟩ := bnd e7
     obtain ⟨b10, hx11, e7⟩ := bnd e7
     refine RG (MV rfl rfl (MV rfl rfl (ST (Ex.idxStrC Tryz.underlying9 rfl rfl hxc9) rfl (ST (Ex.convB Tryz.underlying5 Tryz.underlying3 rfl) rfl (WR.call H (R_In_ct hx11) rfl trivial (Wn.none rfl) rfl ?_)))))
     intro v14 M w H hle hR
     obtain rfl := hR
     refine ST (Ex.not rfl) rfl (MV rfl rfl ?_)
     rcases b10 with _ | _
     ·
      rw [if_neg Bool.false_ne_true] at e7
      refine WR.skipN 4 rfl rfl (PT rfl rfl rfl (NL ?_))
      exact WQ.meetN [(0, _), (3, _), (21, _)] ⟨rfl, rfl, rfl, trivial⟩ ⟨_, _, rfl, H, e7⟩
     ·
      rw [if_pos rfl] at e7
      obtain ⟨c12, hxc12, e7⟩ := bnd e7
      refine SG (Ex.move rfl) rfl rfl rfl (SG (Ex.move rfl) rfl rfl rfl (SG (Ex.idxStrC Tryz.underlying9 rfl rfl hxc12) rfl rfl rfl (SG (Ex.eqlB (c := c12) (d := 58) rfl rfl) rfl rfl rfl (PF rfl rfl rfl (NL ?_)))))
      exact WQ.meetN [(0, _), (3, _), (21, _)] ⟨rfl, rfl, rfl, trivial⟩ ⟨_, _, rfl, H, e7⟩
    ·
     rintro e w ⟨b8, M, rfl, H, q13⟩
     obtain rfl := Option.some.inj q13
     refine TN ?_
     refine WC.condB rfl (fun hk14 => ?_) (fun hk14 => ?_)
     ·
      subst hk14
      rw [if_pos rfl] at e2
      refine SQ (RG (AS rfl rfl (NL (TN (RT ?_)))))
      obtain rfl := Option.some.inj e2
      try dsimp only at h
      obtain rfl := Option.some.inj h
      exact WQ.ret1 rfl rfl H.ext rfl
     ·
      subst hk14
      rw [if_neg Bool.false_ne_true] at e2
      refine SK (IB (TN ?_))
      obtain ⟨n15, hxn15, e2⟩ := bnd e2
      refine RG (MV rfl rfl (ST (Ex.addC rfl rfl hxn15) rfl (AS rfl rfl (NL ?_))))
      exact WQ.againP m4 [(0, _), (3, _)] ⟨rfl, rfl, trivial⟩ ⟨_, _, rfl, H, e2⟩ (Nat.lt_succ_self _)
   ·
    replace hk5 : ¬ (n3 < (p0.length : Int)) := of_decide_eq_false hk5
    rw [if_neg hk5] at e2
    refine WC.exit (WQ.thenExit (WQ.thenExit (WQ.exitHere ?_)))
    exact WQ.meetN [(0, _)] ⟨rfl, trivial⟩ ⟨_, rfl, H, e2⟩
  ·
   rintro e w ⟨M, rfl, H, q16⟩
   obtain rfl := Option.some.inj q16
   try dsimp only at h
   refine TN (SQ ?_)
   obtain ⟨b17, hx18, h⟩ := bnd h
   refine RG (MV rfl rfl (ST (Ex.lenStr Tryz.underlying9 rfl) rfl (WR.call H (R_In_ct hx18) rfl trivial (Wn.none rfl) rfl ?_)))
   intro v24 M w H hle hR
   obtain rfl := hR
   refine AS rfl rfl (NL (TN (RT ?_)))
   obtain rfl := Option.some.inj h
   exact WQ.ret1 rfl rfl H.ext rfl
theorem R_Trim_ct {p0 : List UInt8} {r : List UInt8} (h : R_Trim p0 = some r) : Ct Tryz.prog 63 [S p0] (fun M => True) (fun v M => v = S r) := by
  refine Ct.of Tryz.func63 (enters Tryz.func63 (by kernel_rfl) rfl) rfl rfl rfl ?_
  intro w0 M0 H hp
  unfold R_Trim at h
  refine SQ (RG (AS rfl rfl (NL (TN (SQ ?_)))))
  obtain ⟨o1, e2, h⟩ := bnd h
  refine WC.cutX (fun e w => ∃ (s3 : List UInt8) (M : Mem), e = [(0, S s3)] ∧ St w0 M0 M [] w ∧ some s3 = some o1) [] ?_ ?_ (trivial)
  ·
   refine BL (WC.loopP (fun m e w => ∃ (s4 : List UInt8) (M : Mem), e = [(0, S s4)] ∧ St w0 M0 M [] w ∧ R_Trim_L1  m s4 = some o1) FU [(0, _)] ⟨rfl, trivial⟩ ⟨_, _, rfl, H, e2⟩ ?_)
   rintro m5 e w ⟨s4, M, rfl, H, e2⟩
   rcases m5 with _ | m5
   · rw [R_Trim_L1] at e2; cases e2
   rw [R_Trim_L1] at e2
   refine SQ (SQ ?_)
   obtain ⟨o6, e7, e2⟩ := bnd e2
   refine WC.cutX (fun e w => ∃ (b8 : Bool) (M : Mem), e = [(0, S s4), (10, Value.bool b8)] ∧ St w0 M0 M [] w ∧ some b8 = some o6) [] ?_ ?_ (trivial)
   ·
    refine RG (MV rfl rfl (ST (Ex.lenStr Tryz.underlying9 rfl) rfl ?_))
    by_cases hk9 : (0 : Int) < (s4.length : Int)
    ·
     rw [if_pos hk9] at e7
     obtain ⟨c10, hxc10, e7⟩ := bnd e7
     obtain ⟨b11, hx12, e7⟩ := bnd e7
     refine WR.stepE (v' := .bool true) (Ex.gtr rfl rfl) (congrArg Value.bool (decide_eq_true hk9)) (Wn.none rfl) rfl rfl (MV rfl rfl (SG (Ex.move rfl) rfl rfl rfl (SG (Ex.idxStrC Tryz.underlying9 rfl rfl hxc10) rfl rfl rfl (WR.call H (R_Blank_ct hx12) rfl trivial (Wn.some rfl rfl rfl) rfl ?_))))
     intro v9 M w H hle hR
     obtain rfl := hR
     refine PT rfl rfl rfl (NL ?_)
     exact WQ.meetN [(0, _), (10, _)] ⟨rfl, rfl, trivial⟩ ⟨_, _, rfl, H, e7⟩
    ·
     rw [if_neg hk9] at e7
     refine WR.stepE (v' := .bool false) (Ex.gtr rfl rfl) (congrArg Value.bool (decide_eq_false hk9)) (Wn.none rfl) rfl rfl (MV rfl rfl (WR.skipN 3 rfl rfl (PF rfl rfl rfl (NL ?_))))
     exact WQ.meetN [(0, _), (10, _)] ⟨rfl, rfl, trivial⟩ ⟨_, _, rfl, H, e7⟩
   ·
    rintro e w ⟨b8, M, rfl, H, q13⟩
    obtain rfl := Option.some.inj q13
    refine TN ?_
    refine WC.condB rfl (fun hk14 => ?_) (fun hk14 => ?_)
    ·
     subst hk14
     rw [if_pos rfl] at e2
     refine SK (TN (BL ?_))
     obtain ⟨s15, hxs15, e2⟩ := bnd e2
     refine RG (MV rfl rfl (ST (Ex.sliceL Tryz.underlying9 rfl rfl hxs15) rfl (AS rfl rfl (NL (IB ?_)))))
     exact WQ.againP m5 [(0, _)] ⟨rfl, trivial⟩ ⟨_, _, rfl, H, e2⟩ (Nat.lt_succ_self _)
    ·
     subst hk14
     rw [if_neg Bool.false_ne_true] at e2
     refine WC.exit (WQ.thenExit (WQ.thenExit (WQ.exitHere ?_)))
     exact WQ.meetN [(0, _)] ⟨rfl, trivial⟩ ⟨_, _, rfl, H, e2⟩
  ·
   rintro e w ⟨s3, M, rfl, H, q16⟩
   obtain rfl := Option.some.inj q16
   refine TN (SQ ?_)
   obtain ⟨o17, e18, h⟩ := bnd h
   refine WC.cutX (fun e w => ∃ (s19 : List UInt8) (M : Mem), e = [(0, S s19)] ∧ St w0 M0 M [] w ∧ some s19 = some o17) [] ?_ ?_ (trivial)
   ·
    refine BL (WC.loopP (fun m e w => ∃ (s20 : List UInt8) (M : Mem), e = [(0, S s20)] ∧ St w0 M0 M [] w ∧ R_Trim_L2  m s20 = some o17) FU [(0, _)] ⟨rfl, trivial⟩ ⟨_, _, rfl, H, e18⟩ ?_)
    rintro m21 e w ⟨s20, M, rfl, H, e18⟩
    rcases m21 with _ | m21
    · rw [R_Trim_L2] at e18; cases e18
    rw [R_Trim_L2] at e18
    refine SQ (SQ ?_)
    obtain ⟨o22, e23, e18⟩ := bnd e18
    refine WC.cutX (fun e w => ∃ (b24 : Bool) (M : Mem), e = [(0, S s20), (23, Value.bool b24)] ∧ St w0 M0 M [] w ∧ some b24 = some o22) [] ?_ ?_ (trivial)
    ·
     refine RG (MV rfl rfl (ST (Ex.lenStr Tryz.underlying9 rfl) rfl ?_))
     by_cases hk25 : (0 : Int) < (s20.length : Int)
     ·
      rw [if_pos hk25] at e23
      obtain ⟨n26, hxn26, e23⟩ := bnd e23
      obtain ⟨c27, hxc27, e23⟩ := bnd e23
      obtain ⟨b28, hx29, e23⟩ := bnd e23
      refine WR.stepE (v' := .bool true) (Ex.gtr rfl rfl) (congrArg Value.bool (decide_eq_true hk25)) (Wn.none rfl) rfl rfl (MV rfl rfl (SG (Ex.move rfl) rfl rfl rfl (SG (Ex.move rfl) rfl rfl rfl (SG (Ex.lenStr Tryz.underlying9 rfl) rfl rfl rfl (SG (Ex.subC rfl rfl hxn26) rfl rfl rfl (SG (Ex.idxStrC Tryz.underlying9 rfl rfl hxc27) rfl rfl rfl (WR.call H (R_Blank_ct hx29) rfl trivial (Wn.some rfl rfl rfl) rfl ?_)))))))
      intro v22 M w H hle hR
      obtain rfl := hR
      refine PT rfl rfl rfl (NL ?_)
      exact WQ.meetN [(0, _), (23, _)] ⟨rfl, rfl, trivial⟩ ⟨_, _, rfl, H, e23⟩
     ·
      rw [if_neg hk25] at e23
      refine WR.stepE (v' := .bool false) (Ex.gtr rfl rfl) (congrArg Value.bool (decide_eq_false hk25)) (Wn.none rfl) rfl rfl (MV rfl rfl (WR.skipN 6 rfl rfl (PF rfl rfl rfl (NL ?_))))
      exact WQ.meetN [(0, _), (23, _)] ⟨rfl, rfl, trivial⟩ ⟨_, _, rfl, H, e23⟩
    ·
     rintro e w ⟨b24, M, rfl, H, q30⟩
     obtain rfl := Option.some.inj q30
     refine TN ?_
     refine WC.condB rfl (fun hk31 => ?_) (fun hk31 => ?_)
     ·
      subst hk31
      rw [if_pos rfl] at e18
      refine SK (TN (BL ?_))
      obtain ⟨n32, hxn32, e18⟩ := bnd e18
      obtain ⟨s33, hxs33, e18⟩ := bnd e18
      refine RG (MV rfl rfl (MV rfl rfl (ST (Ex.lenStr Tryz.underlying9 rfl) rfl (ST (Ex.subC rfl rfl hxn32) rfl (ST (Ex.sliceH Tryz.underlying9 rfl rfl hxs33) rfl (AS rfl rfl (NL (IB ?_))))))))
      exact WQ.againP m21 [(0, _)] ⟨rfl, trivial⟩ ⟨_, _, rfl, H, e18⟩ (Nat.lt_succ_self _)
     ·
      subst hk31
      rw [if_neg Bool.false_ne_true] at e18
      refine WC.exit (WQ.thenExit (WQ.thenExit (WQ.exitHere ?_)))
      exact WQ.meetN [(0, _)] ⟨rfl, trivial⟩ ⟨_, _, rfl, H, e18⟩
   ·
    rintro e w ⟨s19, M, rfl, H, q34⟩
    obtain rfl := Option.some.inj q34
    refine TN (SQ (RG (MV rfl rfl (AS rfl rfl (NL (TN (RT ?_)))))))
    obtain rfl := Option.some.inj h
    exact WQ.ret1 rfl rfl H.ext rfl
theorem R_SameFields_ct {p0 : List (List UInt8 × List UInt8)} {p1 : List (List UInt8 × List UInt8)} {vp0 : Value} {vp1 : Value} {r : Bool} (h : R_SameFields p0 p1 = some r) : Ct Tryz.prog 22 [vp0, vp1] (fun M => SlS M 2 xenc50 vp0 p0 ∧ SlS M 2 xenc50 vp1 p1) (fun v M => v = Value.bool r) := by
  refine Ct.of Tryz.func22 (enters Tryz.func22 (by kernel_rfl) rfl) rfl rfl rfl ?_
  intro w0 M0 H hp
  obtain ⟨hp0, hp1⟩ := hp
  unfold R_SameFields at h
  refine SQ (RG (AS rfl rfl (NL (TN (SQ (SQ (RG (MV rfl rfl (ST (Ex.lenSlS Tryz.underlying31 hp0 rfl) rfl (MV rfl rfl (ST (Ex.lenSlS Tryz.underlying31 hp1 rfl) rfl (ST (Ex.neqC rfl rfl) rfl (NL (TN ?_))))))))))))))
  refine WC.condB rfl (fun hk1 => ?_) (fun hk1 => ?_)
  ·
   replace hk1 : ¬ ((p0.length : Int) = (p1.length : Int)) := of_not_decide hk1
   rw [if_neg hk1] at h
   refine SQ (RG (AS rfl rfl (NL (TN (RT ?_)))))
   obtain rfl := Option.some.inj h
   exact WQ.ret1 rfl rfl H.ext rfl
  ·
   replace hk1 : (p0.length : Int) = (p1.length : Int) := of_not_decide' hk1
   rw [if_pos hk1] at h
   refine SK (TN (SQ (SQ (RG (AS rfl rfl (NL (TN ?_)))))))
   obtain ⟨o2, e3, h⟩ := bnd h
   refine WC.cutX (fun e w => ∃  (M : Mem), e = [] ∧ St w0 M0 M [] w ∧ some (.inl ()) = some o2) [] ?_ ?_ (trivial)
   ·
    refine BL (WC.loopP (fun m e w => ∃ (n4 : Int) (M : Mem), e = [(0, vp0), (1, vp1), (5, I n4)] ∧ St w0 M0 M [] w ∧ SlS M 2 xenc50 vp0 p0 ∧ SlS M 2 xenc50 vp1 p1 ∧ R_SameFields_L1 p0 p1 m n4 = some o2) FU [(0, _), (1, _), (5, _)] ⟨rfl, rfl, rfl, trivial⟩ ⟨_, _, rfl, H, hp0, hp1, e3⟩ ?_)
    rintro m5 e w ⟨n4, M, rfl, H, hp0, hp1, e3⟩
    rcases m5 with _ | m5
    · rw [R_SameFields_L1] at e3; cases e3
    rw [R_SameFields_L1] at e3
    refine SQ (SQ (RG (MV rfl rfl (MV rfl rfl (ST (Ex.lenSlS Tryz.underlying31 hp0 rfl) rfl (ST (Ex.lss rfl rfl) rfl (NL (TN ?_))))))))
    refine WC.condB rfl (fun hk6 => ?_) (fun hk6 => ?_)
    ·
     replace hk6 : n4 < (p0.length : Int) := of_decide_eq_true hk6
     rw [if_pos hk6] at e3
     refine SK (TN (SQ (BL (SQ ?_))))
     obtain ⟨a7, hxa7, e3⟩ := bnd e3
     obtain ⟨b19, o19, ha19, hc19⟩ := hp0.atC hxa7
     obtain ⟨a8, hxa8, e3⟩ := bnd e3
     obtain ⟨b23, o23, ha23, hc23⟩ := hp1.atC hxa8
     refine WC.draw (m := 9) rfl rfl H ?_
     intro w H
     refine WA.take (i := 0) rfl (by kernel_rfl) (by kernel_rfl) (by kernel_rfl) (fun _ => Ex.move rfl) (Wn.none rfl) rfl rfl (fun _ _ => rfl) (WA.take (i := 1) rfl (by kernel_rfl) (by kernel_rfl) (by kernel_rfl) (fun _ => Ex.move rfl) (Wn.none rfl) rfl rfl (fun _ _ => rfl) (WA.take (i := 2) rfl (by kernel_rfl) (by kernel_rfl) (by kernel_rfl) (fun _ => Ex.idxAt ha19 Tryz.underlying31 Tryz.sizeOf50 rfl rfl) (Wn.none rfl) rfl rfl (fun _ _ => rfl) (WA.take (i := 4) rfl (by kernel_rfl) (by kernel_rfl) (by kernel_rfl) (fun _ => Ex.move rfl) (Wn.none rfl) rfl rfl (fun _ _ => rfl) (WA.take (i := 5) rfl (by kernel_rfl) (by kernel_rfl) (by kernel_rfl) (fun _ => Ex.move rfl) (Wn.none rfl) rfl rfl (fun _ _ => rfl) (WA.take (i := 6) rfl (by kernel_rfl) (by kernel_rfl) (by kernel_rfl) (fun _ => Ex.idxAt ha23 Tryz.underlying31 Tryz.sizeOf50 rfl rfl) (Wn.none rfl) rfl rfl (fun _ _ => rfl) (WA.takeM (i := 3) [7] rfl (by kernel_rfl) (by kernel_rfl) (by kernel_rfl) (Ex.loadAggM H rfl hc19 Tryz.isAgg50 Tryz.sizeOf50 (by rfl)) (Wn.none rfl) rfl rfl (fun _ _ => rfl) ?_))))))
     refine WA.seq (fuel := 0) [7, 8] rfl (by kernel_rfl) (ST (Ex.loadAggM H rfl hc23 Tryz.isAgg50 Tryz.sizeOf50 (by rfl)) rfl ?_)
     refine ST (Ex.neqAggC rfl rfl (by kernel_rfl) (xeq50 a7.1 a8.1 a7.2 a8.2)) rfl (NA (WA.done (by kernel_rfl) (TN ?_)))
     refine WC.condB rfl (fun hk9 => ?_) (fun hk9 => ?_)
     ·
      replace hk9 : ¬ (a7.1 = a8.1 ∧ a7.2 = a8.2) := of_not_decide hk9
      rw [if_neg hk9] at e3
      refine SQ (RG (AS rfl rfl (NL (TN (RT ?_)))))
      obtain rfl := Option.some.inj e3
      try dsimp only at h
      obtain rfl := Option.some.inj h
      exact WQ.ret1 rfl rfl H.ext rfl
     ·
      replace hk9 : a7.1 = a8.1 ∧ a7.2 = a8.2 := of_not_decide' hk9
      rw [if_pos hk9] at e3
      refine SK (IB (TN ?_))
      obtain ⟨n10, hxn10, e3⟩ := bnd e3
      refine RG (MV rfl rfl (ST (Ex.addC rfl rfl hxn10) rfl (AS rfl rfl (NL ?_))))
      exact WQ.againP m5 [(0, _), (1, _), (5, _)] ⟨rfl, rfl, rfl, trivial⟩ ⟨_, _, rfl, H, hp0, hp1, e3⟩ (Nat.lt_succ_self _)
    ·
     replace hk6 : ¬ (n4 < (p0.length : Int)) := of_decide_eq_false hk6
     rw [if_neg hk6] at e3
     refine WC.exit (WQ.thenExit (WQ.thenExit (WQ.exitHere ?_)))
     exact WQ.meetN [] trivial ⟨_, rfl, H, e3⟩
   ·
    rintro e w ⟨M, rfl, H, q11⟩
    obtain rfl := Option.some.inj q11
    try dsimp only at h
    refine TN (SQ (RG (AS rfl rfl (NL (TN (RT ?_))))))
    obtain rfl := Option.some.inj h
    exact WQ.ret1 rfl rfl H.ext rfl
theorem R_OneOf_ct {p0 : UInt8} {p1 : List UInt8} {r : Bool} (h : R_OneOf p0 p1 = some r) : Ct Tryz.prog 151 [encB p0, S p1] (fun M => True) (fun v M => v = Value.bool r) := by
  refine Ct.of Tryz.func151 (enters Tryz.func151 (by kernel_rfl) rfl) rfl rfl rfl ?_
  intro w0 M0 H hp
  unfold R_OneOf at h
  refine SQ (RG (AS rfl rfl (NL (TN (SQ (SQ (RG (AS rfl rfl (NL (TN ?_))))))))))
  obtain ⟨o1, e2, h⟩ := bnd h
  refine WC.cutX (fun e w => ∃  (M : Mem), e = [] ∧ St w0 M0 M [] w ∧ some (.inl ()) = some o1) [] ?_ ?_ (trivial)
  ·
   refine BL (WC.loopP (fun m e w => ∃ (n3 : Int) (M : Mem), e = [(0, encB p0), (1, S p1), (5, I n3)] ∧ St w0 M0 M [] w ∧ R_OneOf_L1 p0 p1 m n3 = some o1) FU [(0, _), (1, _), (5, _)] ⟨rfl, rfl, rfl, trivial⟩ ⟨_, _, rfl, H, e2⟩ ?_)
   rintro m4 e w ⟨n3, M, rfl, H, e2⟩
   rcases m4 with _ | m4
   · rw [R_OneOf_L1] at e2; cases e2
   rw [R_OneOf_L1] at e2
   refine SQ (SQ (RG (MV rfl rfl (MV rfl rfl (ST (Ex.lenStr Tryz.underlying9 rfl) rfl (ST (Ex.lss rfl rfl) rfl (NL (TN ?_))))))))
   refine WC.condB rfl (fun hk5 => ?_) (fun hk5 => ?_)
   ·
    replace hk5 : n3 < (p1.length : Int) := of_decide_eq_true hk5
    rw [if_pos hk5] at e2
    refine SK (TN (SQ (BL (SQ ?_))))
    obtain ⟨c6, hxc6, e2⟩ := bnd e2
    refine RG (MV rfl rfl (MV rfl rfl (ST (Ex.idxStrC Tryz.underlying9 rfl rfl hxc6) rfl (MV rfl rfl (ST (Ex.eqlB (c := c6) (d := p0) rfl rfl) rfl (NL (TN ?_)))))))
    refine WC.condB rfl (fun hk7 => ?_) (fun hk7 => ?_)
    ·
     replace hk7 : c6 = p0 := of_decide_eq_true hk7
     rw [if_pos hk7] at e2
     refine SQ (RG (AS rfl rfl (NL (TN (RT ?_)))))
     obtain rfl := Option.some.inj e2
     try dsimp only at h
     obtain rfl := Option.some.inj h
     exact WQ.ret1 rfl rfl H.ext rfl
    ·
     replace hk7 : ¬ (c6 = p0) := of_decide_eq_false hk7
     rw [if_neg hk7] at e2
     refine SK (IB (TN ?_))
     obtain ⟨n8, hxn8, e2⟩ := bnd e2
     refine RG (MV rfl rfl (ST (Ex.addC rfl rfl hxn8) rfl (AS rfl rfl (NL ?_))))
     exact WQ.againP m4 [(0, _), (1, _), (5, _)] ⟨rfl, rfl, rfl, trivial⟩ ⟨_, _, rfl, H, e2⟩ (Nat.lt_succ_self _)
   ·
    replace hk5 : ¬ (n3 < (p1.length : Int)) := of_decide_eq_false hk5
    rw [if_neg hk5] at e2
    refine WC.exit (WQ.thenExit (WQ.thenExit (WQ.exitHere ?_)))
    exact WQ.meetN [] trivial ⟨_, rfl, H, e2⟩
  ·
   rintro e w ⟨M, rfl, H, q9⟩
   obtain rfl := Option.some.inj q9
   try dsimp only at h
   refine TN (SQ (RG (AS rfl rfl (NL (TN (RT ?_))))))
   obtain rfl := Option.some.inj h
   exact WQ.ret1 rfl rfl H.ext rfl
theorem R_FieldCode_ct {p0 : List UInt8} {p1 : List UInt8} {r : Int} (h : R_FieldCode p0 p1 = some r) : Ct Tryz.prog 115 [S p0, S p1] (fun M => True) (fun v M => v = I r) := by
  refine Ct.of Tryz.func115 (enters Tryz.func115 (by kernel_rfl) rfl) rfl rfl rfl ?_
  intro w0 M0 H hp
  unfold R_FieldCode at h
  refine SQ (RG (AS rfl rfl (NL (TN (SQ (SQ ?_))))))
  obtain ⟨b1, hx2, h⟩ := bnd h
  refine RG (MV rfl rfl (WR.call H (R_FieldName_ct hx2) rfl trivial (Wn.none rfl) rfl ?_))
  intro v7 M w H hle hR
  obtain rfl := hR
  refine ST (Ex.not rfl) rfl (NL (TN ?_))
  refine WC.condB rfl (fun hk3 => ?_) (fun hk3 => ?_)
  ·
   replace hk3 : b1 = false := by simpa using hk3
   subst hk3
   rw [if_neg Bool.false_ne_true] at h
   refine SQ (RG (AS rfl rfl (NL (TN (RT ?_)))))
   obtain rfl := Option.some.inj h
   exact WQ.ret1 rfl rfl H.ext rfl
  ·
   replace hk3 : b1 = true := by simpa using hk3
   subst hk3
   rw [if_pos rfl] at h
   refine SK (TN (SQ (SQ (RG (MV rfl rfl (ST (Ex.lenStr Tryz.underlying9 rfl) rfl (ST (Ex.gtr rfl rfl) rfl (NL (TN ?_)))))))))
   refine WC.condB rfl (fun hk4 => ?_) (fun hk4 => ?_)
   ·
    replace hk4 : (4000 : Int) < (p1.length : Int) := of_decide_eq_true hk4
    rw [if_pos hk4] at h
    refine SQ (RG (AS rfl rfl (NL (TN (RT ?_)))))
    obtain rfl := Option.some.inj h
    exact WQ.ret1 rfl rfl H.ext rfl
   ·
    replace hk4 : ¬ ((4000 : Int) < (p1.length : Int)) := of_decide_eq_false hk4
    rw [if_neg hk4] at h
    refine SK (TN (SQ (SQ (RG (AS rfl rfl (NL (TN ?_)))))))
    obtain ⟨o5, e6, h⟩ := bnd h
    refine WC.cutX (fun e w => ∃  (M : Mem), e = [(1, S p1)] ∧ St w0 M0 M [] w ∧ some (.inl ()) = some o5) [] ?_ ?_ (trivial)
    ·
     refine BL (WC.loopP (fun m e w => ∃ (n7 : Int) (M : Mem), e = [(1, S p1), (5, I n7)] ∧ St w0 M0 M [] w ∧ R_FieldCode_L1 p1 m n7 = some o5) FU [(1, _), (5, _)] ⟨rfl, rfl, trivial⟩ ⟨_, _, rfl, H, e6⟩ ?_)
     rintro m8 e w ⟨n7, M, rfl, H, e6⟩
     rcases m8 with _ | m8
     · rw [R_FieldCode_L1] at e6; cases e6
     rw [R_FieldCode_L1] at e6
     refine SQ (SQ (RG (MV rfl rfl (MV rfl rfl (ST (Ex.lenStr Tryz.underlying9 rfl) rfl (ST (Ex.lss rfl rfl) rfl (NL (TN ?_))))))))
     refine WC.condB rfl (fun hk9 => ?_) (fun hk9 => ?_)
     ·
      replace hk9 : n7 < (p1.length : Int) := of_decide_eq_true hk9
      rw [if_pos hk9] at e6
      refine SK (TN (SQ (BL (SQ ?_))))
      obtain ⟨c10, hxc10, e6⟩ := bnd e6
      obtain ⟨b11, hx12, e6⟩ := bnd e6
      refine RG (MV rfl rfl (MV rfl rfl (ST (Ex.idxStrC Tryz.underlying9 rfl rfl hxc10) rfl (WR.call H (R_OneOf_ct hx12) rfl trivial (Wn.none rfl) rfl ?_))))
      intro v21 M w H hle hR
      obtain rfl := hR
      refine NL (TN ?_)
      refine WC.condB rfl (fun hk13 => ?_) (fun hk13 => ?_)
      ·
       subst hk13
       rw [if_pos rfl] at e6
       refine SQ (RG (AS rfl rfl (NL (TN (RT ?_)))))
       obtain rfl := Option.some.inj e6
       try dsimp only at h
       obtain rfl := Option.some.inj h
       exact WQ.ret1 rfl rfl H.ext rfl
      ·
       subst hk13
       rw [if_neg Bool.false_ne_true] at e6
       refine SK (IB (TN ?_))
       obtain ⟨n14, hxn14, e6⟩ := bnd e6
       refine RG (MV rfl rfl (ST (Ex.addC rfl rfl hxn14) rfl (AS rfl rfl (NL ?_))))
       exact WQ.againP m8 [(1, _), (5, _)] ⟨rfl, rfl, trivial⟩ ⟨_, _, rfl, H, e6⟩ (Nat.lt_succ_self _)
     ·
      replace hk9 : ¬ (n7 < (p1.length : Int)) := of_decide_eq_false hk9
      rw [if_neg hk9] at e6
      refine WC.exit (WQ.thenExit (WQ.thenExit (WQ.exitHere ?_)))
      exact WQ.meetN [(1, _)] ⟨rfl, trivial⟩ ⟨_, rfl, H, e6⟩
    ·
     rintro e w ⟨M, rfl, H, q15⟩
     obtain rfl := Option.some.inj q15
     try dsimp only at h
     refine TN (SQ (SQ ?_))
     obtain ⟨s16, hx17, h⟩ := bnd h
     refine RG (MV rfl rfl (WR.call H (R_Trim_ct hx17) rfl trivial (Wn.none rfl) rfl ?_))
     intro v23 M w H hle hR
     obtain rfl := hR
     refine MV rfl rfl (ST (Ex.strNeqC rfl rfl) rfl (NL (TN ?_)))
     refine WC.condB rfl (fun hk18 => ?_) (fun hk18 => ?_)
     ·
      replace hk18 : ¬ (s16 = p1) := of_not_decide hk18
      rw [if_neg hk18] at h
      refine SQ (RG (AS rfl rfl (NL (TN (RT ?_)))))
      obtain rfl := Option.some.inj h
      exact WQ.ret1 rfl rfl H.ext rfl
     ·
      replace hk18 : s16 = p1 := of_not_decide' hk18
      rw [if_pos hk18] at h
      refine SK (TN (SQ (RG (AS rfl rfl (NL (TN (RT ?_)))))))
      obtain rfl := Option.some.inj h
      exact WQ.ret1 rfl rfl H.ext rfl
theorem R_Folded_ct {p0 : List UInt8} {p1 : List UInt8} {r : List (List UInt8)} (h : R_Folded p0 p1 = some r) : Ct Tryz.prog 66 [S p0, S p1] (fun M => True) (fun v M => Sl M encS v r) := by
  refine Ct.of Tryz.func66 (enters Tryz.func66 (by kernel_rfl) rfl) rfl rfl rfl ?_
  intro w0 M0 H hp
  unfold R_Folded at h
  refine SQ (RG (AS rfl rfl (NL (TN (SQ ?_)))))
  obtain ⟨s1, hxs1, h⟩ := bnd h
  obtain ⟨s2, hxs2, h⟩ := bnd h
  refine RG (MV rfl rfl (ST (Ex.strAddC rfl rfl hxs1) rfl (MV rfl rfl (ST (Ex.strAddC rfl rfl hxs2) rfl (AS rfl rfl (NL (TN (SQ (RG (AS rfl rfl (NL (TN (SQ (SQ ?_))))))))))))))
  obtain ⟨n3, hxn3, h⟩ := bnd h
  refine RG (MV rfl rfl (ST (Ex.lenStr Tryz.underlying9 rfl) rfl (ST (Ex.addC rfl rfl hxn3) rfl (AS rfl rfl (NL (TN ?_))))))
  obtain ⟨o4, e5, h⟩ := bnd h
  refine WC.cutX (fun e w => ∃ (l7 : List Int) (v8 : Value) (M : Mem), e = [(5, S s2), (6, v8)] ∧ St w0 M0 M [RowI 3 encI v8 l7] w ∧ some l7 = some o4) [] ?_ ?_ (trivial)
  ·
   refine BL ?_
   replace H := H.newRow 3 encI
   refine WC.loopP (fun m e w => ∃ (l10 : List Int) (v11 : Value) (n12 : Int) (M : Mem), e = [(5, S s2), (6, v11), (7, I n12)] ∧ St w0 M0 M [RowI 3 encI v11 l10] w ∧ R_Folded_L1 s2 m l10 n12 = some o4) FU [(5, _), (6, _), (7, _)] ⟨rfl, rfl, rfl, trivial⟩ ⟨_, _, _, _, rfl, H, e5⟩ ?_
   rintro m13 e w ⟨l10, v11, n12, M, rfl, H, e5⟩
   rcases m13 with _ | m13
   · rw [R_Folded_L1] at e5; cases e5
   rw [R_Folded_L1] at e5
   refine SQ (SQ (RG (MV rfl rfl (MV rfl rfl (ST (Ex.lenStr Tryz.underlying9 rfl) rfl (ST (Ex.lss rfl rfl) rfl (NL (TN ?_))))))))
   refine WC.condB rfl (fun hk15 => ?_) (fun hk15 => ?_)
   ·
    replace hk15 : n12 < (s2.length : Int) := of_decide_eq_true hk15
    rw [if_pos hk15] at e5
    refine SK (TN (SQ (BL (SQ ?_))))
    obtain ⟨o16, e17, e5⟩ := bnd e5
    refine WC.cutX (fun e w => ∃ (b18 : Bool) (M : Mem), e = [(5, S s2), (6, v11), (7, I n12), (37, Value.bool b18)] ∧ St w0 M0 M [RowI 3 encI v11 l10] w ∧ some b18 = some o16) [] ?_ ?_ (trivial)
    ·
     obtain ⟨c19, hxc19, e17⟩ := bnd e17
     obtain ⟨b20, hx21, e17⟩ := bnd e17
     refine RG (MV rfl rfl (MV rfl rfl (ST (Ex.idxStrC Tryz.underlying9 rfl rfl hxc19) rfl (WR.call H (R_Blank_ct hx21) rfl trivial (Wn.none rfl) rfl ?_))))
     intro v29 M w H hle hR
     obtain rfl := hR
     refine MV rfl rfl ?_
     rcases b20 with _ | _
     ·
      rw [if_neg Bool.false_ne_true] at e17
      refine WR.skipN 6 rfl rfl (PF rfl rfl rfl (NL ?_))
      exact WQ.meetN [(5, _), (6, _), (7, _), (37, _)] ⟨rfl, rfl, rfl, rfl, trivial⟩ ⟨_, _, rfl, H, e17⟩
     ·
      rw [if_pos rfl] at e17
      obtain ⟨n22, hxn22, e17⟩ := bnd e17
      obtain ⟨c23, hxc23, e17⟩ := bnd e17
      obtain ⟨b24, hx25, e17⟩ := bnd e17
      refine SG (Ex.move rfl) rfl rfl rfl (SG (Ex.move rfl) rfl rfl rfl (SG (Ex.subC rfl rfl hxn22) rfl rfl rfl (SG (Ex.idxStrC Tryz.underlying9 rfl rfl hxc23) rfl rfl rfl (WR.call H (R_Blank_ct hx25) rfl trivial (Wn.some rfl rfl rfl) rfl ?_))))
      intro v35 M w H hle hR
      obtain rfl := hR
      refine SG (Ex.not rfl) rfl rfl rfl (PT rfl rfl rfl (NL ?_))
      exact WQ.meetN [(5, _), (6, _), (7, _), (37, _)] ⟨rfl, rfl, rfl, rfl, trivial⟩ ⟨_, _, rfl, H, e17⟩
    ·
     rintro e w ⟨b18, M, rfl, H, q26⟩
     obtain rfl := Option.some.inj q26
     refine TN ?_
     refine WC.condB rfl (fun hk27 => ?_) (fun hk27 => ?_)
     ·
      subst hk27
      rw [if_pos rfl] at e5
      obtain ⟨l28, hxl28, e5⟩ := bnd e5
      refine RG (MV rfl rfl (MV rfl rfl (WR.lit (enc := encI) xty107 ([n12] : List Int) H rfl (by rfl) (fun _ => rfl) rfl rfl (Wn.none rfl) rfl ?_)))
      intro v40 M w H hle hs40
      refine WR.appC (l := l10) xty107 rfl (fun _ => rfl) H rfl (fun _ => by repeat first | exact .head | apply Upd.tail) rfl (hs40) hxl28 (Wn.none rfl) rfl ?_
      intro v41 w H
      refine AS rfl rfl (NL (IB (TN ?_)))
      obtain ⟨n29, hxn29, e5⟩ := bnd e5
      refine RG (MV rfl rfl (ST (Ex.addC rfl rfl hxn29) rfl (AS rfl rfl (NL ?_))))
      exact WQ.againP m13 [(5, _), (6, _), (7, _)] ⟨rfl, rfl, rfl, trivial⟩ ⟨_, _, _, _, rfl, H, e5⟩ (Nat.lt_succ_self _)
     ·
      subst hk27
      rw [if_neg Bool.false_ne_true] at e5
      refine SK (IB (TN ?_))
      obtain ⟨n30, hxn30, e5⟩ := bnd e5
      refine RG (MV rfl rfl (ST (Ex.addC rfl rfl hxn30) rfl (AS rfl rfl (NL ?_))))
      exact WQ.againP m13 [(5, _), (6, _), (7, _)] ⟨rfl, rfl, rfl, trivial⟩ ⟨_, _, _, _, rfl, H, e5⟩ (Nat.lt_succ_self _)
   ·
    replace hk15 : ¬ (n12 < (s2.length : Int)) := of_decide_eq_false hk15
    rw [if_neg hk15] at e5
    refine WC.exit (WQ.thenExit (WQ.thenExit (WQ.exitHere ?_)))
    exact WQ.meetN [(5, _), (6, _)] ⟨rfl, rfl, trivial⟩ ⟨_, _, _, rfl, H, e5⟩
  ·
   rintro e w ⟨l7, v8, M, rfl, H, q31⟩
   obtain rfl := Option.some.inj q31
   refine TN (SQ (RG (AS rfl rfl (NL (TN (SQ (RG (AS rfl rfl (NL (TN (SQ ?_)))))))))))
   obtain ⟨o32, e33, h⟩ := bnd h
   refine WC.cutX (fun e w => ∃ (l35 : List (List UInt8)) (v36 : Value) (n37 : Int) (M : Mem), e = [(5, S s2), (8, v36), (9, I n37)] ∧ St w0 M0 M [RowI 9 encS v36 l35] w ∧ some (l35, n37) = some o32) [] ?_ ?_ (trivial)
   ·
    refine BL ?_
    replace H := H.newRow 9 encS
    refine WC.loopP (fun m e w => ∃ (l39 : List (List UInt8)) (v40 : Value) (n41 : Int) (M : Mem), e = [(5, S s2), (6, v8), (8, v40), (9, I n41)] ∧ St w0 M0 M [RowI 3 encI v8 l7, RowI 9 encS v40 l39] w ∧ R_Folded_L2 s2 l7 m l39 n41 = some o32) FU [(5, _), (6, _), (8, _), (9, _)] ⟨rfl, rfl, rfl, rfl, trivial⟩ ⟨_, _, _, _, rfl, (H.pick (L' := [RowI 3 encI v8 l7, RowI 9 encS (Value.slice none 0 0) []]) (by repeat (first | exact Pick.nil | refine Pick.cons (by repeat first | exact .head | apply Rem.tail) ?_))), e33⟩ ?_
    rintro m42 e w ⟨l39, v40, n41, M, rfl, H, e33⟩
    rcases m42 with _ | m42
    · rw [R_Folded_L2] at e33; cases e33
    rw [R_Folded_L2] at e33
    refine SQ (SQ ?_)
    obtain ⟨n44, hxn44, e33⟩ := bnd e33
    refine RG (MV rfl rfl (ST (Ex.lenStr Tryz.underlying9 rfl) rfl (MV rfl rfl (ST (Ex.subC rfl rfl hxn44) rfl (ST (Ex.gtr rfl rfl) rfl (NL (TN ?_)))))))
    refine WC.condB rfl (fun hk45 => ?_) (fun hk45 => ?_)
    ·
     replace hk45 : (78 : Int) < n44 := of_decide_eq_true hk45
     rw [if_pos hk45] at e33
     refine SK (TN (BL (SQ (RG (AS rfl rfl (NL (TN (SQ (SQ (RG (AS rfl rfl (NL (TN ?_)))))))))))))
     obtain ⟨o46, e47, e33⟩ := bnd e33
     refine WC.cutX (fun e w => ∃ (n48 : Int) (M : Mem), e = [(5, S s2), (6, v8), (8, v40), (9, I n41), (10, I n48)] ∧ St w0 M0 M [RowI 3 encI v8 l7, RowI 9 encS v40 l39] w ∧ some n48 = some o46) [] ?_ ?_ (trivial)
     ·
      refine BL (WC.loopP (fun m e w => ∃ (n49 : Int) (n50 : Int) (M : Mem), e = [(5, S s2), (6, v8), (8, v40), (9, I n41), (10, I n49), (11, I n50)] ∧ St w0 M0 M [RowI 3 encI v8 l7, RowI 9 encS v40 l39] w ∧ R_Folded_L3 l7 n41 m n49 n50 = some o46) FU [(5, _), (6, _), (8, _), (9, _), (10, _), (11, _)] ⟨rfl, rfl, rfl, rfl, rfl, rfl, trivial⟩ ⟨_, _, _, rfl, H, e47⟩ ?_)
      rintro m51 e w ⟨n49, n50, M, rfl, H, e47⟩
      rcases m51 with _ | m51
      · rw [R_Folded_L3] at e47; cases e47
      rw [R_Folded_L3] at e47
      refine SQ (SQ (RG (MV rfl rfl (MV rfl rfl (ST (Ex.lenRow (l := l7) Tryz.underlying107 H (by repeat (first | exact List.Mem.head _ | apply List.Mem.tail)) rfl) rfl ?_)))))
      refine ST (Ex.lss rfl rfl) rfl (NL (TN ?_))
      refine WC.condB rfl (fun hk52 => ?_) (fun hk52 => ?_)
      ·
       replace hk52 : n50 < (l7.length : Int) := of_decide_eq_true hk52
       rw [if_pos hk52] at e47
       refine SK (TN (SQ (BL (SQ ?_))))
       obtain ⟨a53, hxa53, e47⟩ := bnd e47
       refine RG (MV rfl rfl (MV rfl rfl (WR.idxRowC (l := l7) H Tryz.underlying107 Tryz.sizeOf3 (by repeat (first | exact List.Mem.head _ | apply List.Mem.tail)) rfl rfl hxa53 (Wn.none rfl) rfl ?_)))
       intro g55 hg55
       refine ST (Ex.loadRowC H rfl hg55 (by repeat (first | exact List.Mem.head _ | apply List.Mem.tail)) hxa53 Tryz.isAgg3) rfl ?_
       refine AS rfl rfl (NL (TN (SQ ?_)))
       obtain ⟨o54, e55, e47⟩ := bnd e47
       refine WC.cutX (fun e w => ∃ (b56 : Bool) (M : Mem), e = [(5, S s2), (6, v8), (8, v40), (9, I n41), (10, I n49), (11, I n50), (12, I a53), (69, Value.bool b56)] ∧ St w0 M0 M [RowI 3 encI v8 l7, RowI 9 encS v40 l39] w ∧ some b56 = some o54) [] ?_ ?_ (trivial)
       ·
        refine RG (MV rfl rfl (MV rfl rfl ?_))
        by_cases hk57 : n41 < a53
        ·
         rw [if_pos hk57] at e55
         obtain ⟨n58, hxn58, e55⟩ := bnd e55
         by_cases hk59 : n58 ≤ (78 : Int)
         ·
          rw [if_pos hk59] at e55
          refine WR.stepE (v' := .bool true) (Ex.gtr rfl rfl) (congrArg Value.bool (decide_eq_true hk57)) (Wn.none rfl) rfl rfl (MV rfl rfl (SG (Ex.move rfl) rfl rfl rfl (SG (Ex.move rfl) rfl rfl rfl (SG (Ex.subC rfl rfl hxn58) rfl rfl rfl (WR.stepE (v' := .bool true) (Ex.leq rfl rfl) (congrArg Value.bool (decide_eq_true hk59)) (Wn.some rfl rfl rfl) rfl rfl (SG (Ex.move rfl) rfl rfl rfl (GT rfl rfl rfl (GT rfl rfl rfl (SG (Ex.pickT rfl rfl) rfl rfl rfl (PT rfl rfl rfl (NL ?_)))))))))))
          exact WQ.meetN [(5, _), (6, _), (8, _), (9, _), (10, _), (11, _), (12, _), (69, _)] ⟨rfl, rfl, rfl, rfl, rfl, rfl, rfl, rfl, trivial⟩ ⟨_, _, rfl, H, e55⟩
         ·
          rw [if_neg hk59] at e55
          refine WR.stepE (v' := .bool true) (Ex.gtr rfl rfl) (congrArg Value.bool (decide_eq_true hk57)) (Wn.none rfl) rfl rfl (MV rfl rfl (SG (Ex.move rfl) rfl rfl rfl (SG (Ex.move rfl) rfl rfl rfl (SG (Ex.subC rfl rfl hxn58) rfl rfl rfl (WR.stepE (v' := .bool false) (Ex.leq rfl rfl) (congrArg Value.bool (decide_eq_false hk59)) (Wn.some rfl rfl rfl) rfl rfl (SG (Ex.move rfl) rfl rfl rfl (SG (Ex.move rfl) rfl rfl rfl (SG (Ex.lss rfl rfl) rfl rfl rfl (SG (Ex.pickF rfl rfl) rfl rfl rfl (PT rfl rfl rfl (NL ?_)))))))))))
          exact WQ.meetN [(5, _), (6, _), (8, _), (9, _), (10, _), (11, _), (12, _), (69, _)] ⟨rfl, rfl, rfl, rfl, rfl, rfl, rfl, rfl, trivial⟩ ⟨_, _, rfl, H, e55⟩
        ·
         rw [if_neg hk57] at e55
         refine WR.stepE (v' := .bool false) (Ex.gtr rfl rfl) (congrArg Value.bool (decide_eq_false hk57)) (Wn.none rfl) rfl rfl (MV rfl rfl (WR.skipN 8 rfl rfl (PF rfl rfl rfl (NL ?_))))
         exact WQ.meetN [(5, _), (6, _), (8, _), (9, _), (10, _), (11, _), (12, _), (69, _)] ⟨rfl, rfl, rfl, rfl, rfl, rfl, rfl, rfl, trivial⟩ ⟨_, _, rfl, H, e55⟩
       ·
        rintro e w ⟨b56, M, rfl, H, q60⟩
        obtain rfl := Option.some.inj q60
        refine TN ?_
        refine WC.condB rfl (fun hk61 => ?_) (fun hk61 => ?_)
        ·
         subst hk61
         rw [if_pos rfl] at e47
         refine RG (MV rfl rfl (AS rfl rfl (NL (IB (TN ?_)))))
         obtain ⟨n62, hxn62, e47⟩ := bnd e47
         refine RG (MV rfl rfl (ST (Ex.addC rfl rfl hxn62) rfl (AS rfl rfl (NL ?_))))
         exact WQ.againP m51 [(5, _), (6, _), (8, _), (9, _), (10, _), (11, _)] ⟨rfl, rfl, rfl, rfl, rfl, rfl, trivial⟩ ⟨_, _, _, rfl, H, e47⟩ (Nat.lt_succ_self _)
        ·
         subst hk61
         rw [if_neg Bool.false_ne_true] at e47
         refine SK (IB (TN ?_))
         obtain ⟨n63, hxn63, e47⟩ := bnd e47
         refine RG (MV rfl rfl (ST (Ex.addC rfl rfl hxn63) rfl (AS rfl rfl (NL ?_))))
         exact WQ.againP m51 [(5, _), (6, _), (8, _), (9, _), (10, _), (11, _)] ⟨rfl, rfl, rfl, rfl, rfl, rfl, trivial⟩ ⟨_, _, _, rfl, H, e47⟩ (Nat.lt_succ_self _)
      ·
       replace hk52 : ¬ (n50 < (l7.length : Int)) := of_decide_eq_false hk52
       rw [if_neg hk52] at e47
       refine WC.exit (WQ.thenExit (WQ.thenExit (WQ.exitHere ?_)))
       exact WQ.meetN [(5, _), (6, _), (8, _), (9, _), (10, _)] ⟨rfl, rfl, rfl, rfl, rfl, trivial⟩ ⟨_, _, rfl, H, e47⟩
     ·
      rintro e w ⟨n48, M, rfl, H, q64⟩
      obtain rfl := Option.some.inj q64
      refine TN (SQ (SQ (RG (MV rfl rfl (ST (Ex.lss rfl rfl) rfl (NL (TN ?_)))))))
      refine WC.condB rfl (fun hk65 => ?_) (fun hk65 => ?_)
      ·
       replace hk65 : n48 < (0 : Int) := of_decide_eq_true hk65
       rw [if_pos hk65] at e33
       refine WC.exit (WQ.thenExit (WQ.exitOut rfl (WQ.thenExit (WQ.exitHere ?_))))
       exact WQ.meetN [(5, _), (8, _), (9, _)] ⟨rfl, rfl, rfl, trivial⟩ ⟨_, _, _, _, rfl, (H.pick (L' := [RowI 9 encS v40 l39]) (by repeat (first | exact Pick.nil | refine Pick.cons (by repeat first | exact .head | apply Rem.tail) ?_))), e33⟩
      ·
       replace hk65 : ¬ (n48 < (0 : Int)) := of_decide_eq_false hk65
       rw [if_neg hk65] at e33
       refine SK (TN (SQ ?_))
       obtain ⟨s66, hxs66, e33⟩ := bnd e33
       obtain ⟨l67, hxl67, e33⟩ := bnd e33
       refine RG (MV rfl rfl (MV rfl rfl (MV rfl rfl (MV rfl rfl (ST (Ex.sliceC Tryz.underlying9 rfl rfl rfl hxs66) rfl (WR.lit (enc := encS) xty43 ([s66] : List (List UInt8)) H rfl (by rfl) (fun _ => rfl) rfl rfl (Wn.none rfl) rfl ?_))))))
       intro v78 M w H hle hs78
       refine WR.appC (l := l39) xty43 rfl (fun _ => rfl) H rfl (fun _ => by repeat first | exact .head | apply Upd.tail) rfl (hs78) hxl67 (Wn.none rfl) rfl ?_
       intro v79 w H
       refine AS rfl rfl (NL (TN (RG (MV rfl rfl (AS rfl rfl (NL (IB ?_)))))))
       exact WQ.againP m42 [(5, _), (6, _), (8, _), (9, _)] ⟨rfl, rfl, rfl, rfl, trivial⟩ ⟨_, _, _, _, rfl, H, e33⟩ (Nat.lt_succ_self _)
    ·
     replace hk45 : ¬ ((78 : Int) < n44) := of_decide_eq_false hk45
     rw [if_neg hk45] at e33
     refine WC.exit (WQ.thenExit (WQ.thenExit (WQ.exitHere ?_)))
     exact WQ.meetN [(5, _), (8, _), (9, _)] ⟨rfl, rfl, rfl, trivial⟩ ⟨_, _, _, _, rfl, (H.pick (L' := [RowI 9 encS v40 l39]) (by repeat (first | exact Pick.nil | refine Pick.cons (by repeat first | exact .head | apply Rem.tail) ?_))), e33⟩
   ·
    rintro e w ⟨l35, v36, n37, M, rfl, H, q68⟩
    obtain rfl := Option.some.inj q68
    try dsimp only at h
    refine TN (SQ ?_)
    obtain ⟨s69, hxs69, h⟩ := bnd h
    obtain ⟨l70, hxl70, h⟩ := bnd h
    refine RG (MV rfl rfl (MV rfl rfl (MV rfl rfl (ST (Ex.sliceL Tryz.underlying9 rfl rfl hxs69) rfl (WR.lit (enc := encS) xty43 ([s69] : List (List UInt8)) H rfl (by rfl) (fun _ => rfl) rfl rfl (Wn.none rfl) rfl ?_)))))
    intro v85 M w H hle hs85
    refine WR.appC (l := l35) xty43 rfl (fun _ => rfl) H rfl (fun _ => by repeat first | exact .head | apply Upd.tail) rfl (hs85) hxl70 (Wn.none rfl) rfl ?_
    intro v86 w H
    refine AS rfl rfl (NL (TN (RT ?_)))
    obtain ⟨M, hle, hs71, H⟩ := H.freezeRow (v := v86) (enc := encS) (t := 9) (by repeat first | exact .head | apply Rem.tail)
    replace hs85 := hs85.mono hle
    obtain rfl := Option.some.inj h
    exact WQ.ret1 rfl rfl H.ext hs71
theorem R_FoldFault_ct {p0 : List UInt8} {p1 : List UInt8} {r : (Int × Int)} (h : R_FoldFault p0 p1 = some r) : Ct Tryz.prog 65 [S p0, S p1] (fun M => True) (fun v M => v = Value.agg #[I r.1, I r.2]) := by
  refine Ct.of Tryz.func65 (enters Tryz.func65 (by kernel_rfl) rfl) rfl rfl rfl ?_
  intro w0 M0 H hp
  unfold R_FoldFault at h
  refine SQ (RG (WR.alloc [_, _] H Tryz.zeroValue24 rfl (Wn.none rfl) rfl ?_))
  intro b4 w H
  refine NL (TN (SQ (SQ ?_)))
  obtain ⟨n1, hx2, h⟩ := bnd h
  refine RG (MV rfl rfl (MV rfl rfl (WR.call H (R_FieldCode_ct hx2) rfl trivial (Wn.none rfl) rfl ?_)))
  intro v9 M w H hle hR
  obtain rfl := hR
  refine ST (Ex.neqC rfl rfl) rfl (NL (TN ?_))
  refine WC.condB rfl (fun hk3 => ?_) (fun hk3 => ?_)
  ·
   replace hk3 : ¬ (n1 = (0 : Int)) := of_not_decide hk3
   rw [if_neg hk3] at h
   refine SQ ?_
   obtain ⟨n4, hx5, h⟩ := bnd h
   obtain ⟨⟨n6, n7⟩, hx8, h⟩ := bnd h
   try dsimp only at h
   refine RG (MV rfl rfl (MV rfl rfl (WR.call H (R_FieldCode_ct hx5) rfl trivial (Wn.none rfl) rfl ?_)))
   intro v13 M w H hle hR
   obtain rfl := hR
   refine WR.call H (R_At_ct hx8) rfl trivial (Wn.none rfl) rfl ?_
   intro v14 M w H hle hR
   try dsimp only at hR
   obtain rfl := hR
   refine WR.store [_, _] H rfl rfl rfl (by repeat first | exact .head | apply Upd.tail) Tryz.sizeOf24 rfl (by rfl) (by rfl) (Wn.none rfl) ?_
   intro w H
   refine NL (TN (RT ?_))
   obtain rfl := Option.some.inj h
   exact WQ.ret1 rfl ⟨_, rfl, H.loadAgg (by repeat (first | exact List.Mem.head _ | apply List.Mem.tail)) Tryz.isAgg24 Tryz.sizeOf24 (by rfl)⟩ H.ext rfl
  ·
   replace hk3 : n1 = (0 : Int) := of_not_decide' hk3
   rw [if_pos hk3] at h
   refine SK (TN (SQ ?_))
   obtain ⟨l9, hx10, h⟩ := bnd h
   refine RG (MV rfl rfl (MV rfl rfl (WR.call H (R_Folded_ct hx10) rfl trivial (Wn.none rfl) rfl ?_)))
   intro v17 M w H hle hR
   have f17_0 := hR
   refine AS rfl rfl (NL (TN (SQ (SQ (RG (AS rfl rfl (NL (TN ?_))))))))
   obtain ⟨o11, e12, h⟩ := bnd h
   refine WC.cutX (fun e w => ∃ (n13 : Int) (n14 : Int) (M : Mem), e = [(4, ptr b4 0)] ∧ St w0 M0 M [.blk b4 (.cells #[I n13, I n14] 24)] w ∧ some (.inl (n13, n14)) = some o11) [] ?_ ?_ (trivial)
   ·
    refine BL (WC.loopP (fun m e w => ∃ (n15 : Int) (n16 : Int) (n17 : Int) (M : Mem), e = [(4, ptr b4 0), (5, v17), (6, I n17)] ∧ St w0 M0 M [.blk b4 (.cells #[I n15, I n16] 24)] w ∧ Sl M encS v17 l9 ∧ R_FoldFault_L1 l9 m n15 n16 n17 = some o11) FU [(4, _), (5, _), (6, _)] ⟨rfl, rfl, rfl, trivial⟩ ⟨_, _, _, _, rfl, H, f17_0, e12⟩ ?_)
    rintro m18 e w ⟨n15, n16, n17, M, rfl, H, f17_0, e12⟩
    rcases m18 with _ | m18
    · rw [R_FoldFault_L1] at e12; cases e12
    rw [R_FoldFault_L1] at e12
    refine SQ (SQ (RG (MV rfl rfl (MV rfl rfl (ST (Ex.lenSl Tryz.underlying43 f17_0 rfl) rfl (ST (Ex.lss rfl rfl) rfl (NL (TN ?_))))))))
    refine WC.condB rfl (fun hk19 => ?_) (fun hk19 => ?_)
    ·
     replace hk19 : n17 < (l9.length : Int) := of_decide_eq_true hk19
     rw [if_pos hk19] at e12
     refine SK (TN (SQ (BL (SQ ?_))))
     obtain ⟨a20, hxa20, e12⟩ := bnd e12
     obtain ⟨b26, o26, ha26, hc26⟩ := f17_0.atC hxa20
     refine RG (MV rfl rfl (MV rfl rfl (ST (Ex.idxAt ha26 Tryz.underlying43 Tryz.sizeOf9 rfl rfl) rfl (ST (Ex.loadM H rfl hc26 Tryz.isAgg9) rfl (ST (Ex.lenStr Tryz.underlying9 rfl) rfl (ST (Ex.gtr rfl rfl) rfl (NL (TN ?_))))))))
     refine WC.condB rfl (fun hk21 => ?_) (fun hk21 => ?_)
     ·
      replace hk21 : (998 : Int) < (a20.length : Int) := of_decide_eq_true hk21
      rw [if_pos hk21] at e12
      refine SQ ?_
      obtain ⟨⟨n22, n23⟩, hx24, e12⟩ := bnd e12
      try dsimp only at e12
      refine RG (MV rfl rfl (WR.call H (R_At_ct hx24) rfl trivial (Wn.none rfl) rfl ?_))
      intro v31 M w H hle hR
      replace f17_0 := f17_0.mono hle
      replace hc26 := hc26.mono hle
      try dsimp only at hR
      obtain rfl := hR
      refine WR.store [_, _] H rfl rfl rfl (by repeat first | exact .head | apply Upd.tail) Tryz.sizeOf24 rfl (by rfl) (by rfl) (Wn.none rfl) ?_
      intro w H
      refine NL (TN (RT ?_))
      obtain rfl := Option.some.inj e12
      try dsimp only at h
      obtain rfl := Option.some.inj h
      exact WQ.ret1 rfl ⟨_, rfl, H.loadAgg (by repeat (first | exact List.Mem.head _ | apply List.Mem.tail)) Tryz.isAgg24 Tryz.sizeOf24 (by rfl)⟩ H.ext rfl
     ·
      replace hk21 : ¬ ((998 : Int) < (a20.length : Int)) := of_decide_eq_false hk21
      rw [if_neg hk21] at e12
      refine SK (IB (TN ?_))
      obtain ⟨n25, hxn25, e12⟩ := bnd e12
      refine RG (MV rfl rfl (ST (Ex.addC rfl rfl hxn25) rfl (AS rfl rfl (NL ?_))))
      exact WQ.againP m18 [(4, _), (5, _), (6, _)] ⟨rfl, rfl, rfl, trivial⟩ ⟨_, _, _, _, rfl, H, f17_0, e12⟩ (Nat.lt_succ_self _)
    ·
     replace hk19 : ¬ (n17 < (l9.length : Int)) := of_decide_eq_false hk19
     rw [if_neg hk19] at e12
     refine WC.exit (WQ.thenExit (WQ.thenExit (WQ.exitHere ?_)))
     exact WQ.meetN [(4, _)] ⟨rfl, trivial⟩ ⟨_, _, _, rfl, H, e12⟩
   ·
    rintro e w ⟨n13, n14, M, rfl, H, q26⟩
    obtain rfl := Option.some.inj q26
    try dsimp only at h
    refine TN (SQ (RG (ST (Ex.build [I 0, I 0] Tryz.underlying24 Tryz.zeroValue24 (xplaces24 Tryz.underlying24) rfl rfl) rfl (WR.store [_, _] H rfl rfl rfl (by repeat first | exact .head | apply Upd.tail) Tryz.sizeOf24 rfl (by rfl) (by rfl) (Wn.none rfl) ?_))))
    intro w H
    refine NL (TN (RT ?_))
    obtain rfl := Option.some.inj h
    exact WQ.ret1 rfl ⟨_, rfl, H.loadAgg (by repeat (first | exact List.Mem.head _ | apply List.Mem.tail)) Tryz.isAgg24 Tryz.sizeOf24 (by rfl)⟩ H.ext rfl
theorem R_FieldsFault_ct {p0 : List (List UInt8 × List UInt8)} {vp0 : Value} {r : (Int × Int)} (h : R_FieldsFault p0 = some r) : Ct Tryz.prog 24 [vp0] (fun M => SlS M 2 xenc50 vp0 p0) (fun v M => v = Value.agg #[I r.1, I r.2]) := by
  refine Ct.of Tryz.func24 (enters Tryz.func24 (by kernel_rfl) rfl) rfl rfl rfl ?_
  intro w0 M0 H hp
  have hp0 := hp
  unfold R_FieldsFault at h
  refine SQ (RG (WR.alloc [_, _] H Tryz.zeroValue24 rfl (Wn.none rfl) rfl ?_))
  intro b2 w H
  refine NL (TN (SQ (SQ (RG (MV rfl rfl (ST (Ex.lenSlS Tryz.underlying31 hp0 rfl) rfl (ST (Ex.gtr rfl rfl) rfl (NL (TN ?_)))))))))
  refine WC.condB rfl (fun hk1 => ?_) (fun hk1 => ?_)
  ·
   replace hk1 : (60 : Int) < (p0.length : Int) := of_decide_eq_true hk1
   rw [if_pos hk1] at h
   refine SQ ?_
   obtain ⟨⟨n2, n3⟩, hx4, h⟩ := bnd h
   try dsimp only at h
   refine RG (WR.call H (R_At_ct hx4) rfl trivial (Wn.none rfl) rfl ?_)
   intro v8 M w H hle hR
   replace hp0 := hp0.mono hle
   try dsimp only at hR
   obtain rfl := hR
   refine WR.store [_, _] H rfl rfl rfl (by repeat first | exact .head | apply Upd.tail) Tryz.sizeOf24 rfl (by rfl) (by rfl) (Wn.none rfl) ?_
   intro w H
   refine NL (TN (RT ?_))
   obtain rfl := Option.some.inj h
   exact WQ.ret1 rfl ⟨_, rfl, H.loadAgg (by repeat (first | exact List.Mem.head _ | apply List.Mem.tail)) Tryz.isAgg24 Tryz.sizeOf24 (by rfl)⟩ H.ext rfl
  ·
   replace hk1 : ¬ ((60 : Int) < (p0.length : Int)) := of_decide_eq_false hk1
   rw [if_neg hk1] at h
   refine SK (TN (SQ (SQ (RG (AS rfl rfl (NL (TN ?_)))))))
   obtain ⟨o5, e6, h⟩ := bnd h
   refine WC.cutX (fun e w => ∃ (n7 : Int) (n8 : Int) (M : Mem), e = [(2, ptr b2 0)] ∧ St w0 M0 M [.blk b2 (.cells #[I n7, I n8] 24)] w ∧ some (.inl (n7, n8)) = some o5) [] ?_ ?_ (trivial)
   ·
    refine BL (WC.loopP (fun m e w => ∃ (n9 : Int) (n10 : Int) (n11 : Int) (M : Mem), e = [(0, vp0), (2, ptr b2 0), (3, I n11)] ∧ St w0 M0 M [.blk b2 (.cells #[I n9, I n10] 24)] w ∧ SlS M 2 xenc50 vp0 p0 ∧ R_FieldsFault_L1 p0 m n9 n10 n11 = some o5) FU [(0, _), (2, _), (3, _)] ⟨rfl, rfl, rfl, trivial⟩ ⟨_, _, _, _, rfl, H, hp0, e6⟩ ?_)
    rintro m12 e w ⟨n9, n10, n11, M, rfl, H, hp0, e6⟩
    rcases m12 with _ | m12
    · rw [R_FieldsFault_L1] at e6; cases e6
    rw [R_FieldsFault_L1] at e6
    refine SQ (SQ (RG (MV rfl rfl (MV rfl rfl (ST (Ex.lenSlS Tryz.underlying31 hp0 rfl) rfl (ST (Ex.lss rfl rfl) rfl (NL (TN ?_))))))))
    refine WC.condB rfl (fun hk13 => ?_) (fun hk13 => ?_)
    ·
     replace hk13 : n11 < (p0.length : Int) := of_decide_eq_true hk13
     rw [if_pos hk13] at e6
     refine SK (TN (SQ (BL (SQ ?_))))
     obtain ⟨a14, hxa14, e6⟩ := bnd e6
     obtain ⟨b17, o17, ha17, hc17⟩ := hp0.atC hxa14
     obtain ⟨a15, hxa15, e6⟩ := bnd e6
     obtain ⟨b22, o22, ha22, hc22⟩ := hp0.atC hxa15
     obtain ⟨⟨n16, n17⟩, hx18, e6⟩ := bnd e6
     try dsimp only at e6
     refine WC.cutP (fun e w => ∃ (b19 : Nat) (M : Mem), e = [(0, vp0), (2, ptr b2 0), (3, I n11), (4, ptr b19 0)] ∧ St w0 M0 M [.blk b2 (.cells #[I n9, I n10] 24), .blk b19 (.cells #[I n16, I n17] 24)] w ∧ SlS M 2 xenc50 vp0 p0) ?_ ?_
     ·
      refine WC.draw (m := 13) rfl rfl H ?_
      intro w H
      refine WA.take (i := 0) rfl (by kernel_rfl) (by kernel_rfl) (by kernel_rfl) (fun _ => Ex.move rfl) (Wn.none rfl) rfl rfl (fun _ _ => rfl) (WA.take (i := 1) rfl (by kernel_rfl) (by kernel_rfl) (by kernel_rfl) (fun _ => Ex.move rfl) (Wn.none rfl) rfl rfl (fun _ _ => rfl) (WA.take (i := 2) rfl (by kernel_rfl) (by kernel_rfl) (by kernel_rfl) (fun _ => Ex.idxAt ha17 Tryz.underlying31 Tryz.sizeOf50 rfl rfl) (Wn.none rfl) rfl rfl (fun _ _ => rfl) (WA.take (i := 3) rfl (by kernel_rfl) (by kernel_rfl) (by kernel_rfl) (fun _ => Ex.fieldAddr Tryz.underlying50 rfl Tryz.sizeOf9 (by decide) rfl) (Wn.none rfl) rfl rfl (fun _ _ => rfl) (WA.take (i := 5) rfl (by kernel_rfl) (by kernel_rfl) (by kernel_rfl) (fun _ => Ex.move rfl) (Wn.none rfl) rfl rfl (fun _ _ => rfl) (WA.take (i := 6) rfl (by kernel_rfl) (by kernel_rfl) (by kernel_rfl) (fun _ => Ex.move rfl) (Wn.none rfl) rfl rfl (fun _ _ => rfl) (WA.take (i := 7) rfl (by kernel_rfl) (by kernel_rfl) (by kernel_rfl) (fun _ => Ex.idxAt ha22 Tryz.underlying31 Tryz.sizeOf50 rfl rfl) (Wn.none rfl) rfl rfl (fun _ _ => rfl) ?_))))))
      refine WA.take (i := 8) rfl (by kernel_rfl) (by kernel_rfl) (by kernel_rfl) (fun _ => Ex.fieldAddr Tryz.underlying50 rfl Tryz.sizeOf9 (by decide) rfl) (Wn.none rfl) rfl rfl (fun _ _ => rfl) ?_
      refine WA.three (i := 4) (j := 9) (k := 11) (by kernel_rfl) rfl rfl rfl ?_ ?_ ?_
      ·
       refine ST (Ex.loadM H rfl (hc17.at (j := 0) rfl) Tryz.isAgg9) rfl (NA ?_)
       refine WA.two (i := 9) (j := 11) (by kernel_rfl) rfl rfl ?_ ?_
       ·
        refine ST (Ex.loadM H rfl (hc22.at (j := 1) rfl) Tryz.isAgg9) rfl (NA ?_)
        refine WA.two (i := 10) (j := 11) (by kernel_rfl) rfl rfl ?_ ?_
        ·
         refine WR.call H (R_FoldFault_ct hx18) rfl trivial (Wn.none rfl) rfl ?_
         intro v25 M w H hle hR
         replace hp0 := hp0.mono hle
         replace hc17 := hc17.mono hle
         replace hc22 := hc22.mono hle
         try dsimp only at hR
         obtain rfl := hR
         refine NA (WA.seq (fuel := 0) [11, 12] rfl (by kernel_rfl) (WR.alloc [_, _] H Tryz.zeroValue24 rfl (Wn.none rfl) rfl ?_))
         intro b4 w H
         refine WR.store [_, _] H rfl rfl rfl (by repeat first | exact .head | apply Upd.tail) Tryz.sizeOf24 rfl (by rfl) (by rfl) (Wn.none rfl) ?_
         intro w H
         refine NA (WA.done (by kernel_rfl) ?_)
         exact WQ.meetP [(0, _), (2, _), (3, _), (4, _)] ⟨rfl, rfl, rfl, rfl, trivial⟩ ⟨_, _, rfl, (H.pick (L' := [.blk b2 (.cells #[I n9, I n10] 24), .blk b4 (.cells #[I n16, I n17] 24)]) (by repeat (first | exact Pick.nil | refine Pick.cons (by repeat first | exact .head | apply Rem.tail) ?_))), hp0⟩
        ·
         refine WR.alloc [_, _] H Tryz.zeroValue24 rfl (Wn.none rfl) rfl ?_
         intro b4 w H
         refine NA (WA.seq (fuel := 0) [10, 12] rfl (by kernel_rfl) (WR.call H (R_FoldFault_ct hx18) rfl trivial (Wn.none rfl) rfl ?_))
         intro v25 M w H hle hR
         replace hp0 := hp0.mono hle
         replace hc17 := hc17.mono hle
         replace hc22 := hc22.mono hle
         try dsimp only at hR
         obtain rfl := hR
         refine WR.store [_, _] H rfl rfl rfl (by repeat first | exact .head | apply Upd.tail) Tryz.sizeOf24 rfl (by rfl) (by rfl) (Wn.none rfl) ?_
         intro w H
         refine NA (WA.done (by kernel_rfl) ?_)
         exact WQ.meetP [(0, _), (2, _), (3, _), (4, _)] ⟨rfl, rfl, rfl, rfl, trivial⟩ ⟨_, _, rfl, (H.pick (L' := [.blk b2 (.cells #[I n9, I n10] 24), .blk b4 (.cells #[I n16, I n17] 24)]) (by repeat (first | exact Pick.nil | refine Pick.cons (by repeat first | exact .head | apply Rem.tail) ?_))), hp0⟩
       ·
        refine WR.alloc [_, _] H Tryz.zeroValue24 rfl (Wn.none rfl) rfl ?_
        intro b4 w H
        refine NA (WA.seq (fuel := 0) [9, 10, 12] rfl (by kernel_rfl) (ST (Ex.loadM H rfl (hc22.at (j := 1) rfl) Tryz.isAgg9) rfl (WR.call H (R_FoldFault_ct hx18) rfl trivial (Wn.none rfl) rfl ?_)))
        intro v25 M w H hle hR
        replace hp0 := hp0.mono hle
        replace hc17 := hc17.mono hle
        replace hc22 := hc22.mono hle
        try dsimp only at hR
        obtain rfl := hR
        refine WR.store [_, _] H rfl rfl rfl (by repeat first | exact .head | apply Upd.tail) Tryz.sizeOf24 rfl (by rfl) (by rfl) (Wn.none rfl) ?_
        intro w H
        refine NA (WA.done (by kernel_rfl) ?_)
        exact WQ.meetP [(0, _), (2, _), (3, _), (4, _)] ⟨rfl, rfl, rfl, rfl, trivial⟩ ⟨_, _, rfl, (H.pick (L' := [.blk b2 (.cells #[I n9, I n10] 24), .blk b4 (.cells #[I n16, I n17] 24)]) (by repeat (first | exact Pick.nil | refine Pick.cons (by repeat first | exact .head | apply Rem.tail) ?_))), hp0⟩
      ·
       refine ST (Ex.loadM H rfl (hc22.at (j := 1) rfl) Tryz.isAgg9) rfl (NA ?_)
       refine WA.two (i := 4) (j := 11) (by kernel_rfl) rfl rfl ?_ ?_
       ·
        refine ST (Ex.loadM H rfl (hc17.at (j := 0) rfl) Tryz.isAgg9) rfl (NA ?_)
        refine WA.two (i := 10) (j := 11) (by kernel_rfl) rfl rfl ?_ ?_
        ·
         refine WR.call H (R_FoldFault_ct hx18) rfl trivial (Wn.none rfl) rfl ?_
         intro v25 M w H hle hR
         replace hp0 := hp0.mono hle
         replace hc17 := hc17.mono hle
         replace hc22 := hc22.mono hle
         try dsimp only at hR
         obtain rfl := hR
         refine NA (WA.seq (fuel := 0) [11, 12] rfl (by kernel_rfl) (WR.alloc [_, _] H Tryz.zeroValue24 rfl (Wn.none rfl) rfl ?_))
         intro b4 w H
         refine WR.store [_, _] H rfl rfl rfl (by repeat first | exact .head | apply Upd.tail) Tryz.sizeOf24 rfl (by rfl) (by rfl) (Wn.none rfl) ?_
         intro w H
         refine NA (WA.done (by kernel_rfl) ?_)
         exact WQ.meetP [(0, _), (2, _), (3, _), (4, _)] ⟨rfl, rfl, rfl, rfl, trivial⟩ ⟨_, _, rfl, (H.pick (L' := [.blk b2 (.cells #[I n9, I n10] 24), .blk b4 (.cells #[I n16, I n17] 24)]) (by repeat (first | exact Pick.nil | refine Pick.cons (by repeat first | exact .head | apply Rem.tail) ?_))), hp0⟩
        ·
         refine WR.alloc [_, _] H Tryz.zeroValue24 rfl (Wn.none rfl) rfl ?_
         intro b4 w H
         refine NA (WA.seq (fuel := 0) [10, 12] rfl (by kernel_rfl) (WR.call H (R_FoldFault_ct hx18) rfl trivial (Wn.none rfl) rfl ?_))
         intro v25 M w H hle hR
         replace hp0 := hp0.mono hle
         replace hc17 := hc17.mono hle
         replace hc22 := hc22.mono hle
         try dsimp only at hR
         obtain rfl := hR
         refine WR.store [_, _] H rfl rfl rfl (by repeat first | exact .head | apply Upd.tail) Tryz.sizeOf24 rfl (by rfl) (by rfl) (Wn.none rfl) ?_
         intro w H
         refine NA (WA.done (by kernel_rfl) ?_)
         exact WQ.meetP [(0, _), (2, _), (3, _), (4, _)] ⟨rfl, rfl, rfl, rfl, trivial⟩ ⟨_, _, rfl, (H.pick (L' := [.blk b2 (.cells #[I n9, I n10] 24), .blk b4 (.cells #[I n16, I n17] 24)]) (by repeat (first | exact Pick.nil | refine Pick.cons (by repeat first | exact .head | apply Rem.tail) ?_))), hp0⟩
       ·
        refine WR.alloc [_, _] H Tryz.zeroValue24 rfl (Wn.none rfl) rfl ?_
        intro b4 w H
        refine NA (WA.seq (fuel := 0) [4, 10, 12] rfl (by kernel_rfl) (ST (Ex.loadM H rfl (hc17.at (j := 0) rfl) Tryz.isAgg9) rfl (WR.call H (R_FoldFault_ct hx18) rfl trivial (Wn.none rfl) rfl ?_)))
        intro v25 M w H hle hR
        replace hp0 := hp0.mono hle
        replace hc17 := hc17.mono hle
        replace hc22 := hc22.mono hle
        try dsimp only at hR
        obtain rfl := hR
        refine WR.store [_, _] H rfl rfl rfl (by repeat first | exact .head | apply Upd.tail) Tryz.sizeOf24 rfl (by rfl) (by rfl) (Wn.none rfl) ?_
        intro w H
        refine NA (WA.done (by kernel_rfl) ?_)
        exact WQ.meetP [(0, _), (2, _), (3, _), (4, _)] ⟨rfl, rfl, rfl, rfl, trivial⟩ ⟨_, _, rfl, (H.pick (L' := [.blk b2 (.cells #[I n9, I n10] 24), .blk b4 (.cells #[I n16, I n17] 24)]) (by repeat (first | exact Pick.nil | refine Pick.cons (by repeat first | exact .head | apply Rem.tail) ?_))), hp0⟩
      ·
       refine WR.alloc [_, _] H Tryz.zeroValue24 rfl (Wn.none rfl) rfl ?_
       intro b4 w H
       refine NA (WA.takeM (i := 4) [9] rfl (by kernel_rfl) (by kernel_rfl) (by kernel_rfl) (Ex.loadM H rfl (hc17.at (j := 0) rfl) Tryz.isAgg9) (Wn.none rfl) rfl rfl (fun _ _ => rfl) (WA.seq (fuel := 0) [9, 10, 12] rfl (by kernel_rfl) (ST (Ex.loadM H rfl (hc22.at (j := 1) rfl) Tryz.isAgg9) rfl (WR.call H (R_FoldFault_ct hx18) rfl trivial (Wn.none rfl) rfl ?_))))
       intro v25 M w H hle hR
       replace hp0 := hp0.mono hle
       replace hc17 := hc17.mono hle
       replace hc22 := hc22.mono hle
       try dsimp only at hR
       obtain rfl := hR
       refine WR.store [_, _] H rfl rfl rfl (by repeat first | exact .head | apply Upd.tail) Tryz.sizeOf24 rfl (by rfl) (by rfl) (Wn.none rfl) ?_
       intro w H
       refine NA (WA.done (by kernel_rfl) ?_)
       exact WQ.meetP [(0, _), (2, _), (3, _), (4, _)] ⟨rfl, rfl, rfl, rfl, trivial⟩ ⟨_, _, rfl, (H.pick (L' := [.blk b2 (.cells #[I n9, I n10] 24), .blk b4 (.cells #[I n16, I n17] 24)]) (by repeat (first | exact Pick.nil | refine Pick.cons (by repeat first | exact .head | apply Rem.tail) ?_))), hp0⟩
     ·
      rintro e w ⟨b19, M, rfl, H, hp0⟩
      refine TN (SQ (RG (ST (Ex.fieldAddr Tryz.underlying24 rfl Tryz.sizeOf3 (by decide) rfl) rfl (ST (Ex.load1 H rfl (by repeat (first | exact List.Mem.head _ | apply List.Mem.tail)) Tryz.isAgg3 (by rfl)) rfl ?_))))
      refine ST (Ex.neqC rfl rfl) rfl (NL (TN ?_))
      refine WC.condB rfl (fun hk20 => ?_) (fun hk20 => ?_)
      ·
       replace hk20 : ¬ (n16 = (0 : Int)) := of_not_decide hk20
       rw [if_neg hk20] at e6
       refine SQ ?_
       obtain ⟨⟨n21, n22⟩, hx23, e6⟩ := bnd e6
       try dsimp only at e6
       refine RG (ST (Ex.fieldAddr Tryz.underlying24 rfl Tryz.sizeOf3 (by decide) rfl) rfl (ST (Ex.load1 H rfl (by repeat (first | exact List.Mem.head _ | apply List.Mem.tail)) Tryz.isAgg3 (by rfl)) rfl ?_))
       refine MV rfl rfl (WR.call H (R_At_ct hx23) rfl trivial (Wn.none rfl) rfl ?_)
       intro v32 M w H hle hR
       replace hp0 := hp0.mono hle
       try dsimp only at hR
       obtain rfl := hR
       refine WR.store [_, _] H rfl rfl rfl (by repeat first | exact .head | apply Upd.tail) Tryz.sizeOf24 rfl (by rfl) (by rfl) (Wn.none rfl) ?_
       intro w H
       refine NL (TN (RT ?_))
       obtain rfl := Option.some.inj e6
       try dsimp only at h
       obtain rfl := Option.some.inj h
       exact WQ.ret1 rfl ⟨_, rfl, H.loadAgg (by repeat (first | exact List.Mem.head _ | apply List.Mem.tail)) Tryz.isAgg24 Tryz.sizeOf24 (by rfl)⟩ H.ext rfl
      ·
       replace hk20 : n16 = (0 : Int) := of_not_decide' hk20
       rw [if_pos hk20] at e6
       refine SK (IB (TN ?_))
       obtain ⟨n24, hxn24, e6⟩ := bnd e6
       refine RG (MV rfl rfl (ST (Ex.addC rfl rfl hxn24) rfl (AS rfl rfl (NL ?_))))
       exact WQ.againP m12 [(0, _), (2, _), (3, _)] ⟨rfl, rfl, rfl, trivial⟩ ⟨_, _, _, _, rfl, (H.pick (L' := [.blk b2 (.cells #[I n9, I n10] 24)]) (by repeat (first | exact Pick.nil | refine Pick.cons (by repeat first | exact .head | apply Rem.tail) ?_))), hp0, e6⟩ (Nat.lt_succ_self _)
    ·
     replace hk13 : ¬ (n11 < (p0.length : Int)) := of_decide_eq_false hk13
     rw [if_neg hk13] at e6
     refine WC.exit (WQ.thenExit (WQ.thenExit (WQ.exitHere ?_)))
     exact WQ.meetN [(2, _)] ⟨rfl, trivial⟩ ⟨_, _, _, rfl, H, e6⟩
   ·
    rintro e w ⟨n7, n8, M, rfl, H, q25⟩
    obtain rfl := Option.some.inj q25
    try dsimp only at h
    refine TN (SQ (RG (ST (Ex.build [I 0, I 0] Tryz.underlying24 Tryz.zeroValue24 (xplaces24 Tryz.underlying24) rfl rfl) rfl (WR.store [_, _] H rfl rfl rfl (by repeat first | exact .head | apply Upd.tail) Tryz.sizeOf24 rfl (by rfl) (by rfl) (Wn.none rfl) ?_))))
    intro w H
    refine NL (TN (RT ?_))
    obtain rfl := Option.some.inj h
    exact WQ.ret1 rfl ⟨_, rfl, H.loadAgg (by repeat (first | exact List.Mem.head _ | apply List.Mem.tail)) Tryz.isAgg24 Tryz.sizeOf24 (by rfl)⟩ H.ext rfl
theorem R_ValuesOf_ct {p0 : List (List UInt8 × List UInt8)} {p1 : List UInt8} {vp0 : Value} {r : List (List UInt8)} (h : R_ValuesOf p0 p1 = some r) : Ct Tryz.prog 33 [vp0, S p1] (fun M => SlS M 2 xenc50 vp0 p0) (fun v M => Sl M encS v r) := by
  refine Ct.of Tryz.func33 (enters Tryz.func33 (by kernel_rfl) rfl) rfl rfl rfl ?_
  intro w0 M0 H hp
  have hp0 := hp
  unfold R_ValuesOf at h
  refine SQ (RG (AS rfl rfl (NL (TN (SQ (RG (AS rfl rfl (NL (TN (SQ (SQ (RG (AS rfl rfl (NL (TN ?_)))))))))))))))
  obtain ⟨o1, e2, h⟩ := bnd h
  refine WC.cutX (fun e w => ∃ (l4 : List (List UInt8)) (v5 : Value) (M : Mem), e = [(5, v5)] ∧ St w0 M0 M [RowI 9 encS v5 l4] w ∧ some l4 = some o1) [] ?_ ?_ (trivial)
  ·
   refine BL ?_
   replace H := H.newRow 9 encS
   refine WC.loopP (fun m e w => ∃ (l7 : List (List UInt8)) (v8 : Value) (n9 : Int) (M : Mem), e = [(0, vp0), (1, S p1), (5, v8), (6, I n9)] ∧ St w0 M0 M [RowI 9 encS v8 l7] w ∧ SlS M 2 xenc50 vp0 p0 ∧ R_ValuesOf_L1 p0 p1 m l7 n9 = some o1) FU [(0, _), (1, _), (5, _), (6, _)] ⟨rfl, rfl, rfl, rfl, trivial⟩ ⟨_, _, _, _, rfl, H, hp0, e2⟩ ?_
   rintro m10 e w ⟨l7, v8, n9, M, rfl, H, hp0, e2⟩
   rcases m10 with _ | m10
   · rw [R_ValuesOf_L1] at e2; cases e2
   rw [R_ValuesOf_L1] at e2
   refine SQ (SQ (RG (MV rfl rfl (MV rfl rfl (ST (Ex.lenSlS Tryz.underlying31 hp0 rfl) rfl (ST (Ex.lss rfl rfl) rfl (NL (TN ?_))))))))
   refine WC.condB rfl (fun hk12 => ?_) (fun hk12 => ?_)
   ·
    replace hk12 : n9 < (p0.length : Int) := of_decide_eq_true hk12
    rw [if_pos hk12] at e2
    refine SK (TN (SQ (BL (SQ ?_))))
    obtain ⟨a13, hxa13, e2⟩ := bnd e2
    obtain ⟨b15, o15, ha15, hc15⟩ := hp0.atC hxa13
    obtain ⟨b14, hx15, e2⟩ := bnd e2
    refine RG (MV rfl rfl (MV rfl rfl (ST (Ex.idxAt ha15 Tryz.underlying31 Tryz.sizeOf50 rfl rfl) rfl (ST (Ex.fieldAddr Tryz.underlying50 rfl Tryz.sizeOf9 (by decide) rfl) rfl (ST (Ex.loadM H rfl (hc15.at (j := 0) rfl) Tryz.isAgg9) rfl (MV rfl rfl (WR.call H (R_Alike_ct hx15) rfl trivial (Wn.none rfl) rfl ?_)))))))
    intro v19 M w H hle hR
    replace hp0 := hp0.mono hle
    replace hc15 := hc15.mono hle
    obtain rfl := hR
    refine NL (TN ?_)
    refine WC.condB rfl (fun hk16 => ?_) (fun hk16 => ?_)
    ·
     subst hk16
     rw [if_pos rfl] at e2
     obtain ⟨a17, hxa17, e2⟩ := bnd e2
     obtain ⟨b23, o23, ha23, hc23⟩ := hp0.atC hxa17
     obtain ⟨l18, hxl18, e2⟩ := bnd e2
     refine RG (MV rfl rfl (MV rfl rfl (MV rfl rfl (ST (Ex.idxAt ha23 Tryz.underlying31 Tryz.sizeOf50 rfl rfl) rfl (ST (Ex.fieldAddr Tryz.underlying50 rfl Tryz.sizeOf9 (by decide) rfl) rfl (ST (Ex.loadM H rfl (hc23.at (j := 1) rfl) Tryz.isAgg9) rfl (WR.lit (enc := encS) xty43 ([a17.2] : List (List UInt8)) H rfl (by rfl) (fun _ => rfl) rfl rfl (Wn.none rfl) rfl ?_)))))))
     intro v26 M w H hle hs26
     replace hp0 := hp0.mono hle
     replace hc15 := hc15.mono hle
     replace hc23 := hc23.mono hle
     refine WR.appC (l := l7) xty43 rfl (fun _ => rfl) H rfl (fun _ => by repeat first | exact .head | apply Upd.tail) rfl (hs26) hxl18 (Wn.none rfl) rfl ?_
     intro v27 w H
     refine AS rfl rfl (NL (IB (TN ?_)))
     obtain ⟨n19, hxn19, e2⟩ := bnd e2
     refine RG (MV rfl rfl (ST (Ex.addC rfl rfl hxn19) rfl (AS rfl rfl (NL ?_))))
     exact WQ.againP m10 [(0, _), (1, _), (5, _), (6, _)] ⟨rfl, rfl, rfl, rfl, trivial⟩ ⟨_, _, _, _, rfl, H, hp0, e2⟩ (Nat.lt_succ_self _)
    ·
     subst hk16
     rw [if_neg Bool.false_ne_true] at e2
     refine SK (IB (TN ?_))
     obtain ⟨n20, hxn20, e2⟩ := bnd e2
     refine RG (MV rfl rfl (ST (Ex.addC rfl rfl hxn20) rfl (AS rfl rfl (NL ?_))))
     exact WQ.againP m10 [(0, _), (1, _), (5, _), (6, _)] ⟨rfl, rfl, rfl, rfl, trivial⟩ ⟨_, _, _, _, rfl, H, hp0, e2⟩ (Nat.lt_succ_self _)
   ·
    replace hk12 : ¬ (n9 < (p0.length : Int)) := of_decide_eq_false hk12
    rw [if_neg hk12] at e2
    refine WC.exit (WQ.thenExit (WQ.thenExit (WQ.exitHere ?_)))
    exact WQ.meetN [(5, _)] ⟨rfl, trivial⟩ ⟨_, _, _, rfl, H, e2⟩
  ·
   rintro e w ⟨l4, v5, M, rfl, H, q21⟩
   obtain rfl := Option.some.inj q21
   refine TN (SQ (RG (MV rfl rfl (AS rfl rfl (NL (TN (RT ?_)))))))
   obtain ⟨M, hle, hs22, H⟩ := H.freezeRow (v := v5) (enc := encS) (t := 9) (by repeat first | exact .head | apply Rem.tail)
   obtain rfl := Option.some.inj h
   exact WQ.ret1 rfl rfl H.ext hs22
end Go.Proofs.YtogkmhjnojphiaaGreatDoor
end
section
set_option maxRecDepth 100000
set_option linter.unusedVariables false
set_option linter.unusedSimpArgs false
namespace Go.Proofs.YtogkmhjnojphiaaGreatDoor
open Go Go.RowKit Go.Ph Go.Ph.Pl Go.Ph.Pf
theorem L_HeaderGetMatchesSpec_ct {p0 : List (List UInt8 × List UInt8)} {p1 : List UInt8} {vp0 : Value} {r : Bool} (h : L_HeaderGetMatchesSpec p0 p1 = some r) : Ct Tryz.prog 8 [vp0, S p1] (fun M => GlF (fun w => ∃ m, w.cell? ⟨2, 0, none⟩ = some (.int .i64 m)) M ∧ SlS M 2 xenc50 vp0 p0) (fun v M => v = Value.bool r) := by
  refine Ct.of Tryz.func8 (enters Tryz.func8 (by kernel_rfl) rfl) rfl rfl rfl ?_
  intro w0 M0 H hp
  obtain ⟨hg_maxl, hp0⟩ := hp
  unfold L_HeaderGetMatchesSpec at h
  refine SQ (RG (AS rfl rfl (NL (TN (SQ (SQ ?_))))))
  obtain ⟨b1, hx2, h⟩ := bnd h
  refine RG (WR.call H (L_headerExample_ct hx2) rfl (hg_maxl) (Wn.none rfl) rfl ?_)
  intro v12 M w H hle hR
  replace hg_maxl := hg_maxl.mono hle
  replace hp0 := hp0.mono hle
  obtain rfl := hR
  refine ST (Ex.not rfl) rfl (NL (TN ?_))
  refine WC.condB rfl (fun hk3 => ?_) (fun hk3 => ?_)
  ·
   replace hk3 : b1 = false := by simpa using hk3
   subst hk3
   rw [if_neg Bool.false_ne_true] at h
   refine SQ (RG (AS rfl rfl (NL (TN (RT ?_)))))
   obtain rfl := Option.some.inj h
   exact WQ.ret1 rfl rfl H.ext rfl
  ·
   replace hk3 : b1 = true := by simpa using hk3
   subst hk3
   rw [if_pos rfl] at h
   refine SK (TN (SQ ?_))
   obtain ⟨⟨l4, ⟨n5, n6⟩⟩, hx7, h⟩ := bnd h
   try dsimp only at h
   refine RG (MV rfl rfl (MV rfl rfl (WR.call H (header_Get_ct hx7) rfl (hp0) (Wn.none rfl) rfl ?_)))
   intro v17 M w H hle hR
   replace hg_maxl := hg_maxl.mono hle
   replace hp0 := hp0.mono hle
   try dsimp only at hR
   obtain ⟨x17_0, rfl, f17_0⟩ := hR
   refine MV rfl rfl (ST (Ex.extract rfl rfl) rfl (ST (Ex.extract rfl rfl) rfl (WR.alloc [_, _] H Tryz.zeroValue24 rfl (Wn.none rfl) rfl ?_)))
   intro b6 w H
   refine AS rfl rfl (WR.store [_, _] H rfl rfl rfl (by repeat first | exact .head | apply Upd.tail) Tryz.sizeOf24 rfl (by rfl) (by rfl) (Wn.none rfl) ?_)
   intro w H
   refine NL (TN (SQ ?_))
   obtain ⟨⟨l8, ⟨n9, n10⟩⟩, hx11, h⟩ := bnd h
   try dsimp only at h
   refine RG (MV rfl rfl (MV rfl rfl (WR.call H (header_Without_ct hx11) rfl (hp0) (Wn.none rfl) rfl ?_)))
   intro v23 M w H hle hR
   replace hg_maxl := hg_maxl.mono hle
   replace hp0 := hp0.mono hle
   replace f17_0 := f17_0.mono hle
   try dsimp only at hR
   obtain ⟨x23_0, rfl, f23_0⟩ := hR
   refine MV rfl rfl (ST (Ex.extract rfl rfl) rfl (ST (Ex.extract rfl rfl) rfl (WR.alloc [_, _] H Tryz.zeroValue24 rfl (Wn.none rfl) rfl ?_)))
   intro b8 w H
   refine AS rfl rfl (WR.store [_, _] H rfl rfl rfl (by repeat first | exact .head | apply Upd.tail) Tryz.sizeOf24 rfl (by rfl) (by rfl) (Wn.none rfl) ?_)
   intro w H
   refine NL (TN (SQ ?_))
   obtain ⟨⟨n12, n13⟩, hx14, h⟩ := bnd h
   try dsimp only at h
   refine RG (MV rfl rfl (WR.call H (R_FieldsFault_ct hx14) rfl (hp0) (Wn.none rfl) rfl ?_))
   intro v27 M w H hle hR
   replace hg_maxl := hg_maxl.mono hle
   replace hp0 := hp0.mono hle
   replace f17_0 := f17_0.mono hle
   replace f23_0 := f23_0.mono hle
   try dsimp only at hR
   obtain rfl := hR
   refine WR.alloc [_, _] H Tryz.zeroValue24 rfl (Wn.none rfl) rfl ?_
   intro b9 w H
   refine WR.store [_, _] H rfl rfl rfl (by repeat first | exact .head | apply Upd.tail) Tryz.sizeOf24 rfl (by rfl) (by rfl) (Wn.none rfl) ?_
   intro w H
   refine NL (TN (SQ (SQ ?_)))
   obtain ⟨o15, e16, h⟩ := bnd h
   refine WC.cutX (fun e w => ∃ (b17 : Bool) (M : Mem), e = [(0, vp0), (1, S p1), (5, x17_0), (6, ptr b6 0), (7, x23_0), (8, ptr b8 0), (9, ptr b9 0), (35, Value.bool b17)] ∧ St w0 M0 M [.blk b6 (.cells #[I n5, I n6] 24), .blk b8 (.cells #[I n9, I n10] 24), .blk b9 (.cells #[I n12, I n13] 24)] w ∧ GlF (fun w => ∃ m, w.cell? ⟨2, 0, none⟩ = some (.int .i64 m)) M ∧ SlS M 2 xenc50 vp0 p0 ∧ Sl M encS x17_0 l4 ∧ SlS M 2 xenc50 x23_0 l8 ∧ some b17 = some o15) [] ?_ ?_ (trivial)
   ·
    refine RG (ST (Ex.fieldAddr Tryz.underlying24 rfl Tryz.sizeOf3 (by decide) rfl) rfl (ST (Ex.load1 H rfl (by repeat (first | exact List.Mem.head _ | apply List.Mem.tail)) Tryz.isAgg3 (by rfl)) rfl ?_))
    by_cases hk18 : n12 = (0 : Int)
    ·
     rw [if_pos hk18] at e16
     obtain ⟨b19, hx20, e16⟩ := bnd e16
     refine WR.stepE (v' := .bool true) (Ex.eql rfl rfl) (congrArg Value.bool (decide_eq_true hk18)) (Wn.none rfl) rfl rfl (MV rfl rfl (SG (Ex.move rfl) rfl rfl rfl (WR.call H (R_FieldName_ct hx20) rfl trivial (Wn.some rfl rfl rfl) rfl ?_)))
     intro v33 M w H hle hR
     replace hg_maxl := hg_maxl.mono hle
     replace hp0 := hp0.mono hle
     replace f17_0 := f17_0.mono hle
     replace f23_0 := f23_0.mono hle
     obtain rfl := hR
     refine SG (Ex.not rfl) rfl rfl rfl (PT rfl rfl rfl (NL ?_))
     exact WQ.meetN [(0, _), (1, _), (5, _), (6, _), (7, _), (8, _), (9, _), (35, _)] ⟨rfl, rfl, rfl, rfl, rfl, rfl, rfl, rfl, trivial⟩ ⟨_, _, rfl, (H.pick (L' := [.blk b6 (.cells #[I n5, I n6] 24), .blk b8 (.cells #[I n9, I n10] 24), .blk b9 (.cells #[I n12, I n13] 24)]) (by repeat (first | exact Pick.nil | refine Pick.cons (by repeat first | exact .head | apply Rem.tail) ?_))), hg_maxl, hp0, f17_0, f23_0, e16⟩
    ·
     rw [if_neg hk18] at e16
     refine WR.stepE (v' := .bool false) (Ex.eql rfl rfl) (congrArg Value.bool (decide_eq_false hk18)) (Wn.none rfl) rfl rfl (MV rfl rfl (WR.skipN 3 rfl rfl (PF rfl rfl rfl (NL ?_))))
     exact WQ.meetN [(0, _), (1, _), (5, _), (6, _), (7, _), (8, _), (9, _), (35, _)] ⟨rfl, rfl, rfl, rfl, rfl, rfl, rfl, rfl, trivial⟩ ⟨_, _, rfl, (H.pick (L' := [.blk b6 (.cells #[I n5, I n6] 24), .blk b8 (.cells #[I n9, I n10] 24), .blk b9 (.cells #[I n12, I n13] 24)]) (by repeat (first | exact Pick.nil | refine Pick.cons (by repeat first | exact .head | apply Rem.tail) ?_))), hg_maxl, hp0, f17_0, f23_0, e16⟩
   ·
    rintro e w ⟨b17, M, rfl, H, hg_maxl, hp0, f17_0, f23_0, q21⟩
    obtain rfl := Option.some.inj q21
    refine TN ?_
    obtain ⟨o22, e23, h⟩ := bnd h
    refine WC.cutX (fun e w => ∃ (n24 : Int) (n25 : Int) (M : Mem), e = [(0, vp0), (1, S p1), (5, x17_0), (6, ptr b6 0), (7, x23_0), (8, ptr b8 0), (9, ptr b9 0)] ∧ St w0 M0 M [.blk b6 (.cells #[I n5, I n6] 24), .blk b8 (.cells #[I n9, I n10] 24), .blk b9 (.cells #[I n24, I n25] 24)] w ∧ GlF (fun w => ∃ m, w.cell? ⟨2, 0, none⟩ = some (.int .i64 m)) M ∧ SlS M 2 xenc50 vp0 p0 ∧ Sl M encS x17_0 l4 ∧ SlS M 2 xenc50 x23_0 l8 ∧ some (n24, n25) = some o22) [] ?_ ?_ (trivial)
    ·
     refine WC.condB rfl (fun hk26 => ?_) (fun hk26 => ?_)
     ·
      subst hk26
      rw [if_pos rfl] at e23
      obtain ⟨⟨n27, n28⟩, hx29, e23⟩ := bnd e23
      try dsimp only at e23
      refine RG (WR.call H (R_At_ct hx29) rfl trivial (Wn.none rfl) rfl ?_)
      intro v36 M w H hle hR
      replace hg_maxl := hg_maxl.mono hle
      replace hp0 := hp0.mono hle
      replace f17_0 := f17_0.mono hle
      replace f23_0 := f23_0.mono hle
      try dsimp only at hR
      obtain rfl := hR
      refine WR.store [_, _] H rfl rfl rfl (by repeat first | exact .head | apply Upd.tail) Tryz.sizeOf24 rfl (by rfl) (by rfl) (Wn.none rfl) ?_
      intro w H
      refine NL ?_
      exact WQ.meetN [(0, _), (1, _), (5, _), (6, _), (7, _), (8, _), (9, _)] ⟨rfl, rfl, rfl, rfl, rfl, rfl, rfl, trivial⟩ ⟨_, _, _, rfl, H, hg_maxl, hp0, f17_0, f23_0, e23⟩
     ·
      subst hk26
      rw [if_neg Bool.false_ne_true] at e23
      refine SK ?_
      exact WQ.meetN [(0, _), (1, _), (5, _), (6, _), (7, _), (8, _), (9, _)] ⟨rfl, rfl, rfl, rfl, rfl, rfl, rfl, trivial⟩ ⟨_, _, _, rfl, H, hg_maxl, hp0, f17_0, f23_0, e23⟩
    ·
     rintro e w ⟨n24, n25, M, rfl, H, hg_maxl, hp0, f17_0, f23_0, q30⟩
     obtain rfl := Option.some.inj q30
     try dsimp only at h
     refine TN (SQ (SQ (RG (ST (Ex.fieldAddr Tryz.underlying24 rfl Tryz.sizeOf3 (by decide) rfl) rfl (ST (Ex.load1 H rfl (by repeat (first | exact List.Mem.head _ | apply List.Mem.tail)) Tryz.isAgg3 (by rfl)) rfl ?_)))))
     refine ST (Ex.neqC rfl rfl) rfl (NL (TN ?_))
     refine WC.condB rfl (fun hk31 => ?_) (fun hk31 => ?_)
     ·
      replace hk31 : ¬ (n24 = (0 : Int)) := of_not_decide hk31
      rw [if_neg hk31] at h
      refine SQ ?_
      obtain ⟨o32, e33, h⟩ := bnd h
      refine WC.cutX (fun e w => ∃ (b34 : Bool) (M : Mem), e = [(4, Value.bool b34)] ∧ St w0 M0 M [] w ∧ GlF (fun w => ∃ m, w.cell? ⟨2, 0, none⟩ = some (.int .i64 m)) M ∧ some b34 = some o32) [] ?_ ?_ (trivial)
      ·
       refine RG (ST (Ex.loadAgg H rfl (by repeat (first | exact List.Mem.head _ | apply List.Mem.tail)) Tryz.isAgg24 Tryz.sizeOf24 (by rfl)) rfl ?_)
       refine ST (Ex.loadAgg H rfl (by repeat (first | exact List.Mem.head _ | apply List.Mem.tail)) Tryz.isAgg24 Tryz.sizeOf24 (by rfl)) rfl ?_
       by_cases hk35 : n5 = n24 ∧ n6 = n25
       ·
        rw [if_pos hk35] at e33
        by_cases hk36 : n9 = n24 ∧ n10 = n25
        ·
         rw [if_pos hk36] at e33
         obtain ⟨n37, hxn37, e33⟩ := bnd e33
         refine WR.stepE (v' := .bool true) (Ex.eqlAgg rfl rfl (by kernel_rfl) (xeq24 n5 n24 n6 n25)) (congrArg Value.bool (decide_eq_true hk35)) (Wn.none rfl) rfl rfl (MV rfl rfl (SG (Ex.loadAgg H rfl (by repeat (first | exact List.Mem.head _ | apply List.Mem.tail)) Tryz.isAgg24 Tryz.sizeOf24 (by rfl)) rfl rfl rfl ?_))
         refine SG (Ex.loadAgg H rfl (by repeat (first | exact List.Mem.head _ | apply List.Mem.tail)) Tryz.isAgg24 Tryz.sizeOf24 (by rfl)) rfl rfl rfl ?_
         refine WR.stepE (v' := .bool true) (Ex.eqlAgg rfl rfl (by kernel_rfl) (xeq24 n9 n24 n10 n25)) (congrArg Value.bool (decide_eq_true hk36)) (Wn.some rfl rfl rfl) rfl rfl (PT rfl rfl rfl (MV rfl rfl (SG (Ex.move rfl) rfl rfl rfl (SG (Ex.lenSl Tryz.underlying43 f17_0 rfl) rfl rfl rfl (SG (Ex.move rfl) rfl rfl rfl (SG (Ex.lenSlS Tryz.underlying31 f23_0 rfl) rfl rfl rfl (SG (Ex.addC rfl rfl hxn37) rfl rfl rfl (SG (Ex.eql rfl rfl) rfl rfl rfl (PT rfl rfl rfl (AS rfl rfl (NL ?_)))))))))))
         exact WQ.meetN [(4, _)] ⟨rfl, trivial⟩ ⟨_, _, rfl, (H.pick (L' := []) (by repeat (first | exact Pick.nil | refine Pick.cons (by repeat first | exact .head | apply Rem.tail) ?_))), hg_maxl, e33⟩
        ·
         rw [if_neg hk36] at e33
         refine WR.stepE (v' := .bool true) (Ex.eqlAgg rfl rfl (by kernel_rfl) (xeq24 n5 n24 n6 n25)) (congrArg Value.bool (decide_eq_true hk35)) (Wn.none rfl) rfl rfl (MV rfl rfl (SG (Ex.loadAgg H rfl (by repeat (first | exact List.Mem.head _ | apply List.Mem.tail)) Tryz.isAgg24 Tryz.sizeOf24 (by rfl)) rfl rfl rfl ?_))
         refine SG (Ex.loadAgg H rfl (by repeat (first | exact List.Mem.head _ | apply List.Mem.tail)) Tryz.isAgg24 Tryz.sizeOf24 (by rfl)) rfl rfl rfl ?_
         refine WR.stepE (v' := .bool false) (Ex.eqlAgg rfl rfl (by kernel_rfl) (xeq24 n9 n24 n10 n25)) (congrArg Value.bool (decide_eq_false hk36)) (Wn.some rfl rfl rfl) rfl rfl (PT rfl rfl rfl (MV rfl rfl (WR.skipN 6 rfl rfl (PF rfl rfl rfl (AS rfl rfl (NL ?_))))))
         exact WQ.meetN [(4, _)] ⟨rfl, trivial⟩ ⟨_, _, rfl, (H.pick (L' := []) (by repeat (first | exact Pick.nil | refine Pick.cons (by repeat first | exact .head | apply Rem.tail) ?_))), hg_maxl, e33⟩
       ·
        rw [if_neg hk35] at e33
        refine WR.stepE (v' := .bool false) (Ex.eqlAgg rfl rfl (by kernel_rfl) (xeq24 n5 n24 n6 n25)) (congrArg Value.bool (decide_eq_false hk35)) (Wn.none rfl) rfl rfl (MV rfl rfl (WR.skipN 3 rfl rfl (PF rfl rfl rfl (MV rfl rfl (WR.skipN 6 rfl rfl (PF rfl rfl rfl (AS rfl rfl (NL ?_))))))))
        exact WQ.meetN [(4, _)] ⟨rfl, trivial⟩ ⟨_, _, rfl, (H.pick (L' := []) (by repeat (first | exact Pick.nil | refine Pick.cons (by repeat first | exact .head | apply Rem.tail) ?_))), hg_maxl, e33⟩
      ·
       rintro e w ⟨b34, M, rfl, H, hg_maxl, q38⟩
       obtain rfl := Option.some.inj q38
       refine TN (RT ?_)
       obtain rfl := Option.some.inj h
       exact WQ.ret1 rfl rfl H.ext rfl
     ·
      replace hk31 : n24 = (0 : Int) := of_not_decide' hk31
      rw [if_pos hk31] at h
      refine SK (TN (SQ (RG (AS rfl rfl (NL (TN (SQ (SQ (RG (AS rfl rfl (NL (TN ?_))))))))))))
      obtain ⟨o39, e40, h⟩ := bnd h
      refine WC.cutX (fun e w => ∃ (l42 : List (List UInt8 × List UInt8)) (v43 : Value) (M : Mem), e = [(0, vp0), (1, S p1), (5, x17_0), (6, ptr b6 0), (7, x23_0), (8, ptr b8 0), (10, v43)] ∧ St w0 M0 M [.blk b6 (.cells #[I n5, I n6] 24), .blk b8 (.cells #[I n9, I n10] 24), RowS 50 2 xenc50 v43 l42] w ∧ GlF (fun w => ∃ m, w.cell? ⟨2, 0, none⟩ = some (.int .i64 m)) M ∧ SlS M 2 xenc50 vp0 p0 ∧ Sl M encS x17_0 l4 ∧ SlS M 2 xenc50 x23_0 l8 ∧ some l42 = some o39) [] ?_ ?_ (trivial)
      ·
       refine BL ?_
       replace H := H.newRowS 50 2 xenc50
       refine WC.loopP (fun m e w => ∃ (l45 : List (List UInt8 × List UInt8)) (v46 : Value) (n47 : Int) (M : Mem), e = [(0, vp0), (1, S p1), (5, x17_0), (6, ptr b6 0), (7, x23_0), (8, ptr b8 0), (10, v46), (11, I n47)] ∧ St w0 M0 M [.blk b6 (.cells #[I n5, I n6] 24), .blk b8 (.cells #[I n9, I n10] 24), RowS 50 2 xenc50 v46 l45] w ∧ GlF (fun w => ∃ m, w.cell? ⟨2, 0, none⟩ = some (.int .i64 m)) M ∧ SlS M 2 xenc50 vp0 p0 ∧ Sl M encS x17_0 l4 ∧ SlS M 2 xenc50 x23_0 l8 ∧ L_HeaderGetMatchesSpec_L1 p0 p1 m l45 n47 = some o39) FU [(0, _), (1, _), (5, _), (6, _), (7, _), (8, _), (10, _), (11, _)] ⟨rfl, rfl, rfl, rfl, rfl, rfl, rfl, rfl, trivial⟩ ⟨_, _, _, _, rfl, (H.pick (L' := [.blk b6 (.cells #[I n5, I n6] 24), .blk b8 (.cells #[I n9, I n10] 24), RowS 50 2 xenc50 (Value.slice none 0 0) []]) (by repeat (first | exact Pick.nil | refine Pick.cons (by repeat first | exact .head | apply Rem.tail) ?_))), hg_maxl, hp0, f17_0, f23_0, e40⟩ ?_
       rintro m48 e w ⟨l45, v46, n47, M, rfl, H, hg_maxl, hp0, f17_0, f23_0, e40⟩
       rcases m48 with _ | m48
       · rw [L_HeaderGetMatchesSpec_L1] at e40; cases e40
       rw [L_HeaderGetMatchesSpec_L1] at e40
       refine SQ (SQ (RG (MV rfl rfl (MV rfl rfl (ST (Ex.lenSlS Tryz.underlying31 hp0 rfl) rfl (ST (Ex.lss rfl rfl) rfl (NL (TN ?_))))))))
       refine WC.condB rfl (fun hk50 => ?_) (fun hk50 => ?_)
       ·
        replace hk50 : n47 < (p0.length : Int) := of_decide_eq_true hk50
        rw [if_pos hk50] at e40
        refine SK (TN (SQ (BL (SQ ?_))))
        obtain ⟨a51, hxa51, e40⟩ := bnd e40
        obtain ⟨b64, o64, ha64, hc64⟩ := hp0.atC hxa51
        obtain ⟨b52, hx53, e40⟩ := bnd e40
        refine RG (MV rfl rfl (MV rfl rfl (ST (Ex.idxAt ha64 Tryz.underlying31 Tryz.sizeOf50 rfl rfl) rfl (ST (Ex.fieldAddr Tryz.underlying50 rfl Tryz.sizeOf9 (by decide) rfl) rfl (ST (Ex.loadM H rfl (hc64.at (j := 0) rfl) Tryz.isAgg9) rfl (MV rfl rfl (WR.call H (R_Alike_ct hx53) rfl trivial (Wn.none rfl) rfl ?_)))))))
        intro v68 M w H hle hR
        replace hg_maxl := hg_maxl.mono hle
        replace hp0 := hp0.mono hle
        replace f17_0 := f17_0.mono hle
        replace f23_0 := f23_0.mono hle
        replace hc64 := hc64.mono hle
        obtain rfl := hR
        refine ST (Ex.not rfl) rfl (NL (TN ?_))
        refine WC.condB rfl (fun hk54 => ?_) (fun hk54 => ?_)
        ·
         replace hk54 : b52 = false := by simpa using hk54
         subst hk54
         rw [if_neg Bool.false_ne_true] at e40
         obtain ⟨a55, hxa55, e40⟩ := bnd e40
         obtain ⟨b73, o73, ha73, hc73⟩ := hp0.atC hxa55
         obtain ⟨l56, hxl56, e40⟩ := bnd e40
         refine RG (MV rfl rfl (MV rfl rfl (MV rfl rfl (ST (Ex.idxAt ha73 Tryz.underlying31 Tryz.sizeOf50 rfl rfl) rfl (ST (Ex.loadAggM H rfl hc73 Tryz.isAgg50 Tryz.sizeOf50 (by rfl)) rfl ?_)))))
         refine WR.litS (enc := xenc50) xty31 ([(a55.1, a55.2)] : List (List UInt8 × List UInt8)) H (fun _ => rfl) rfl (by kernel_rfl) rfl rfl rfl (Wn.none rfl) rfl ?_
         intro v75 M w H hle hs75
         replace hg_maxl := hg_maxl.mono hle
         replace hp0 := hp0.mono hle
         replace f17_0 := f17_0.mono hle
         replace f23_0 := f23_0.mono hle
         replace hc64 := hc64.mono hle
         replace hc73 := hc73.mono hle
         refine WR.appSC (l := l45) xty31 rfl xone50 H rfl (fun _ => by repeat first | exact .head | apply Upd.tail) rfl (hs75) hxl56 (Wn.none rfl) rfl ?_
         intro v76 w H
         refine AS rfl rfl (NL (IB (TN ?_)))
         obtain ⟨n57, hxn57, e40⟩ := bnd e40
         refine RG (MV rfl rfl (ST (Ex.addC rfl rfl hxn57) rfl (AS rfl rfl (NL ?_))))
         exact WQ.againP m48 [(0, _), (1, _), (5, _), (6, _), (7, _), (8, _), (10, _), (11, _)] ⟨rfl, rfl, rfl, rfl, rfl, rfl, rfl, rfl, trivial⟩ ⟨_, _, _, _, rfl, H, hg_maxl, hp0, f17_0, f23_0, e40⟩ (Nat.lt_succ_self _)
        ·
         replace hk54 : b52 = true := by simpa using hk54
         subst hk54
         rw [if_pos rfl] at e40
         refine SK (IB (TN ?_))
         obtain ⟨n58, hxn58, e40⟩ := bnd e40
         refine RG (MV rfl rfl (ST (Ex.addC rfl rfl hxn58) rfl (AS rfl rfl (NL ?_))))
         exact WQ.againP m48 [(0, _), (1, _), (5, _), (6, _), (7, _), (8, _), (10, _), (11, _)] ⟨rfl, rfl, rfl, rfl, rfl, rfl, rfl, rfl, trivial⟩ ⟨_, _, _, _, rfl, H, hg_maxl, hp0, f17_0, f23_0, e40⟩ (Nat.lt_succ_self _)
       ·
        replace hk50 : ¬ (n47 < (p0.length : Int)) := of_decide_eq_false hk50
        rw [if_neg hk50] at e40
        refine WC.exit (WQ.thenExit (WQ.thenExit (WQ.exitHere ?_)))
        exact WQ.meetN [(0, _), (1, _), (5, _), (6, _), (7, _), (8, _), (10, _)] ⟨rfl, rfl, rfl, rfl, rfl, rfl, rfl, trivial⟩ ⟨_, _, _, rfl, H, hg_maxl, hp0, f17_0, f23_0, e40⟩
      ·
       rintro e w ⟨l42, v43, M, rfl, H, hg_maxl, hp0, f17_0, f23_0, q59⟩
       obtain rfl := Option.some.inj q59
       refine TN (SQ ?_)
       obtain ⟨o60, e61, h⟩ := bnd h
       refine WC.cutX (fun e w => ∃ (b62 : Bool) (M : Mem), e = [(4, Value.bool b62)] ∧ St w0 M0 M [] w ∧ GlF (fun w => ∃ m, w.cell? ⟨2, 0, none⟩ = some (.int .i64 m)) M ∧ some b62 = some o60) [] ?_ ?_ (trivial)
       ·
        refine RG (ST (Ex.fieldAddr Tryz.underlying24 rfl Tryz.sizeOf3 (by decide) rfl) rfl (ST (Ex.load1 H rfl (by repeat (first | exact List.Mem.head _ | apply List.Mem.tail)) Tryz.isAgg3 (by rfl)) rfl ?_))
        by_cases hk63 : n5 = (0 : Int)
        ·
         rw [if_pos hk63] at e61
         by_cases hk64 : n9 = (0 : Int)
         ·
          rw [if_pos hk64] at e61
          obtain ⟨l65, hx66, e61⟩ := bnd e61
          obtain ⟨b67, hx68, e61⟩ := bnd e61
          rcases b67 with _ | _
          ·
           rw [if_neg Bool.false_ne_true] at e61
           refine WR.stepE (v' := .bool true) (Ex.eql rfl rfl) (congrArg Value.bool (decide_eq_true hk63)) (Wn.none rfl) rfl rfl (MV rfl rfl (SG (Ex.fieldAddr Tryz.underlying24 rfl Tryz.sizeOf3 (by decide) rfl) rfl rfl rfl (SG (Ex.load1 H rfl (by repeat (first | exact List.Mem.head _ | apply List.Mem.tail)) Tryz.isAgg3 (by rfl)) rfl rfl rfl ?_)))
           refine WR.stepE (v' := .bool true) (Ex.eql rfl rfl) (congrArg Value.bool (decide_eq_true hk64)) (Wn.some rfl rfl rfl) rfl rfl (PT rfl rfl rfl (MV rfl rfl (SG (Ex.move rfl) rfl rfl rfl (SG (Ex.move rfl) rfl rfl rfl (SG (Ex.move rfl) rfl rfl rfl (WR.call H (R_ValuesOf_ct hx66) rfl (hp0) (Wn.some rfl rfl rfl) rfl ?_))))))
           intro v89 M w H hle hR
           replace hg_maxl := hg_maxl.mono hle
           replace hp0 := hp0.mono hle
           replace f17_0 := f17_0.mono hle
           replace f23_0 := f23_0.mono hle
           have f89_0 := hR
           refine WR.call H (R_Strings_ct hx68) rfl ⟨f17_0, f89_0⟩ (Wn.some rfl rfl rfl) rfl ?_
           intro v90 M w H hle hR
           replace hg_maxl := hg_maxl.mono hle
           replace hp0 := hp0.mono hle
           replace f17_0 := f17_0.mono hle
           replace f23_0 := f23_0.mono hle
           replace f89_0 := f89_0.mono hle
           obtain rfl := hR
           refine PT rfl rfl rfl (MV rfl rfl (WR.skipN 3 rfl rfl (PF rfl rfl rfl (AS rfl rfl (NL ?_)))))
           exact WQ.meetN [(4, _)] ⟨rfl, trivial⟩ ⟨_, _, rfl, (H.pick (L' := []) (by repeat (first | exact Pick.nil | refine Pick.cons (by repeat first | exact .head | apply Rem.tail) ?_))), hg_maxl, e61⟩
          ·
           rw [if_pos rfl] at e61
           obtain ⟨b70, hx71, e61⟩ := bnd e61
           refine WR.stepE (v' := .bool true) (Ex.eql rfl rfl) (congrArg Value.bool (decide_eq_true hk63)) (Wn.none rfl) rfl rfl (MV rfl rfl (SG (Ex.fieldAddr Tryz.underlying24 rfl Tryz.sizeOf3 (by decide) rfl) rfl rfl rfl (SG (Ex.load1 H rfl (by repeat (first | exact List.Mem.head _ | apply List.Mem.tail)) Tryz.isAgg3 (by rfl)) rfl rfl rfl ?_)))
           refine WR.stepE (v' := .bool true) (Ex.eql rfl rfl) (congrArg Value.bool (decide_eq_true hk64)) (Wn.some rfl rfl rfl) rfl rfl (PT rfl rfl rfl (MV rfl rfl (SG (Ex.move rfl) rfl rfl rfl (SG (Ex.move rfl) rfl rfl rfl (SG (Ex.move rfl) rfl rfl rfl (WR.call H (R_ValuesOf_ct hx66) rfl (hp0) (Wn.some rfl rfl rfl) rfl ?_))))))
           intro v89 M w H hle hR
           replace hg_maxl := hg_maxl.mono hle
           replace hp0 := hp0.mono hle
           replace f17_0 := f17_0.mono hle
           replace f23_0 := f23_0.mono hle
           have f89_0 := hR
           refine WR.call H (R_Strings_ct hx68) rfl ⟨f17_0, f89_0⟩ (Wn.some rfl rfl rfl) rfl ?_
           intro v90 M w H hle hR
           replace hg_maxl := hg_maxl.mono hle
           replace hp0 := hp0.mono hle
           replace f17_0 := f17_0.mono hle
           replace f23_0 := f23_0.mono hle
           replace f89_0 := f89_0.mono hle
           obtain rfl := hR
           refine PT rfl rfl rfl (MV rfl rfl (SG (Ex.move rfl) rfl rfl rfl (SG (Ex.move rfl) rfl rfl rfl ?_)))
           obtain ⟨M, hle, hs69, H⟩ := H.freezeRowS (v := v43) (enc := xenc50) (t := 50) (by repeat first | exact .head | apply Rem.tail) (fun _ => rfl)
           replace hg_maxl := hg_maxl.mono hle
           replace hp0 := hp0.mono hle
           replace f17_0 := f17_0.mono hle
           replace f23_0 := f23_0.mono hle
           replace f89_0 := f89_0.mono hle
           refine WR.call H (R_SameFields_ct hx71) rfl ⟨f23_0, hs69⟩ (Wn.some rfl rfl rfl) rfl ?_
           intro v95 M w H hle hR
           replace hg_maxl := hg_maxl.mono hle
           replace hp0 := hp0.mono hle
           replace f17_0 := f17_0.mono hle
           replace f23_0 := f23_0.mono hle
           replace f89_0 := f89_0.mono hle
           replace hs69 := hs69.mono hle
           obtain rfl := hR
           refine PT rfl rfl rfl (AS rfl rfl (NL ?_))
           exact WQ.meetN [(4, _)] ⟨rfl, trivial⟩ ⟨_, _, rfl, (H.pick (L' := []) (by repeat (first | exact Pick.nil | refine Pick.cons (by repeat first | exact .head | apply Rem.tail) ?_))), hg_maxl, e61⟩
         ·
          rw [if_neg hk64] at e61
          refine WR.stepE (v' := .bool true) (Ex.eql rfl rfl) (congrArg Value.bool (decide_eq_true hk63)) (Wn.none rfl) rfl rfl (MV rfl rfl (SG (Ex.fieldAddr Tryz.underlying24 rfl Tryz.sizeOf3 (by decide) rfl) rfl rfl rfl (SG (Ex.load1 H rfl (by repeat (first | exact List.Mem.head _ | apply List.Mem.tail)) Tryz.isAgg3 (by rfl)) rfl rfl rfl ?_)))
          refine WR.stepE (v' := .bool false) (Ex.eql rfl rfl) (congrArg Value.bool (decide_eq_false hk64)) (Wn.some rfl rfl rfl) rfl rfl (PT rfl rfl rfl (MV rfl rfl (WR.skipN 5 rfl rfl (PF rfl rfl rfl (MV rfl rfl (WR.skipN 3 rfl rfl (PF rfl rfl rfl (AS rfl rfl (NL ?_)))))))))
          exact WQ.meetN [(4, _)] ⟨rfl, trivial⟩ ⟨_, _, rfl, (H.pick (L' := []) (by repeat (first | exact Pick.nil | refine Pick.cons (by repeat first | exact .head | apply Rem.tail) ?_))), hg_maxl, e61⟩
        ·
         rw [if_neg hk63] at e61
         refine WR.stepE (v' := .bool false) (Ex.eql rfl rfl) (congrArg Value.bool (decide_eq_false hk63)) (Wn.none rfl) rfl rfl (MV rfl rfl (WR.skipN 3 rfl rfl (PF rfl rfl rfl (MV rfl rfl (WR.skipN 5 rfl rfl (PF rfl rfl rfl (MV rfl rfl (WR.skipN 3 rfl rfl (PF rfl rfl rfl (AS rfl rfl (NL ?_)))))))))))
         exact WQ.meetN [(4, _)] ⟨rfl, trivial⟩ ⟨_, _, rfl, (H.pick (L' := []) (by repeat (first | exact Pick.nil | refine Pick.cons (by repeat first | exact .head | apply Rem.tail) ?_))), hg_maxl, e61⟩
       ·
        rintro e w ⟨b62, M, rfl, H, hg_maxl, q72⟩
        obtain rfl := Option.some.inj q72
        refine TN (RT ?_)
        obtain rfl := Option.some.inj h
        exact WQ.ret1 rfl rfl H.ext rfl
end Go.Proofs.YtogkmhjnojphiaaGreatDoor
end
section
set_option linter.unusedVariables false
set_option linter.unusedSimpArgs false
namespace Go.Ph
open Go Go.RowKit Go.ChangeShapes Go.WideShapes Go.ChangeAt
section
variable {H : Type} {enc : TypeId × Value → H} {P : Program} {W : World}
def ElemIs (enc : TypeId × Value → H) (P : Program) (W : World) (e : TypeId) {α : Type} (encA : α → List Value) (ok : α → Prop) : Prop :=
  ∀ fuel cs (x : DataW H × List MemPlace), DataW.trod enc P W 0 (fun _ => true) true fuel e cs = some x → ∃ a, cs = encA a ∧ ((∀ y ∈ x.1.weights P e, y ≤ reachBytes) → ok a)
theorem weightsAll_mem {e : TypeId} : ∀ {l : List (DataW H)} {d : DataW H}, d ∈ l → ∀ y ∈ d.weights P e, y ∈ DataW.weightsAll P e l
  | [], d, h => by cases h
  | x :: l, d, h => fun y hy => by
    rw [DataW.weightsAll]
    rcases List.mem_cons.1 h with rfl | h
    · exact List.mem_append_left _ hy
    · exact List.mem_append_right _ (weightsAll_mem h y hy)
theorem open_sliceG {α : Type} {t e : TypeId} {kk : Nat} {encA : α → List Value} {ok : α → Prop} {v : Value} {d : DataW H} {p : List MemPlace} {base : Nat} (ht : P.underlying t = some (.slice e)) (hc : P.cellsOf e = kk) (hk : 0 < kk)
    (h0 : ∀ a, (encA a).length = kk) (hel : ElemIs enc P W e encA ok) (hval : Value.okWide P W .any base t v) (hT : DataW.Trod enc P W 0 (fun _ => true) true t v d p) :
    ∃ l : List α, SlS (memOf W) kk encA v l ∧ DLen d l.length ∧ ((∀ x ∈ d.weights P t, x ≤ reachBytes) → ∀ a ∈ l, ok a) := by
  obtain ⟨a0, len, cap, rfl⟩ := okWide_slice ht hval
  obtain ⟨fuel, hf⟩ := hT
  rcases Deep.open_slice ht hf with ⟨hcs, hx⟩ | ⟨a, len', cap', m, n, D, Pl, hcs, _, hl, hm, hmm, hx, hi⟩
  · simp [Value.cells] at hcs
    obtain ⟨rfl, rfl, rfl⟩ := hcs
    cases hx
    exact ⟨[], ⟨h0, none, 0, rfl, by simp, ⟨by simp [maxLen], fun _ => rfl⟩, fun h => absurd rfl h⟩, .inl ⟨rfl, rfl⟩, fun _ a ha => by cases ha⟩
  · simp [Value.cells] at hcs
    obtain ⟨rfl, rfl, rfl⟩ := hcs
    simp only [if_true] at hmm
    cases hx
    have each : ∀ i, i < len → ∃ x : α, (∀ j u, (encA x)[j]? = some u → W.cell? (a.add (i * kk + j)) = some u) ∧ ((∀ y ∈ (D i).weights P e, y ≤ reachBytes) → ok x) := fun i hil => by
      obtain ⟨cs', h1, h2⟩ := hi i (by omega)
      obtain ⟨x, rfl, hw⟩ := hel _ _ _ h2
      rw [hc] at h1
      refine ⟨x, fun j u hj => ?_, hw⟩
      obtain ⟨_, c1, c2⟩ := World.cells?_some h1
      have hjl : j < kk := by have := (List.getElem?_eq_some_iff.1 hj).1; rw [h0] at this; exact this
      have := c2 j hjl
      rw [hj] at this
      rw [← this]
      congr 1
      by_cases hj0 : j = 0 <;> by_cases hi0 : i * kk = 0 <;> simp [Addr.add, hj0, hi0, Nat.add_assoc]
    obtain ⟨l, hll, hlx⟩ : ∃ l : List α, l.length = len ∧ ∀ i x, l[i]? = some x → (∀ j u, (encA x)[j]? = some u → W.cell? (a.add (i * kk + j)) = some u) ∧ ((∀ y ∈ (D i).weights P e, y ≤ reachBytes) → ok x) := by
      have : ∀ n, n ≤ len → ∃ l : List α, l.length = n ∧ ∀ i x, l[i]? = some x → (∀ j u, (encA x)[j]? = some u → W.cell? (a.add (i * kk + j)) = some u) ∧ ((∀ y ∈ (D i).weights P e, y ≤ reachBytes) → ok x) := by
        intro n
        induction n with
        | zero => exact fun _ => ⟨[], rfl, fun i x h => by simp at h⟩
        | succ n ih =>
          intro hn
          obtain ⟨l, h1, h2⟩ := ih (by omega)
          obtain ⟨x, hx⟩ := each n (by omega)
          refine ⟨l ++ [x], by simp [h1], fun i y hy => ?_⟩
          rcases Nat.lt_or_ge i n with hin | hin
          · rw [List.getElem?_append_left (by omega)] at hy
            exact h2 i y hy
          · rw [List.getElem?_append_right (by omega)] at hy
            have hi0 : i - l.length = 0 := by have := (List.getElem?_eq_some_iff.1 hy).1; simp at this; omega
            rw [hi0] at hy
            simp at hy
            subst hy
            obtain rfl : i = n := by omega
            exact hx
      exact this len (Nat.le_refl _)
    refine ⟨l, ⟨h0, some a, cap, by rw [hll], by omega, ⟨hm, fun h => by cases h⟩, fun hne => ?_⟩, .inr ⟨_, _, rfl, by simp [hll]⟩, fun hw x hx => ?_⟩
    · have hpos : 0 < len := by
        rcases Nat.eq_zero_or_pos len with h | h
        · exact absurd (List.eq_nil_of_length_eq_zero (by omega)) hne
        · exact h
      have hcell : ∀ q, q < len * kk → W.cell? (a.add q) = some ((l.flatMap encA).getD q undef) := fun q hq => by
        have hq1 : q / kk < len := Nat.div_lt_of_lt_mul (by rw [Nat.mul_comm]; exact hq)
        have hq2 : q % kk < kk := Nat.mod_lt _ hk
        have hl1 : l[q / kk]? = some (l[q / kk]'(by omega)) := List.getElem?_eq_getElem _
        have hu : (encA (l[q / kk]'(by omega)))[q % kk]? = some ((encA (l[q / kk]'(by omega)))[q % kk]'(by rw [h0]; exact hq2)) := List.getElem?_eq_getElem _
        have h3 := (hlx _ _ hl1).1 _ _ hu
        have h4 := flat_at h0 l _ _ _ _ hl1 hu
        have hqq : q / kk * kk + q % kk = q := by rw [Nat.mul_comm]; exact Nat.div_add_mod q kk
        rw [hqq] at h3 h4
        rw [h3, List.getD_eq_getElem?_getD, h4]; rfl
      obtain ⟨b, o, cs, t', fz, rfl, hb, hcs⟩ := cells_at (n := len * kk) (Nat.mul_pos hpos hk) hcell
      refine ⟨b, o, cs, t', fz, rfl, hb, fun i x hi j u hj => ?_⟩
      have hil := (List.getElem?_eq_some_iff.1 hi).1
      have hjl : j < kk := by have := (List.getElem?_eq_some_iff.1 hj).1; rw [h0] at this; exact this
      have hlt : i * kk + j < len * kk := by
        have : (i + 1) * kk ≤ len * kk := Nat.mul_le_mul_right _ (by omega)
        rw [Nat.add_mul] at this
        omega
      have := hcs (i * kk + j) hlt
      rw [List.getD_eq_getElem?_getD, flat_at h0 l i j x u hi hj] at this
      rw [Nat.add_assoc]; exact this
    · obtain ⟨i, hi', rfl⟩ := List.getElem_of_mem hx
      refine (hlx i _ (List.getElem?_eq_getElem hi')).2 (fun y hy => hw y ?_)
      simp only [DataW.weights, ht]
      exact List.mem_cons_of_mem _ (List.mem_append_left _ (weightsAll_mem (List.mem_map.2 ⟨i, List.mem_range.2 (by omega), rfl⟩) y hy))
end
end Go.Ph
end
section
set_option linter.unusedVariables false
set_option linter.unusedSimpArgs false
namespace Go.Ph
open Go Go.RowKit Go.ChangeShapes Go.WideShapes Go.ChangeAt
section
variable {H : Type} {enc : TypeId × Value → H} {P : Program} {W : World}
theorem elem_fld {e tS : TypeId} {f0 f1 : Field} (he : P.underlying e = some (.struct #[f0, f1])) (t0 : f0.type = tS) (t1 : f1.type = tS) (o0 : f0.offset = 0) (o1 : f1.offset = 1) (hS : P.underlying tS = some .string) (hc : P.cellsOf tS = 1) (hce : P.cellsOf e = 2) :
    ElemIs enc P W e (fun a : List UInt8 × List UInt8 => [S a.1, S a.2]) (fun a => a.1.length ≤ 140737488351232 ∧ a.2.length ≤ 140737488351232) := fun fuel cs x h => by
  obtain ⟨y0, y1, n, rfl, hl, h0, h1⟩ := trod_struct2 he h
  rw [t0, o0, hc] at h0
  rw [t1, o1, hc] at h1
  rw [hce] at hl
  obtain ⟨s0, e0, rfl, _⟩ := DataW.trod_string hS h0
  obtain ⟨s1, e1, rfl, _⟩ := DataW.trod_string hS h1
  match cs, hl with
  | [c0, c1], _ =>
    simp at e0 e1
    subst e0 e1
    refine ⟨(s0.data.toList, s1.data.toList), by cases s0; cases s1; simp [S], fun hw => ?_⟩
    have hw' : ∀ y ∈ [s0.data.toList.length, s1.data.toList.length], y ≤ reachBytes := fun y hy => hw y (by
      simp only [DataW.weights, he, DataW.weightsEach, List.map_cons, List.map_nil]
      simpa using hy)
    exact ⟨hw' _ (by simp), hw' _ (by simp)⟩
theorem open_flds {t e tS : TypeId} {f0 f1 : Field} {v : Value} {d : DataW H} {p : List MemPlace} {base : Nat} (ht : P.underlying t = some (.slice e)) (he : P.underlying e = some (.struct #[f0, f1])) (t0 : f0.type = tS) (t1 : f1.type = tS) (o0 : f0.offset = 0) (o1 : f1.offset = 1) (hS : P.underlying tS = some .string) (hc : P.cellsOf tS = 1) (hce : P.cellsOf e = 2)
    (hval : Value.okWide P W .any base t v) (h0 : DataW.Trod enc P W 0 (fun _ => true) true t v d p) :
    ∃ l : List (List UInt8 × List UInt8), SlS (memOf W) 2 (fun a => [S a.1, S a.2]) v l ∧ DLen d l.length ∧ ((∀ x ∈ d.weights P t, x ≤ reachBytes) → ∀ a ∈ l, a.1.length ≤ 140737488351232 ∧ a.2.length ≤ 140737488351232) :=
  open_sliceG ht hce (by omega) (fun _ => rfl) (elem_fld he t0 t1 o0 o1 hS hc hce) hval h0
end
end Go.Ph
end
