/-
  Hct3, Hct4, Open, Opf: own texts of this repository (wip/tpl, wip/plans), merged and shaken by wip/tools/pack.py.
-/
import Derived.KernelRfl
import Derived.Deep.Slices
import Derived.ChangeMaps5
import Derived.ChangeSame
import Derived.Test.YtogkmhjnojphiaaGreatDoorE1c
set_option maxRecDepth 100000
section
set_option maxRecDepth 100000
set_option linter.unusedVariables false
set_option linter.unusedSimpArgs false
namespace Go.Proofs.YtogkmhjnojphiaaGreatDoor
open Go Go.RowKit Go.Ph Go.Ph.Pl Go.Ph.Pf
theorem R_FieldName_ct {p0 : List UInt8} {r : Bool} (h : R_FieldName p0 = some r) : Ct Tryz.prog 30 [S p0] (fun M => True) (fun v M => v = Value.bool r) := by
  refine Ct.of Tryz.func30 (enters Tryz.func30 (by kernel_rfl) rfl) rfl rfl rfl ?_
  intro w0 M0 H hp
  unfold R_FieldName at h
  refine SQ (RG (AS rfl rfl (NL (TN (SQ (SQ (RG (AS rfl rfl (NL (TN ?_))))))))))
  obtain ⟨o1, e2, h⟩ := bnd h
  refine WC.cutX (fun e w => ∃  (M : Mem), e = [(0, S p0)] ∧ St w0 M0 M [] w ∧ some (.inl ()) = some o1) [] ?_ ?_ (trivial)
  ·
   refine BL (WC.loopP (fun m e w => ∃ (n3 : Int) (M : Mem), e = [(0, S p0), (3, I n3)] ∧ St w0 M0 M [] w ∧ R_FieldName_L1 p0 m n3 = some o1) FU [(0, _), (3, _)] ⟨rfl, rfl, trivial⟩ ⟨_, _, rfl, H, e2⟩ ?_)
   rintro m4 e w ⟨n3, M, rfl, H, e2⟩
   rcases m4 with _ | m4
   · rw [R_FieldName_L1] at e2; cases e2
   rw [R_FieldName_L1] at e2
   refine SQ (SQ (RG (MV rfl rfl (MV rfl rfl (ST (Ex.lenStr Tryz.underlying9 rfl) rfl (ST (Ex.lss rfl rfl) rfl (NL (TN ?_))))))))
   refine WC.condB rfl (fun hk5 => ?_) (fun hk5 => ?_)
   ·
    replace hk5 : n3 < (p0.length : Int) := of_decide_eq_true hk5
    rw [if_pos hk5] at e2
    refine SK (TN (SQ (BL (SQ ?_))))
    obtain ⟨o6, e7, e2⟩ := bnd e2
    refine WC.cutX (fun e w => ∃ (b8 : Bool) (M : Mem), e = [(0, S p0), (3, I n3), (21, Value.bool b8)] ∧ St w0 M0 M [] w ∧ some b8 = some o6) [] ?_ ?_ (trivial)
    ·
     obtain ⟨c9, hxc9, e7⟩ := bnd e7
     obtain ⟨b10, hx11, e7⟩ := bnd e7
     refine RG (MV rfl rfl (MV rfl rfl (ST (Ex.idxStrC Tryz.underlying9 rfl rfl hxc9) rfl (ST (Ex.convB Tryz.underlying5 Tryz.underlying3 rfl) rfl (WR.call H (R_In_ct hx11) rfl trivial (Wn.none rfl) rfl ?_)))))
     intro v14 M w H hle hR
     obtain rfl := hR
     refine ST (Ex.not rfl) rfl (MV rfl rfl ?_)
     rcases b10 with _ | _
     ·
      rw [if_neg Bool.false_ne_true] at e7
      refine WR.skipN 4 rfl rfl (PT rfl rfl rfl (NL ?_))
      exact WQ.meetN [(0, _), (3, _), (21, _)] ⟨rfl, rfl, rfl, trivial⟩ ⟨_, _, rfl, H, e7⟩
     ·
      rw [if_pos rfl] at e7
      obtain ⟨c12, hxc12, e7⟩ := bnd e7
      refine SG (Ex.move rfl) rfl rfl rfl (SG (Ex.move rfl) rfl rfl rfl (SG (Ex.idxStrC Tryz.underlying9 rfl rfl hxc12) rfl rfl rfl (SG (Ex.eqlB (c := c12) (d := 58) rfl rfl) rfl rfl rfl (PF rfl rfl rfl (NL ?_)))))
      exact WQ.meetN [(0, _), (3, _), (21, _)] ⟨rfl, rfl, rfl, trivial⟩ ⟨_, _, rfl, H, e7⟩
    ·
     rintro e w ⟨b8, M, rfl, H, q13⟩
     obtain rfl := Option.some.inj q13
     refine TN ?_
     refine WC.condB rfl (fun hk14 => ?_) (fun hk14 => ?_)
     ·
      subst hk14
      rw [if_pos rfl] at e2
      refine SQ (RG (AS rfl rfl (NL (TN (RT ?_)))))
      obtain rfl := Option.some.inj e2
      try dsimp only at h
      obtain rfl := Option.some.inj h
      exact WQ.ret1 rfl rfl H.ext rfl
     ·
      subst hk14
      rw [if_neg Bool.false_ne_true] at e2
      refine SK (IB (TN ?_))
      obtain ⟨n15, hxn15, e2⟩ := bnd e2
      refine RG (MV rfl rfl (ST (Ex.addC rfl rfl hxn15) rfl (AS rfl rfl (NL ?_))))
      exact WQ.againP m4 [(0, _), (3, _)] ⟨rfl, rfl, trivial⟩ ⟨_, _, rfl, H, e2⟩ (Nat.lt_succ_self _)
   ·
    replace hk5 : ¬ (n3 < (p0.length : Int)) := of_decide_eq_false hk5
    rw [if_neg hk5] at e2
    refine WC.exit (WQ.thenExit (WQ.thenExit (WQ.exitHere ?_)))
    exact WQ.meetN [(0, _)] ⟨rfl, trivial⟩ ⟨_, rfl, H, e2⟩
  ·
   rintro e w ⟨M, rfl, H, q16⟩
   obtain rfl := Option.some.inj q16
   try dsimp only at h
   refine TN (SQ ?_)
   obtain ⟨b17, hx18, h⟩ := bnd h
   refine RG (MV rfl rfl (ST (Ex.lenStr Tryz.underlying9 rfl) rfl (WR.call H (R_In_ct hx18) rfl trivial (Wn.none rfl) rfl ?_)))
   intro v24 M w H hle hR
   obtain rfl := hR
   refine AS rfl rfl (NL (TN (RT ?_)))
   obtain rfl := Option.some.inj h
   exact WQ.ret1 rfl rfl H.ext rfl
theorem R_Trim_ct {p0 : List UInt8} {r : List UInt8} (h : R_Trim p0 = some r) : Ct Tryz.prog 63 [S p0] (fun M => True) (fun v M => v = S r) := by
  refine Ct.of Tryz.func63 (enters Tryz.func63 (by kernel_rfl) rfl) rfl rfl rfl ?_
  intro w0 M0 H hp
  unfold R_Trim at h
  refine SQ (RG (AS rfl rfl (NL (TN (SQ ?_)))))
  obtain ⟨o1, e2, h⟩ := bnd h
  refine WC.cutX (fun e w => ∃ (s3 : List UInt8) (M : Mem), e = [(0, S s3)] ∧ St w0 M0 M [] w ∧ some s3 = some o1) [] ?_ ?_ (trivial)
  ·
   refine BL (WC.loopP (fun m e w => ∃ (s4 : List UInt8) (M : Mem), e = [(0, S s4)] ∧ St w0 M0 M [] w ∧ R_Trim_L1  m s4 = some o1) FU [(0, _)] ⟨rfl, trivial⟩ ⟨_, _, rfl, H, e2⟩ ?_)
   rintro m5 e w ⟨s4, M, rfl, H, e2⟩
   rcases m5 with _ | m5
   · rw [R_Trim_L1] at e2; cases e2
   rw [R_Trim_L1] at e2
   refine SQ (SQ ?_)
   obtain ⟨o6, e7, e2⟩ := bnd e2
   refine WC.cutX (fun e w => ∃ (b8 : Bool) (M : Mem), e = [(0, S s4), (10, Value.bool b8)] ∧ St w0 M0 M [] w ∧ some b8 = some o6) [] ?_ ?_ (trivial)
   ·
    refine RG (MV rfl rfl (ST (Ex.lenStr Tryz.underlying9 rfl) rfl ?_))
    by_cases hk9 : (0 : Int) < (s4.length : Int)
    ·
     rw [if_pos hk9] at e7
     obtain ⟨c10, hxc10, e7⟩ := bnd e7
     obtain ⟨b11, hx12, e7⟩ := bnd e7
     refine WR.stepE (v' := .bool true) (Ex.gtr rfl rfl) (congrArg Value.bool (decide_eq_true hk9)) (Wn.none rfl) rfl rfl (MV rfl rfl (SG (Ex.move rfl) rfl rfl rfl (SG (Ex.idxStrC Tryz.underlying9 rfl rfl hxc10) rfl rfl rfl (WR.call H (R_Blank_ct hx12) rfl trivial (Wn.some rfl rfl rfl) rfl ?_))))
     intro v9 M w H hle hR
     obtain rfl := hR
     refine PT rfl rfl rfl (NL ?_)
     exact WQ.meetN [(0, _), (10, _)] ⟨rfl, rfl, trivial⟩ ⟨_, _, rfl, H, e7⟩
    ·
     rw [if_neg hk9] at e7
     refine WR.stepE (v' := .bool false) (Ex.gtr rfl rfl) (congrArg Value.bool (decide_eq_false hk9)) (Wn.none rfl) rfl rfl (MV rfl rfl (WR.skipN 3 rfl rfl (PF rfl rfl rfl (NL ?_))))
     exact WQ.meetN [(0, _), (10, _)] ⟨rfl, rfl, trivial⟩ ⟨_, _, rfl, H, e7⟩
   ·
    rintro e w ⟨b8, M, rfl, H, q13⟩
    obtain rfl := Option.some.inj q13
    refine TN ?_
    refine WC.condB rfl (fun hk14 => ?_) (fun hk14 => ?_)
    ·
     subst hk14
     rw [if_pos rfl] at e2
     refine SK (TN (BL ?_))
     obtain ⟨s15, hxs15, e2⟩ := bnd e2
     refine RG (MV rfl rfl (ST (Ex.sliceL Tryz.underlying9 rfl rfl hxs15) rfl (AS rfl rfl (NL (IB ?_)))))
     exact WQ.againP m5 [(0, _)] ⟨rfl, trivial⟩ ⟨_, _, rfl, H, e2⟩ (Nat.lt_succ_self _)
    ·
     subst hk14
     rw [if_neg Bool.false_ne_true] at e2
     refine WC.exit (WQ.thenExit (WQ.thenExit (WQ.exitHere ?_)))
     exact WQ.meetN [(0, _)] ⟨rfl, trivial⟩ ⟨_, _, rfl, H, e2⟩
  ·
   rintro e w ⟨s3, M, rfl, H, q16⟩
   obtain rfl := Option.some.inj q16
   refine TN (SQ ?_)
   obtain ⟨o17, e18, h⟩ := bnd h
   refine WC.cutX (fun e w => ∃ (s19 : List UInt8) (M : Mem), e = [(0, S s19)] ∧ St w0 M0 M [] w ∧ some s19 = some o17) [] ?_ ?_ (trivial)
   ·
    refine BL (WC.loopP (fun m e w => ∃ (s20 : List UInt8) (M : Mem), e = [(0, S s20)] ∧ St w0 M0 M [] w ∧ R_Trim_L2  m s20 = some o17) FU [(0, _)] ⟨rfl, trivial⟩ ⟨_, _, rfl, H, e18⟩ ?_)
    rintro m21 e w ⟨s20, M, rfl, H, e18⟩
    rcases m21 with _ | m21
    · rw [R_Trim_L2] at e18; cases e18
    rw [R_Trim_L2] at e18
    refine SQ (SQ ?_)
    obtain ⟨o22, e23, e18⟩ := bnd e18
    refine WC.cutX (fun e w => ∃ (b24 : Bool) (M : Mem), e = [(0, S s20), (23, Value.bool b24)] ∧ St w0 M0 M [] w ∧ some b24 = some o22) [] ?_ ?_ (trivial)
    ·
     refine RG (MV rfl rfl (ST (Ex.lenStr Tryz.underlying9 rfl) rfl ?_))
     by_cases hk25 : (0 : Int) < (s20.length : Int)
     ·
      rw [if_pos hk25] at e23
      obtain ⟨n26, hxn26, e23⟩ := bnd e23
      obtain ⟨c27, hxc27, e23⟩ := bnd e23
      obtain ⟨b28, hx29, e23⟩ := bnd e23
      refine WR.stepE (v' := .bool true) (Ex.gtr rfl rfl) (congrArg Value.bool (decide_eq_true hk25)) (Wn.none rfl) rfl rfl (MV rfl rfl (SG (Ex.move rfl) rfl rfl rfl (SG (Ex.move rfl) rfl rfl rfl (SG (Ex.lenStr Tryz.underlying9 rfl) rfl rfl rfl (SG (Ex.subC rfl rfl hxn26) rfl rfl rfl (SG (Ex.idxStrC Tryz.underlying9 rfl rfl hxc27) rfl rfl rfl (WR.call H (R_Blank_ct hx29) rfl trivial (Wn.some rfl rfl rfl) rfl ?_)))))))
      intro v22 M w H hle hR
      obtain rfl := hR
      refine PT rfl rfl rfl (NL ?_)
      exact WQ.meetN [(0, _), (23, _)] ⟨rfl, rfl, trivial⟩ ⟨_, _, rfl, H, e23⟩
     ·
      rw [if_neg hk25] at e23
      refine WR.stepE (v' := .bool false) (Ex.gtr rfl rfl) (congrArg Value.bool (decide_eq_false hk25)) (Wn.none rfl) rfl rfl (MV rfl rfl (WR.skipN 6 rfl rfl (PF rfl rfl rfl (NL ?_))))
      exact WQ.meetN [(0, _), (23, _)] ⟨rfl, rfl, trivial⟩ ⟨_, _, rfl, H, e23⟩
    ·
     rintro e w ⟨b24, M, rfl, H, q30⟩
     obtain rfl := Option.some.inj q30
     refine TN ?_
     refine WC.condB rfl (fun hk31 => ?_) (fun hk31 => ?_)
     ·
      subst hk31
      rw [if_pos rfl] at e18
      refine SK (TN (BL ?_))
      obtain ⟨n32, hxn32, e18⟩ := bnd e18
      obtain ⟨s33, hxs33, e18⟩ := bnd e18
      refine RG (MV rfl rfl (MV rfl rfl (ST (Ex.lenStr Tryz.underlying9 rfl) rfl (ST (Ex.subC rfl rfl hxn32) rfl (ST (Ex.sliceH Tryz.underlying9 rfl rfl hxs33) rfl (AS rfl rfl (NL (IB ?_))))))))
      exact WQ.againP m21 [(0, _)] ⟨rfl, trivial⟩ ⟨_, _, rfl, H, e18⟩ (Nat.lt_succ_self _)
     ·
      subst hk31
      rw [if_neg Bool.false_ne_true] at e18
      refine WC.exit (WQ.thenExit (WQ.thenExit (WQ.exitHere ?_)))
      exact WQ.meetN [(0, _)] ⟨rfl, trivial⟩ ⟨_, _, rfl, H, e18⟩
   ·
    rintro e w ⟨s19, M, rfl, H, q34⟩
    obtain rfl := Option.some.inj q34
    refine TN (SQ (RG (MV rfl rfl (AS rfl rfl (NL (TN (RT ?_)))))))
    obtain rfl := Option.some.inj h
    exact WQ.ret1 rfl rfl H.ext rfl
set_option maxHeartbeats 4000000 in
theorem R_ReadHeader_ct {p0 : List UInt8} {vp0 : Value} {r : (List (List UInt8 × List UInt8) × Int × (Int × Int))} (h : R_ReadHeader p0 = some r) : Ct Tryz.prog 21 [vp0] (fun M => Sl M encB vp0 p0) (fun v M => ∃ x0, v = Value.tuple #[x0, I r.2.1, Value.agg #[I r.2.2.1, I r.2.2.2]] ∧ SlS M 2 xenc50 x0 r.1) := by
  refine Ct.of Tryz.func21 (enters Tryz.func21 (by kernel_rfl) rfl) rfl rfl rfl ?_
  intro w0 M0 H hp
  have hp0 := hp
  unfold R_ReadHeader at h
  refine SQ (RG (AS rfl rfl (AS rfl rfl (WR.alloc [_, _] H Tryz.zeroValue24 rfl (Wn.none rfl) rfl ?_))))
  intro b4 w H
  refine NL (TN (SQ (SQ (RG (MV rfl rfl (ST (Ex.lenSl Tryz.underlying30 hp0 rfl) rfl (ST (Ex.gtr rfl rfl) rfl (NL (TN ?_)))))))))
  refine WC.condB rfl (fun hk1 => ?_) (fun hk1 => ?_)
  ·
   replace hk1 : (12000 : Int) < (p0.length : Int) := of_decide_eq_true hk1
   rw [if_pos hk1] at h
   refine SQ ?_
   obtain ⟨⟨n2, n3⟩, hx4, h⟩ := bnd h
   try dsimp only at h
   refine RG (WR.call H (R_At_ct hx4) rfl trivial (Wn.none rfl) rfl ?_)
   intro v19 M w H hle hR
   replace hp0 := hp0.mono hle
   try dsimp only at hR
   obtain rfl := hR
   refine AS rfl rfl (AS rfl rfl (WR.store [_, _] H rfl rfl rfl (by repeat first | exact .head | apply Upd.tail) Tryz.sizeOf24 rfl (by rfl) (by rfl) (Wn.none rfl) ?_))
   intro w H
   refine NL (TN (RT ?_))
   obtain rfl := Option.some.inj h
   exact WQ.ret3 rfl rfl rfl ⟨_, rfl, H.loadAgg (by repeat (first | exact List.Mem.head _ | apply List.Mem.tail)) Tryz.isAgg24 Tryz.sizeOf24 (by rfl)⟩ H.ext (⟨_, rfl, (SlS.nil _ _ (fun _ => rfl))⟩)
  ·
   replace hk1 : ¬ ((12000 : Int) < (p0.length : Int)) := of_decide_eq_false hk1
   rw [if_neg hk1] at h
   refine SK (TN (SQ (RG (AS rfl rfl (NL (TN (SQ (RG (AS rfl rfl (NL (TN (SQ ?_))))))))))))
   obtain ⟨o5, e6, h⟩ := bnd h
   refine WC.cutX (fun e w => ∃ (l8 : List (List UInt8 × List UInt8)) (v9 : Value) (n10 : Int) (M : Mem), e = [(4, ptr b4 0), (5, v9), (6, I n10)] ∧ St w0 M0 M [.blk b4 (.cells #[I 0, I 0] 24), RowS 50 2 xenc50 v9 l8] w ∧ some (l8, n10) = some o5) [] ?_ ?_ (trivial)
   ·
    refine BL ?_
    replace H := H.newRowS 50 2 xenc50
    refine WC.loopP (fun m e w => ∃ (l12 : List (List UInt8 × List UInt8)) (v13 : Value) (n14 : Int) (M : Mem), e = [(0, vp0), (4, ptr b4 0), (5, v13), (6, I n14)] ∧ St w0 M0 M [.blk b4 (.cells #[I 0, I 0] 24), RowS 50 2 xenc50 v13 l12] w ∧ Sl M encB vp0 p0 ∧ R_ReadHeader_L1 p0 m l12 n14 = some o5) FU [(0, _), (4, _), (5, _), (6, _)] ⟨rfl, rfl, rfl, rfl, trivial⟩ ⟨_, _, _, _, rfl, (H.pick (L' := [.blk b4 (.cells #[I 0, I 0] 24), RowS 50 2 xenc50 (Value.slice none 0 0) []]) (by repeat (first | exact Pick.nil | refine Pick.cons (by repeat first | exact .head | apply Rem.tail) ?_))), hp0, e6⟩ ?_
    rintro m15 e w ⟨l12, v13, n14, M, rfl, H, hp0, e6⟩
    rcases m15 with _ | m15
    · rw [R_ReadHeader_L1] at e6; cases e6
    rw [R_ReadHeader_L1] at e6
    refine SQ (SQ (RG (MV rfl rfl (MV rfl rfl (ST (Ex.lenSl Tryz.underlying30 hp0 rfl) rfl (ST (Ex.lss rfl rfl) rfl (NL (TN ?_))))))))
    refine WC.condB rfl (fun hk17 => ?_) (fun hk17 => ?_)
    ·
     replace hk17 : n14 < (p0.length : Int) := of_decide_eq_true hk17
     rw [if_pos hk17] at e6
     refine SK (TN (BL (SQ (RG (MV rfl rfl (AS rfl rfl (NL (TN (SQ ?_)))))))))
     obtain ⟨o18, e19, e6⟩ := bnd e6
     refine WC.cutX (fun e w => ∃ (n20 : Int) (M : Mem), e = [(0, vp0), (4, ptr b4 0), (5, v13), (6, I n14), (7, I n20)] ∧ St w0 M0 M [.blk b4 (.cells #[I 0, I 0] 24), RowS 50 2 xenc50 v13 l12] w ∧ Sl M encB vp0 p0 ∧ some n20 = some o18) [] ?_ ?_ (trivial)
     ·
      refine BL (WC.loopP (fun m e w => ∃ (n21 : Int) (M : Mem), e = [(0, vp0), (4, ptr b4 0), (5, v13), (6, I n14), (7, I n21)] ∧ St w0 M0 M [.blk b4 (.cells #[I 0, I 0] 24), RowS 50 2 xenc50 v13 l12] w ∧ Sl M encB vp0 p0 ∧ R_ReadHeader_L2 p0 m n21 = some o18) FU [(0, _), (4, _), (5, _), (6, _), (7, _)] ⟨rfl, rfl, rfl, rfl, rfl, trivial⟩ ⟨_, _, rfl, H, hp0, e19⟩ ?_)
      rintro m22 e w ⟨n21, M, rfl, H, hp0, e19⟩
      rcases m22 with _ | m22
      · rw [R_ReadHeader_L2] at e19; cases e19
      rw [R_ReadHeader_L2] at e19
      refine SQ (SQ ?_)
      obtain ⟨o23, e24, e19⟩ := bnd e19
      refine WC.cutX (fun e w => ∃ (b25 : Bool) (M : Mem), e = [(0, vp0), (4, ptr b4 0), (5, v13), (6, I n14), (7, I n21), (35, Value.bool b25)] ∧ St w0 M0 M [.blk b4 (.cells #[I 0, I 0] 24), RowS 50 2 xenc50 v13 l12] w ∧ Sl M encB vp0 p0 ∧ some b25 = some o23) [] ?_ ?_ (trivial)
      ·
       refine RG (MV rfl rfl (MV rfl rfl (ST (Ex.lenSl Tryz.underlying30 hp0 rfl) rfl ?_)))
       by_cases hk26 : n21 < (p0.length : Int)
       ·
        rw [if_pos hk26] at e24
        obtain ⟨c27, hxc27, e24⟩ := bnd e24
        obtain ⟨b32, o32, ha32, hc32⟩ := hp0.atC hxc27
        refine WR.stepE (v' := .bool true) (Ex.lss rfl rfl) (congrArg Value.bool (decide_eq_true hk26)) (Wn.none rfl) rfl rfl (MV rfl rfl (SG (Ex.move rfl) rfl rfl rfl (SG (Ex.move rfl) rfl rfl rfl (SG (Ex.idxAt ha32 Tryz.underlying30 Tryz.sizeOf5 rfl rfl) rfl rfl rfl (SG (Ex.loadM H rfl hc32 Tryz.isAgg5) rfl rfl rfl (SG (Ex.neqB (c := c27) (d := 10) rfl rfl) rfl rfl rfl (PT rfl rfl rfl (NL ?_))))))))
        exact WQ.meetN [(0, _), (4, _), (5, _), (6, _), (7, _), (35, _)] ⟨rfl, rfl, rfl, rfl, rfl, rfl, trivial⟩ ⟨_, _, rfl, H, hp0, e24⟩
       ·
        rw [if_neg hk26] at e24
        refine WR.stepE (v' := .bool false) (Ex.lss rfl rfl) (congrArg Value.bool (decide_eq_false hk26)) (Wn.none rfl) rfl rfl (MV rfl rfl (WR.skipN 5 rfl rfl (PF rfl rfl rfl (NL ?_))))
        exact WQ.meetN [(0, _), (4, _), (5, _), (6, _), (7, _), (35, _)] ⟨rfl, rfl, rfl, rfl, rfl, rfl, trivial⟩ ⟨_, _, rfl, H, hp0, e24⟩
      ·
       rintro e w ⟨b25, M, rfl, H, hp0, q28⟩
       obtain rfl := Option.some.inj q28
       refine TN ?_
       refine WC.condB rfl (fun hk29 => ?_) (fun hk29 => ?_)
       ·
        subst hk29
        rw [if_pos rfl] at e19
        refine SK (TN (BL ?_))
        obtain ⟨n30, hxn30, e19⟩ := bnd e19
        refine RG (MV rfl rfl (ST (Ex.addC rfl rfl hxn30) rfl (AS rfl rfl (NL (IB ?_)))))
        exact WQ.againP m22 [(0, _), (4, _), (5, _), (6, _), (7, _)] ⟨rfl, rfl, rfl, rfl, rfl, trivial⟩ ⟨_, _, rfl, H, hp0, e19⟩ (Nat.lt_succ_self _)
       ·
        subst hk29
        rw [if_neg Bool.false_ne_true] at e19
        refine WC.exit (WQ.thenExit (WQ.thenExit (WQ.exitHere ?_)))
        exact WQ.meetN [(0, _), (4, _), (5, _), (6, _), (7, _)] ⟨rfl, rfl, rfl, rfl, rfl, trivial⟩ ⟨_, _, rfl, H, hp0, e19⟩
     ·
      rintro e w ⟨n20, M, rfl, H, hp0, q31⟩
      obtain rfl := Option.some.inj q31
      refine TN (SQ (RG (MV rfl rfl (AS rfl rfl (NL (TN (SQ (SQ ?_))))))))
      obtain ⟨o32, e33, e6⟩ := bnd e6
      refine WC.cutX (fun e w => ∃ (b34 : Bool) (M : Mem), e = [(0, vp0), (4, ptr b4 0), (5, v13), (6, I n14), (7, I n20), (8, I n20), (55, Value.bool b34)] ∧ St w0 M0 M [.blk b4 (.cells #[I 0, I 0] 24), RowS 50 2 xenc50 v13 l12] w ∧ Sl M encB vp0 p0 ∧ some b34 = some o32) [] ?_ ?_ (trivial)
      ·
       refine RG (MV rfl rfl (MV rfl rfl (ST (Ex.lenSl Tryz.underlying30 hp0 rfl) rfl ?_)))
       by_cases hk35 : n20 < (p0.length : Int)
       ·
        rw [if_pos hk35] at e33
        by_cases hk36 : n14 < n20
        ·
         rw [if_pos hk36] at e33
         obtain ⟨n37, hxn37, e33⟩ := bnd e33
         obtain ⟨c38, hxc38, e33⟩ := bnd e33
         obtain ⟨b52, o52, ha52, hc52⟩ := hp0.atC hxc38
         refine WR.stepE (v' := .bool true) (Ex.lss rfl rfl) (congrArg Value.bool (decide_eq_true hk35)) (Wn.none rfl) rfl rfl (MV rfl rfl (SG (Ex.move rfl) rfl rfl rfl (SG (Ex.move rfl) rfl rfl rfl (WR.stepE (v' := .bool true) (Ex.gtr rfl rfl) (congrArg Value.bool (decide_eq_true hk36)) (Wn.some rfl rfl rfl) rfl rfl (PT rfl rfl rfl (MV rfl rfl (SG (Ex.move rfl) rfl rfl rfl (SG (Ex.move rfl) rfl rfl rfl (SG (Ex.subC rfl rfl hxn37) rfl rfl rfl (SG (Ex.idxAt ha52 Tryz.underlying30 Tryz.sizeOf5 rfl rfl) rfl rfl rfl (SG (Ex.loadM H rfl hc52 Tryz.isAgg5) rfl rfl rfl (SG (Ex.eqlB (c := c38) (d := 13) rfl rfl) rfl rfl rfl (PT rfl rfl rfl (NL ?_))))))))))))))
         exact WQ.meetN [(0, _), (4, _), (5, _), (6, _), (7, _), (8, _), (55, _)] ⟨rfl, rfl, rfl, rfl, rfl, rfl, rfl, trivial⟩ ⟨_, _, rfl, H, hp0, e33⟩
        ·
         rw [if_neg hk36] at e33
         refine WR.stepE (v' := .bool true) (Ex.lss rfl rfl) (congrArg Value.bool (decide_eq_true hk35)) (Wn.none rfl) rfl rfl (MV rfl rfl (SG (Ex.move rfl) rfl rfl rfl (SG (Ex.move rfl) rfl rfl rfl (WR.stepE (v' := .bool false) (Ex.gtr rfl rfl) (congrArg Value.bool (decide_eq_false hk36)) (Wn.some rfl rfl rfl) rfl rfl (PT rfl rfl rfl (MV rfl rfl (WR.skipN 6 rfl rfl (PF rfl rfl rfl (NL ?_)))))))))
         exact WQ.meetN [(0, _), (4, _), (5, _), (6, _), (7, _), (8, _), (55, _)] ⟨rfl, rfl, rfl, rfl, rfl, rfl, rfl, trivial⟩ ⟨_, _, rfl, H, hp0, e33⟩
       ·
        rw [if_neg hk35] at e33
        refine WR.stepE (v' := .bool false) (Ex.lss rfl rfl) (congrArg Value.bool (decide_eq_false hk35)) (Wn.none rfl) rfl rfl (MV rfl rfl (WR.skipN 3 rfl rfl (PF rfl rfl rfl (MV rfl rfl (WR.skipN 6 rfl rfl (PF rfl rfl rfl (NL ?_)))))))
        exact WQ.meetN [(0, _), (4, _), (5, _), (6, _), (7, _), (8, _), (55, _)] ⟨rfl, rfl, rfl, rfl, rfl, rfl, rfl, trivial⟩ ⟨_, _, rfl, H, hp0, e33⟩
      ·
       rintro e w ⟨b34, M, rfl, H, hp0, q39⟩
       obtain rfl := Option.some.inj q39
       refine TN ?_
       obtain ⟨o40, e41, e6⟩ := bnd e6
       refine WC.cutX (fun e w => ∃ (n42 : Int) (M : Mem), e = [(0, vp0), (4, ptr b4 0), (5, v13), (6, I n14), (7, I n20), (8, I n42)] ∧ St w0 M0 M [.blk b4 (.cells #[I 0, I 0] 24), RowS 50 2 xenc50 v13 l12] w ∧ Sl M encB vp0 p0 ∧ some n42 = some o40) [] ?_ ?_ (trivial)
       ·
        refine WC.condB rfl (fun hk43 => ?_) (fun hk43 => ?_)
        ·
         subst hk43
         rw [if_pos rfl] at e41
         obtain ⟨n44, hxn44, e41⟩ := bnd e41
         refine RG (MV rfl rfl (ST (Ex.subC rfl rfl hxn44) rfl (AS rfl rfl (NL ?_))))
         exact WQ.meetN [(0, _), (4, _), (5, _), (6, _), (7, _), (8, _)] ⟨rfl, rfl, rfl, rfl, rfl, rfl, trivial⟩ ⟨_, _, rfl, H, hp0, e41⟩
        ·
         subst hk43
         rw [if_neg Bool.false_ne_true] at e41
         refine SK ?_
         exact WQ.meetN [(0, _), (4, _), (5, _), (6, _), (7, _), (8, _)] ⟨rfl, rfl, rfl, rfl, rfl, rfl, trivial⟩ ⟨_, _, rfl, H, hp0, e41⟩
       ·
        rintro e w ⟨n42, M, rfl, H, hp0, q45⟩
        obtain rfl := Option.some.inj q45
        refine TN (SQ ?_)
        obtain ⟨n46, hxn46, e6⟩ := bnd e6
        refine RG (MV rfl rfl (ST (Ex.addC rfl rfl hxn46) rfl (AS rfl rfl (NL (TN (SQ (SQ (RG (MV rfl rfl (MV rfl rfl (ST (Ex.lenSl Tryz.underlying30 hp0 rfl) rfl (ST (Ex.eql rfl rfl) rfl (NL (TN ?_))))))))))))))
        obtain ⟨o47, e48, e6⟩ := bnd e6
        refine WC.cutX (fun e w => ∃ (n49 : Int) (M : Mem), e = [(0, vp0), (4, ptr b4 0), (5, v13), (6, I n14), (8, I n42), (9, I n49)] ∧ St w0 M0 M [.blk b4 (.cells #[I 0, I 0] 24), RowS 50 2 xenc50 v13 l12] w ∧ Sl M encB vp0 p0 ∧ some n49 = some o47) [] ?_ ?_ (trivial)
        ·
         refine WC.condB rfl (fun hk50 => ?_) (fun hk50 => ?_)
         ·
          replace hk50 : n20 = (p0.length : Int) := of_decide_eq_true hk50
          rw [if_pos hk50] at e48
          refine RG (MV rfl rfl (AS rfl rfl (NL ?_)))
          exact WQ.meetN [(0, _), (4, _), (5, _), (6, _), (8, _), (9, _)] ⟨rfl, rfl, rfl, rfl, rfl, rfl, trivial⟩ ⟨_, _, rfl, H, hp0, e48⟩
         ·
          replace hk50 : ¬ (n20 = (p0.length : Int)) := of_decide_eq_false hk50
          rw [if_neg hk50] at e48
          refine SK ?_
          exact WQ.meetN [(0, _), (4, _), (5, _), (6, _), (8, _), (9, _)] ⟨rfl, rfl, rfl, rfl, rfl, rfl, trivial⟩ ⟨_, _, rfl, H, hp0, e48⟩
        ·
         rintro e w ⟨n49, M, rfl, H, hp0, q51⟩
         obtain rfl := Option.some.inj q51
         refine TN (SQ ?_)
         obtain ⟨l52, hxl52, e6⟩ := bnd e6
         refine RG (MV rfl rfl (MV rfl rfl (MV rfl rfl (WR.sliceC Tryz.underlying30 Tryz.sizeOf5 (hp0) rfl rfl rfl hxl52 (Wn.none rfl) rfl ?_))))
         intro v68 hs68
         refine ST (Ex.toStr Tryz.underlying30 Tryz.underlying5 Tryz.underlying9 H (hs68) rfl) rfl (AS rfl rfl (NL (TN (SQ (SQ (RG (MV rfl rfl (ST (Ex.strEql rfl rfl) rfl (NL (TN ?_))))))))))
         refine WC.condB rfl (fun hk53 => ?_) (fun hk53 => ?_)
         ·
          replace hk53 : l52 = [] := of_decide_eq_true hk53
          rw [if_pos hk53] at e6
          refine SQ (RG (MV rfl rfl (AS rfl rfl (NL (TN (WC.exit (WQ.thenExit (WQ.exitOut rfl (WQ.thenExit (WQ.exitHere ?_))))))))))
          exact WQ.meetN [(4, _), (5, _), (6, _)] ⟨rfl, rfl, rfl, trivial⟩ ⟨_, _, _, _, rfl, H, e6⟩
         ·
          replace hk53 : ¬ (l52 = []) := of_decide_eq_false hk53
          rw [if_neg hk53] at e6
          refine SK (TN (SQ (SQ ?_)))
          obtain ⟨o54, e55, e6⟩ := bnd e6
          refine WC.cutX (fun e w => ∃ (b56 : Bool) (M : Mem), e = [(0, vp0), (4, ptr b4 0), (5, v13), (6, I n14), (9, I n49), (10, S l52), (80, Value.bool b56)] ∧ St w0 M0 M [.blk b4 (.cells #[I 0, I 0] 24), RowS 50 2 xenc50 v13 l12] w ∧ Sl M encB vp0 p0 ∧ some b56 = some o54) [] ?_ ?_ (trivial)
          ·
           refine RG (MV rfl rfl (ST (Ex.lenRowS (l := l12) Tryz.underlying31 H (by repeat (first | exact List.Mem.head _ | apply List.Mem.tail)) rfl) rfl ?_))
           by_cases hk57 : (0 : Int) < (l12.length : Int)
           ·
            rw [if_pos hk57] at e55
            obtain ⟨c58, hxc58, e55⟩ := bnd e55
            obtain ⟨b59, hx60, e55⟩ := bnd e55
            refine WR.stepE (v' := .bool true) (Ex.gtr rfl rfl) (congrArg Value.bool (decide_eq_true hk57)) (Wn.none rfl) rfl rfl (MV rfl rfl (SG (Ex.move rfl) rfl rfl rfl (SG (Ex.idxStrC Tryz.underlying9 rfl rfl hxc58) rfl rfl rfl (WR.call H (R_Blank_ct hx60) rfl trivial (Wn.some rfl rfl rfl) rfl ?_))))
            intro v79 M w H hle hR
            replace hp0 := hp0.mono hle
            replace hs68 := hs68.mono hle
            obtain rfl := hR
            refine PT rfl rfl rfl (NL ?_)
            exact WQ.meetN [(0, _), (4, _), (5, _), (6, _), (9, _), (10, _), (80, _)] ⟨rfl, rfl, rfl, rfl, rfl, rfl, rfl, trivial⟩ ⟨_, _, rfl, H, hp0, e55⟩
           ·
            rw [if_neg hk57] at e55
            refine WR.stepE (v' := .bool false) (Ex.gtr rfl rfl) (congrArg Value.bool (decide_eq_false hk57)) (Wn.none rfl) rfl rfl (MV rfl rfl (WR.skipN 3 rfl rfl (PF rfl rfl rfl (NL ?_))))
            exact WQ.meetN [(0, _), (4, _), (5, _), (6, _), (9, _), (10, _), (80, _)] ⟨rfl, rfl, rfl, rfl, rfl, rfl, rfl, trivial⟩ ⟨_, _, rfl, H, hp0, e55⟩
          ·
           rintro e w ⟨b56, M, rfl, H, hp0, q61⟩
           obtain rfl := Option.some.inj q61
           refine TN ?_
           refine WC.condB rfl (fun hk62 => ?_) (fun hk62 => ?_)
           ·
            subst hk62
            rw [if_pos rfl] at e6
            refine SQ ?_
            obtain ⟨n63, hxn63, e6⟩ := bnd e6
            obtain ⟨n64, hxn64, e6⟩ := bnd e6
            obtain ⟨a65, hxa65, e6⟩ := bnd e6
            obtain ⟨s66, hxs66, e6⟩ := bnd e6
            obtain ⟨a67, hxa67, e6⟩ := bnd e6
            obtain ⟨l68, hxl68, e6⟩ := bnd e6
            refine RG (MV rfl rfl (MV rfl rfl (ST (Ex.lenRowS (l := l12) Tryz.underlying31 H (by repeat (first | exact List.Mem.head _ | apply List.Mem.tail)) rfl) rfl ?_)))
            refine ST (Ex.subC rfl rfl hxn63) rfl (MV rfl rfl (MV rfl rfl (ST (Ex.lenRowS (l := l12) Tryz.underlying31 H (by repeat (first | exact List.Mem.head _ | apply List.Mem.tail)) rfl) rfl ?_)))
            refine ST (Ex.subC rfl rfl hxn64) rfl (WR.idxRowSC (l := l12) H Tryz.underlying31 Tryz.sizeOf50 (by repeat (first | exact List.Mem.head _ | apply List.Mem.tail)) rfl rfl hxa65 (Wn.none rfl) rfl ?_)
            intro g89 hg89
            refine ST (Ex.fieldAddr Tryz.underlying50 rfl Tryz.sizeOf9 (by decide) rfl) rfl (ST (Ex.loadRowF (j := 1) H rfl hg89 (by repeat (first | exact List.Mem.head _ | apply List.Mem.tail)) (fun _ => rfl) hxa65 rfl Tryz.isAgg9) rfl ?_)
            refine MV rfl rfl (ST (Ex.strAddC rfl rfl hxs66) rfl (WR.idxRowSC (l := l12) H Tryz.underlying31 Tryz.sizeOf50 (by repeat (first | exact List.Mem.head _ | apply List.Mem.tail)) rfl rfl hxa67 (Wn.none rfl) rfl ?_))
            intro g94 hg94
            refine ST (Ex.fieldAddr Tryz.underlying50 rfl Tryz.sizeOf9 (by decide) rfl) rfl (WR.storeRowFC (j := 1) (a := a67) (a' := (a67.1, s66)) H rfl rfl ⟨rfl, rfl⟩ hg94 (fun _ => by repeat first | exact .head | apply Upd.tail) (fun _ => rfl) hxa67 hxl68 rfl rfl Tryz.sizeOf9 (Wn.none rfl) ?_)
            intro w H
            refine NL (TN (SQ (RG (MV rfl rfl (AS rfl rfl (NL (TN (WC.exit (WQ.thenExit (WQ.exitHere ?_))))))))))
            exact WQ.againP m15 [(0, _), (4, _), (5, _), (6, _)] ⟨rfl, rfl, rfl, rfl, trivial⟩ ⟨_, _, _, _, rfl, H, hp0, e6⟩ (Nat.lt_succ_self _)
           ·
            subst hk62
            rw [if_neg Bool.false_ne_true] at e6
            refine SK (TN (SQ ?_))
            obtain ⟨n69, hx70, e6⟩ := bnd e6
            refine RG (MV rfl rfl (WR.call H (R_Find_ct hx70) rfl trivial (Wn.none rfl) rfl ?_))
            intro v98 M w H hle hR
            replace hp0 := hp0.mono hle
            obtain rfl := hR
            refine AS rfl rfl (NL (TN (SQ (SQ (RG (MV rfl rfl (ST (Ex.lss rfl rfl) rfl (NL (TN ?_)))))))))
            refine WC.condB rfl (fun hk71 => ?_) (fun hk71 => ?_)
            ·
             replace hk71 : n69 < (0 : Int) := of_decide_eq_true hk71
             rw [if_pos hk71] at e6
             refine WC.exit (WQ.thenExit (WQ.exitOut rfl (WQ.thenExit (WQ.exitHere ?_))))
             exact WQ.meetN [(4, _), (5, _), (6, _)] ⟨rfl, rfl, rfl, trivial⟩ ⟨_, _, _, _, rfl, H, e6⟩
            ·
             replace hk71 : ¬ (n69 < (0 : Int)) := of_decide_eq_false hk71
             rw [if_neg hk71] at e6
             refine SK (TN (SQ ?_))
             obtain ⟨s72, hxs72, e6⟩ := bnd e6
             refine RG (MV rfl rfl (MV rfl rfl (ST (Ex.sliceH Tryz.underlying9 rfl rfl hxs72) rfl (AS rfl rfl (NL (TN (SQ ?_)))))))
             obtain ⟨o73, e74, e6⟩ := bnd e6
             refine WC.cutX (fun e w => ∃ (s75 : List UInt8) (M : Mem), e = [(0, vp0), (4, ptr b4 0), (5, v13), (6, I n14), (9, I n49), (10, S l52), (11, I n69), (12, S s75)] ∧ St w0 M0 M [.blk b4 (.cells #[I 0, I 0] 24), RowS 50 2 xenc50 v13 l12] w ∧ Sl M encB vp0 p0 ∧ some s75 = some o73) [] ?_ ?_ (trivial)
             ·
              refine BL (WC.loopP (fun m e w => ∃ (s76 : List UInt8) (M : Mem), e = [(0, vp0), (4, ptr b4 0), (5, v13), (6, I n14), (9, I n49), (10, S l52), (11, I n69), (12, S s76)] ∧ St w0 M0 M [.blk b4 (.cells #[I 0, I 0] 24), RowS 50 2 xenc50 v13 l12] w ∧ Sl M encB vp0 p0 ∧ R_ReadHeader_L3  m s76 = some o73) FU [(0, _), (4, _), (5, _), (6, _), (9, _), (10, _), (11, _), (12, _)] ⟨rfl, rfl, rfl, rfl, rfl, rfl, rfl, rfl, trivial⟩ ⟨_, _, rfl, H, hp0, e74⟩ ?_)
              rintro m77 e w ⟨s76, M, rfl, H, hp0, e74⟩
              rcases m77 with _ | m77
              · rw [R_ReadHeader_L3] at e74; cases e74
              rw [R_ReadHeader_L3] at e74
              refine SQ (SQ ?_)
              obtain ⟨o78, e79, e74⟩ := bnd e74
              refine WC.cutX (fun e w => ∃ (b80 : Bool) (M : Mem), e = [(0, vp0), (4, ptr b4 0), (5, v13), (6, I n14), (9, I n49), (10, S l52), (11, I n69), (12, S s76), (114, Value.bool b80)] ∧ St w0 M0 M [.blk b4 (.cells #[I 0, I 0] 24), RowS 50 2 xenc50 v13 l12] w ∧ Sl M encB vp0 p0 ∧ some b80 = some o78) [] ?_ ?_ (trivial)
              ·
               refine RG (MV rfl rfl (ST (Ex.lenStr Tryz.underlying9 rfl) rfl ?_))
               by_cases hk81 : (0 : Int) < (s76.length : Int)
               ·
                rw [if_pos hk81] at e79
                obtain ⟨n82, hxn82, e79⟩ := bnd e79
                obtain ⟨c83, hxc83, e79⟩ := bnd e79
                obtain ⟨b84, hx85, e79⟩ := bnd e79
                refine WR.stepE (v' := .bool true) (Ex.gtr rfl rfl) (congrArg Value.bool (decide_eq_true hk81)) (Wn.none rfl) rfl rfl (MV rfl rfl (SG (Ex.move rfl) rfl rfl rfl (SG (Ex.move rfl) rfl rfl rfl (SG (Ex.lenStr Tryz.underlying9 rfl) rfl rfl rfl (SG (Ex.subC rfl rfl hxn82) rfl rfl rfl (SG (Ex.idxStrC Tryz.underlying9 rfl rfl hxc83) rfl rfl rfl (WR.call H (R_Blank_ct hx85) rfl trivial (Wn.some rfl rfl rfl) rfl ?_)))))))
                intro v113 M w H hle hR
                replace hp0 := hp0.mono hle
                obtain rfl := hR
                refine PT rfl rfl rfl (NL ?_)
                exact WQ.meetN [(0, _), (4, _), (5, _), (6, _), (9, _), (10, _), (11, _), (12, _), (114, _)] ⟨rfl, rfl, rfl, rfl, rfl, rfl, rfl, rfl, rfl, trivial⟩ ⟨_, _, rfl, H, hp0, e79⟩
               ·
                rw [if_neg hk81] at e79
                refine WR.stepE (v' := .bool false) (Ex.gtr rfl rfl) (congrArg Value.bool (decide_eq_false hk81)) (Wn.none rfl) rfl rfl (MV rfl rfl (WR.skipN 6 rfl rfl (PF rfl rfl rfl (NL ?_))))
                exact WQ.meetN [(0, _), (4, _), (5, _), (6, _), (9, _), (10, _), (11, _), (12, _), (114, _)] ⟨rfl, rfl, rfl, rfl, rfl, rfl, rfl, rfl, rfl, trivial⟩ ⟨_, _, rfl, H, hp0, e79⟩
              ·
               rintro e w ⟨b80, M, rfl, H, hp0, q86⟩
               obtain rfl := Option.some.inj q86
               refine TN ?_
               refine WC.condB rfl (fun hk87 => ?_) (fun hk87 => ?_)
               ·
                subst hk87
                rw [if_pos rfl] at e74
                refine SK (TN (BL ?_))
                obtain ⟨n88, hxn88, e74⟩ := bnd e74
                obtain ⟨s89, hxs89, e74⟩ := bnd e74
                refine RG (MV rfl rfl (MV rfl rfl (ST (Ex.lenStr Tryz.underlying9 rfl) rfl (ST (Ex.subC rfl rfl hxn88) rfl (ST (Ex.sliceH Tryz.underlying9 rfl rfl hxs89) rfl (AS rfl rfl (NL (IB ?_))))))))
                exact WQ.againP m77 [(0, _), (4, _), (5, _), (6, _), (9, _), (10, _), (11, _), (12, _)] ⟨rfl, rfl, rfl, rfl, rfl, rfl, rfl, rfl, trivial⟩ ⟨_, _, rfl, H, hp0, e74⟩ (Nat.lt_succ_self _)
               ·
                subst hk87
                rw [if_neg Bool.false_ne_true] at e74
                refine WC.exit (WQ.thenExit (WQ.thenExit (WQ.exitHere ?_)))
                exact WQ.meetN [(0, _), (4, _), (5, _), (6, _), (9, _), (10, _), (11, _), (12, _)] ⟨rfl, rfl, rfl, rfl, rfl, rfl, rfl, rfl, trivial⟩ ⟨_, _, rfl, H, hp0, e74⟩
             ·
              rintro e w ⟨s75, M, rfl, H, hp0, q90⟩
              obtain rfl := Option.some.inj q90
              refine TN (SQ (SQ ?_))
              obtain ⟨b91, hx92, e6⟩ := bnd e6
              refine RG (MV rfl rfl (WR.call H (R_FieldName_ct hx92) rfl trivial (Wn.none rfl) rfl ?_))
              intro v121 M w H hle hR
              replace hp0 := hp0.mono hle
              obtain rfl := hR
              refine ST (Ex.not rfl) rfl (NL (TN ?_))
              refine WC.condB rfl (fun hk93 => ?_) (fun hk93 => ?_)
              ·
               replace hk93 : b91 = false := by simpa using hk93
               subst hk93
               rw [if_neg Bool.false_ne_true] at e6
               refine WC.exit (WQ.thenExit (WQ.exitOut rfl (WQ.thenExit (WQ.exitHere ?_))))
               exact WQ.meetN [(4, _), (5, _), (6, _)] ⟨rfl, rfl, rfl, trivial⟩ ⟨_, _, _, _, rfl, H, e6⟩
              ·
               replace hk93 : b91 = true := by simpa using hk93
               subst hk93
               rw [if_pos rfl] at e6
               refine SK (TN (SQ ?_))
               obtain ⟨n94, hxn94, e6⟩ := bnd e6
               obtain ⟨s95, hxs95, e6⟩ := bnd e6
               obtain ⟨l96, hxl96, e6⟩ := bnd e6
               refine RG (MV rfl rfl (MV rfl rfl (MV rfl rfl (MV rfl rfl (ST (Ex.addC rfl rfl hxn94) rfl (ST (Ex.sliceL Tryz.underlying9 rfl rfl hxs95) rfl (ST (Ex.build [S s75, S s95] Tryz.underlying50 Tryz.zeroValue50 (xplaces50 Tryz.underlying50) rfl rfl) rfl (WR.litS (enc := xenc50) xty31 ([(s75, s95)] : List (List UInt8 × List UInt8)) H (fun _ => rfl) rfl (by kernel_rfl) rfl rfl rfl (Wn.none rfl) rfl ?_))))))))
               intro v130 M w H hle hs130
               replace hp0 := hp0.mono hle
               refine WR.appSC (l := l12) xty31 rfl xone50 H rfl (fun _ => by repeat first | exact .head | apply Upd.tail) rfl (hs130) hxl96 (Wn.none rfl) rfl ?_
               intro v131 w H
               refine AS rfl rfl (NL (TN (RG (MV rfl rfl (AS rfl rfl (NL (IB ?_)))))))
               exact WQ.againP m15 [(0, _), (4, _), (5, _), (6, _)] ⟨rfl, rfl, rfl, rfl, trivial⟩ ⟨_, _, _, _, rfl, H, hp0, e6⟩ (Nat.lt_succ_self _)
    ·
     replace hk17 : ¬ (n14 < (p0.length : Int)) := of_decide_eq_false hk17
     rw [if_neg hk17] at e6
     refine WC.exit (WQ.thenExit (WQ.thenExit (WQ.exitHere ?_)))
     exact WQ.meetN [(4, _), (5, _), (6, _)] ⟨rfl, rfl, rfl, trivial⟩ ⟨_, _, _, _, rfl, H, e6⟩
   ·
    rintro e w ⟨l8, v9, n10, M, rfl, H, q97⟩
    obtain rfl := Option.some.inj q97
    try dsimp only at h
    refine TN (SQ (SQ (RG (MV rfl rfl (ST (Ex.lenRowS (l := l8) Tryz.underlying31 H (by repeat (first | exact List.Mem.head _ | apply List.Mem.tail)) rfl) rfl ?_)))))
    refine ST (Ex.gtr rfl rfl) rfl (NL (TN ?_))
    refine WC.condB rfl (fun hk98 => ?_) (fun hk98 => ?_)
    ·
     replace hk98 : (60 : Int) < (l8.length : Int) := of_decide_eq_true hk98
     rw [if_pos hk98] at h
     refine SQ ?_
     obtain ⟨⟨n99, n100⟩, hx101, h⟩ := bnd h
     try dsimp only at h
     refine RG (WR.call H (R_At_ct hx101) rfl trivial (Wn.none rfl) rfl ?_)
     intro v136 M w H hle hR
     try dsimp only at hR
     obtain rfl := hR
     refine AS rfl rfl (AS rfl rfl (WR.store [_, _] H rfl rfl rfl (by repeat first | exact .head | apply Upd.tail) Tryz.sizeOf24 rfl (by rfl) (by rfl) (Wn.none rfl) ?_))
     intro w H
     refine NL (TN (RT ?_))
     obtain rfl := Option.some.inj h
     exact WQ.ret3 rfl rfl rfl ⟨_, rfl, H.loadAgg (by repeat (first | exact List.Mem.head _ | apply List.Mem.tail)) Tryz.isAgg24 Tryz.sizeOf24 (by rfl)⟩ H.ext (⟨_, rfl, (SlS.nil _ _ (fun _ => rfl))⟩)
    ·
     replace hk98 : ¬ ((60 : Int) < (l8.length : Int)) := of_decide_eq_false hk98
     rw [if_neg hk98] at h
     refine SK (TN (SQ (SQ (RG (AS rfl rfl (NL (TN ?_)))))))
     obtain ⟨o102, e103, h⟩ := bnd h
     refine WC.cutX (fun e w => ∃ (n104 : Int) (n105 : Int) (l106 : List (List UInt8 × List UInt8)) (M : Mem), e = [(4, ptr b4 0), (5, v9), (6, I n10)] ∧ St w0 M0 M [.blk b4 (.cells #[I n104, I n105] 24), RowS 50 2 xenc50 v9 l106] w ∧ some (.inl (n104, n105, l106)) = some o102) [] ?_ ?_ (trivial)
     ·
      refine BL (WC.loopP (fun m e w => ∃ (n107 : Int) (n108 : Int) (l109 : List (List UInt8 × List UInt8)) (n110 : Int) (M : Mem), e = [(4, ptr b4 0), (5, v9), (6, I n10), (13, I n110)] ∧ St w0 M0 M [.blk b4 (.cells #[I n107, I n108] 24), RowS 50 2 xenc50 v9 l109] w ∧ R_ReadHeader_L4  m n107 n108 l109 n110 = some o102) FU [(4, _), (5, _), (6, _), (13, _)] ⟨rfl, rfl, rfl, rfl, trivial⟩ ⟨_, _, _, _, _, rfl, H, e103⟩ ?_)
      rintro m111 e w ⟨n107, n108, l109, n110, M, rfl, H, e103⟩
      rcases m111 with _ | m111
      · rw [R_ReadHeader_L4] at e103; cases e103
      rw [R_ReadHeader_L4] at e103
      refine SQ (SQ (RG (MV rfl rfl (MV rfl rfl (ST (Ex.lenRowS (l := l109) Tryz.underlying31 H (by repeat (first | exact List.Mem.head _ | apply List.Mem.tail)) rfl) rfl ?_)))))
      refine ST (Ex.lss rfl rfl) rfl (NL (TN ?_))
      refine WC.condB rfl (fun hk112 => ?_) (fun hk112 => ?_)
      ·
       replace hk112 : n110 < (l109.length : Int) := of_decide_eq_true hk112
       rw [if_pos hk112] at e103
       refine SK (TN (SQ (BL (SQ ?_))))
       obtain ⟨a113, hxa113, e103⟩ := bnd e103
       obtain ⟨l114, hxl114, e103⟩ := bnd e103
       refine RG (MV rfl rfl (MV rfl rfl (WR.idxRowSC (l := l109) H Tryz.underlying31 Tryz.sizeOf50 (by repeat (first | exact List.Mem.head _ | apply List.Mem.tail)) rfl rfl hxa113 (Wn.none rfl) rfl ?_)))
       intro g145 hg145
       refine ST (Ex.fieldAddr Tryz.underlying50 rfl Tryz.sizeOf9 (by decide) rfl) rfl (ST (Ex.loadRowF (j := 1) H rfl hg145 (by repeat (first | exact List.Mem.head _ | apply List.Mem.tail)) (fun _ => rfl) hxa113 rfl Tryz.isAgg9) rfl ?_)
       refine WR.toBytesC H Tryz.underlying9 Tryz.underlying30 Tryz.underlying5 rfl hxl114 (Wn.none rfl) rfl ?_
       intro gk115 cpk115 w hs116 H
       refine AS rfl rfl (NL (TN (SQ (SQ (RG (AS rfl rfl (NL (TN ?_))))))))
       obtain ⟨o117, e118, e103⟩ := bnd e103
       refine WC.cutX (fun e w => ∃ (l119 : List UInt8) (M : Mem), e = [(4, ptr b4 0), (5, v9), (6, I n10), (13, I n110), (14, (Value.slice (some ⟨gk115, 0, none⟩) l114.length cpk115))] ∧ St w0 M0 M [.blk b4 (.cells #[I n107, I n108] 24), RowS 50 2 xenc50 v9 l109, SRow gk115 cpk115 5 l119] w ∧ SOK M l119 l114.length cpk115 ∧ some l119 = some o117) [] ?_ ?_ (trivial)
       ·
        refine BL ?_
        refine WC.loopP (fun m e w => ∃ (l121 : List UInt8) (n123 : Int) (M : Mem), e = [(4, ptr b4 0), (5, v9), (6, I n10), (13, I n110), (14, (Value.slice (some ⟨gk115, 0, none⟩) l114.length cpk115)), (15, I n123)] ∧ St w0 M0 M [.blk b4 (.cells #[I n107, I n108] 24), RowS 50 2 xenc50 v9 l109, SRow gk115 cpk115 5 l121] w ∧ SOK M l121 l114.length cpk115 ∧ R_ReadHeader_L5  m l121 n123 = some o117) FU [(4, _), (5, _), (6, _), (13, _), (14, _), (15, _)] ⟨rfl, rfl, rfl, rfl, rfl, rfl, trivial⟩ ⟨_, _, _, rfl, (H.pick (L' := [.blk b4 (.cells #[I n107, I n108] 24), RowS 50 2 xenc50 v9 l109, SRow gk115 cpk115 5 l114]) (by repeat (first | exact Pick.nil | refine Pick.cons (by repeat first | exact .head | apply Rem.tail) ?_))), hs116, e118⟩ ?_
        rintro m124 e w ⟨l121, n123, M, rfl, H, hs122, e118⟩
        rcases m124 with _ | m124
        · rw [R_ReadHeader_L5] at e118; cases e118
        rw [R_ReadHeader_L5] at e118
        refine SQ (SQ (RG (MV rfl rfl (MV rfl rfl (ST (Ex.lenSOK Tryz.underlying30 hs122 rfl) rfl (ST (Ex.lss rfl rfl) rfl (NL (TN ?_))))))))
        refine WC.condB rfl (fun hk125 => ?_) (fun hk125 => ?_)
        ·
         replace hk125 : n123 < (l121.length : Int) := of_decide_eq_true hk125
         rw [if_pos hk125] at e118
         refine SK (TN (SQ (BL (SQ ?_))))
         obtain ⟨o126, e127, e118⟩ := bnd e118
         refine WC.cutX (fun e w => ∃ (b128 : Bool) (M : Mem), e = [(4, ptr b4 0), (5, v9), (6, I n10), (13, I n110), (14, (Value.slice (some ⟨gk115, 0, none⟩) l114.length cpk115)), (15, I n123), (166, Value.bool b128)] ∧ St w0 M0 M [.blk b4 (.cells #[I n107, I n108] 24), RowS 50 2 xenc50 v9 l109, SRow gk115 cpk115 5 l121] w ∧ SOK M l121 l114.length cpk115 ∧ some b128 = some o126) [] ?_ ?_ (trivial)
         ·
          obtain ⟨c129, hxc129, e127⟩ := bnd e127
          refine RG (MV rfl rfl (MV rfl rfl (ST (Ex.idxSC Tryz.underlying30 Tryz.sizeOf5 hs122 rfl rfl hxc129) rfl (ST (Ex.loadSC H rfl (by repeat (first | exact List.Mem.head _ | apply List.Mem.tail)) hxc129 Tryz.isAgg5) rfl ?_))))
          by_cases hk130 : c129 = 0
          ·
           rw [if_pos hk130] at e127
           refine WR.stepE (v' := .bool true) (Ex.eqlB (c := c129) (d := 0) rfl rfl) (congrArg Value.bool (decide_eq_true hk130)) (Wn.none rfl) rfl rfl (MV rfl rfl (WR.skipN 5 rfl rfl (PT rfl rfl rfl (NL ?_))))
           exact WQ.meetN [(4, _), (5, _), (6, _), (13, _), (14, _), (15, _), (166, _)] ⟨rfl, rfl, rfl, rfl, rfl, rfl, rfl, trivial⟩ ⟨_, _, rfl, H, hs122, e127⟩
          ·
           rw [if_neg hk130] at e127
           obtain ⟨c131, hxc131, e127⟩ := bnd e127
           refine WR.stepE (v' := .bool false) (Ex.eqlB (c := c129) (d := 0) rfl rfl) (congrArg Value.bool (decide_eq_false hk130)) (Wn.none rfl) rfl rfl (MV rfl rfl (SG (Ex.move rfl) rfl rfl rfl (SG (Ex.move rfl) rfl rfl rfl (SG (Ex.idxSC Tryz.underlying30 Tryz.sizeOf5 hs122 rfl rfl hxc131) rfl rfl rfl (SG (Ex.loadSC H rfl (by repeat (first | exact List.Mem.head _ | apply List.Mem.tail)) hxc131 Tryz.isAgg5) rfl rfl rfl ?_)))))
           refine SG (Ex.eqlB (c := c131) (d := 13) rfl rfl) rfl rfl rfl (PF rfl rfl rfl (NL ?_))
           exact WQ.meetN [(4, _), (5, _), (6, _), (13, _), (14, _), (15, _), (166, _)] ⟨rfl, rfl, rfl, rfl, rfl, rfl, rfl, trivial⟩ ⟨_, _, rfl, H, hs122, e127⟩
         ·
          rintro e w ⟨b128, M, rfl, H, hs122, q132⟩
          obtain rfl := Option.some.inj q132
          refine TN ?_
          refine WC.condB rfl (fun hk133 => ?_) (fun hk133 => ?_)
          ·
           subst hk133
           rw [if_pos rfl] at e118
           obtain ⟨c134, hxc134, e118⟩ := bnd e118
           obtain ⟨l135, hxl135, e118⟩ := bnd e118
           refine RG (MV rfl rfl (MV rfl rfl (ST (Ex.idxSC Tryz.underlying30 Tryz.sizeOf5 hs122 rfl rfl hxc134) rfl (WR.storeSC H rfl rfl hs122 (fun _ => by repeat first | exact .head | apply Upd.tail) hxl135 Tryz.sizeOf5 (Wn.none rfl) ?_))))
           intro w hs136 H
           refine NL (IB (TN ?_))
           obtain ⟨n137, hxn137, e118⟩ := bnd e118
           refine RG (MV rfl rfl (ST (Ex.addC rfl rfl hxn137) rfl (AS rfl rfl (NL ?_))))
           exact WQ.againP m124 [(4, _), (5, _), (6, _), (13, _), (14, _), (15, _)] ⟨rfl, rfl, rfl, rfl, rfl, rfl, trivial⟩ ⟨_, _, _, rfl, H, hs136, e118⟩ (Nat.lt_succ_self _)
          ·
           subst hk133
           rw [if_neg Bool.false_ne_true] at e118
           refine SK (IB (TN ?_))
           obtain ⟨n138, hxn138, e118⟩ := bnd e118
           refine RG (MV rfl rfl (ST (Ex.addC rfl rfl hxn138) rfl (AS rfl rfl (NL ?_))))
           exact WQ.againP m124 [(4, _), (5, _), (6, _), (13, _), (14, _), (15, _)] ⟨rfl, rfl, rfl, rfl, rfl, rfl, trivial⟩ ⟨_, _, _, rfl, H, hs122, e118⟩ (Nat.lt_succ_self _)
        ·
         replace hk125 : ¬ (n123 < (l121.length : Int)) := of_decide_eq_false hk125
         rw [if_neg hk125] at e118
         refine WC.exit (WQ.thenExit (WQ.thenExit (WQ.exitHere ?_)))
         exact WQ.meetN [(4, _), (5, _), (6, _), (13, _), (14, _)] ⟨rfl, rfl, rfl, rfl, rfl, trivial⟩ ⟨_, _, rfl, H, hs122, e118⟩
       ·
        rintro e w ⟨l119, M, rfl, H, hs120, q139⟩
        obtain rfl := Option.some.inj q139
        refine TN (SQ ?_)
        obtain ⟨s140, hx141, e103⟩ := bnd e103
        obtain ⟨a142, hxa142, e103⟩ := bnd e103
        obtain ⟨l143, hxl143, e103⟩ := bnd e103
        refine RG (MV rfl rfl (MV rfl rfl (MV rfl rfl (ST (Ex.toStrS Tryz.underlying30 Tryz.underlying5 Tryz.underlying9 H (by repeat (first | exact List.Mem.head _ | apply List.Mem.tail)) hs120.1.symm rfl) rfl ?_))))
        refine WR.call H (R_Trim_ct hx141) rfl trivial (Wn.none rfl) rfl ?_
        intro v174 M w H hle hR
        replace hs120 := hs120.mono hle
        obtain rfl := hR
        refine WR.idxRowSC (l := l109) H Tryz.underlying31 Tryz.sizeOf50 (by repeat (first | exact List.Mem.head _ | apply List.Mem.tail)) rfl rfl hxa142 (Wn.none rfl) rfl ?_
        intro g175 hg175
        refine ST (Ex.fieldAddr Tryz.underlying50 rfl Tryz.sizeOf9 (by decide) rfl) rfl (WR.storeRowFC (j := 1) (a := a142) (a' := (a142.1, s140)) H rfl rfl ⟨rfl, rfl⟩ hg175 (fun _ => by repeat first | exact .head | apply Upd.tail) (fun _ => rfl) hxa142 hxl143 rfl rfl Tryz.sizeOf9 (Wn.none rfl) ?_)
        intro w H
        refine NL (TN (SQ ?_))
        obtain ⟨a144, hxa144, e103⟩ := bnd e103
        refine RG (MV rfl rfl (MV rfl rfl (WR.idxRowSC (l := l143) H Tryz.underlying31 Tryz.sizeOf50 (by repeat (first | exact List.Mem.head _ | apply List.Mem.tail)) rfl rfl hxa144 (Wn.none rfl) rfl ?_)))
        intro g179 hg179
        refine ST (Ex.fieldAddr Tryz.underlying50 rfl Tryz.sizeOf9 (by decide) rfl) rfl (ST (Ex.loadRowF (j := 1) H rfl hg179 (by repeat (first | exact List.Mem.head _ | apply List.Mem.tail)) (fun _ => rfl) hxa144 rfl Tryz.isAgg9) rfl ?_)
        refine ST (Ex.lenStr Tryz.underlying9 rfl) rfl (ST (Ex.gtr rfl rfl) rfl (NL (TN ?_)))
        refine WC.condB rfl (fun hk145 => ?_) (fun hk145 => ?_)
        ·
         replace hk145 : (4000 : Int) < (a144.2.length : Int) := of_decide_eq_true hk145
         rw [if_pos hk145] at e103
         refine SQ ?_
         obtain ⟨⟨n146, n147⟩, hx148, e103⟩ := bnd e103
         try dsimp only at e103
         refine RG (MV rfl rfl (WR.call H (R_At_ct hx148) rfl trivial (Wn.none rfl) rfl ?_))
         intro v185 M w H hle hR
         replace hs120 := hs120.mono hle
         try dsimp only at hR
         obtain rfl := hR
         refine AS rfl rfl (AS rfl rfl (WR.store [_, _] H rfl rfl rfl (by repeat first | exact .head | apply Upd.tail) Tryz.sizeOf24 rfl (by rfl) (by rfl) (Wn.none rfl) ?_))
         intro w H
         refine NL (TN (RT ?_))
         obtain rfl := Option.some.inj e103
         try dsimp only at h
         obtain rfl := Option.some.inj h
         exact WQ.ret3 rfl rfl rfl ⟨_, rfl, H.loadAgg (by repeat (first | exact List.Mem.head _ | apply List.Mem.tail)) Tryz.isAgg24 Tryz.sizeOf24 (by rfl)⟩ H.ext (⟨_, rfl, (SlS.nil _ _ (fun _ => rfl))⟩)
        ·
         replace hk145 : ¬ ((4000 : Int) < (a144.2.length : Int)) := of_decide_eq_false hk145
         rw [if_neg hk145] at e103
         refine SK (IB (TN ?_))
         obtain ⟨n149, hxn149, e103⟩ := bnd e103
         refine RG (MV rfl rfl (ST (Ex.addC rfl rfl hxn149) rfl (AS rfl rfl (NL ?_))))
         exact WQ.againP m111 [(4, _), (5, _), (6, _), (13, _)] ⟨rfl, rfl, rfl, rfl, trivial⟩ ⟨_, _, _, _, _, rfl, (H.pick (L' := [.blk b4 (.cells #[I n107, I n108] 24), RowS 50 2 xenc50 v9 l143]) (by repeat (first | exact Pick.nil | refine Pick.cons (by repeat first | exact .head | apply Rem.tail) ?_))), e103⟩ (Nat.lt_succ_self _)
      ·
       replace hk112 : ¬ (n110 < (l109.length : Int)) := of_decide_eq_false hk112
       rw [if_neg hk112] at e103
       refine WC.exit (WQ.thenExit (WQ.thenExit (WQ.exitHere ?_)))
       exact WQ.meetN [(4, _), (5, _), (6, _)] ⟨rfl, rfl, rfl, trivial⟩ ⟨_, _, _, _, rfl, H, e103⟩
     ·
      rintro e w ⟨n104, n105, l106, M, rfl, H, q150⟩
      obtain rfl := Option.some.inj q150
      try dsimp only at h
      refine TN (SQ (RG (MV rfl rfl (MV rfl rfl (ST (Ex.build [I 0, I 0] Tryz.underlying24 Tryz.zeroValue24 (xplaces24 Tryz.underlying24) rfl rfl) rfl (AS rfl rfl (AS rfl rfl (WR.store [_, _] H rfl rfl rfl (by repeat first | exact .head | apply Upd.tail) Tryz.sizeOf24 rfl (by rfl) (by rfl) (Wn.none rfl) ?_))))))))
      intro w H
      refine NL (TN (RT ?_))
      obtain ⟨M, hle, hs151, H⟩ := H.freezeRowS (v := v9) (enc := xenc50) (t := 50) (by repeat first | exact .head | apply Rem.tail) (fun _ => rfl)
      obtain rfl := Option.some.inj h
      exact WQ.ret3 rfl rfl rfl ⟨_, rfl, H.loadAgg (by repeat (first | exact List.Mem.head _ | apply List.Mem.tail)) Tryz.isAgg24 Tryz.sizeOf24 (by rfl)⟩ H.ext (⟨_, rfl, hs151⟩)
theorem R_SameFields_ct {p0 : List (List UInt8 × List UInt8)} {p1 : List (List UInt8 × List UInt8)} {vp0 : Value} {vp1 : Value} {r : Bool} (h : R_SameFields p0 p1 = some r) : Ct Tryz.prog 22 [vp0, vp1] (fun M => SlS M 2 xenc50 vp0 p0 ∧ SlS M 2 xenc50 vp1 p1) (fun v M => v = Value.bool r) := by
  refine Ct.of Tryz.func22 (enters Tryz.func22 (by kernel_rfl) rfl) rfl rfl rfl ?_
  intro w0 M0 H hp
  obtain ⟨hp0, hp1⟩ := hp
  unfold R_SameFields at h
  refine SQ (RG (AS rfl rfl (NL (TN (SQ (SQ (RG (MV rfl rfl (ST (Ex.lenSlS Tryz.underlying31 hp0 rfl) rfl (MV rfl rfl (ST (Ex.lenSlS Tryz.underlying31 hp1 rfl) rfl (ST (Ex.neqC rfl rfl) rfl (NL (TN ?_))))))))))))))
  refine WC.condB rfl (fun hk1 => ?_) (fun hk1 => ?_)
  ·
   replace hk1 : ¬ ((p0.length : Int) = (p1.length : Int)) := of_not_decide hk1
   rw [if_neg hk1] at h
   refine SQ (RG (AS rfl rfl (NL (TN (RT ?_)))))
   obtain rfl := Option.some.inj h
   exact WQ.ret1 rfl rfl H.ext rfl
  ·
   replace hk1 : (p0.length : Int) = (p1.length : Int) := of_not_decide' hk1
   rw [if_pos hk1] at h
   refine SK (TN (SQ (SQ (RG (AS rfl rfl (NL (TN ?_)))))))
   obtain ⟨o2, e3, h⟩ := bnd h
   refine WC.cutX (fun e w => ∃  (M : Mem), e = [] ∧ St w0 M0 M [] w ∧ some (.inl ()) = some o2) [] ?_ ?_ (trivial)
   ·
    refine BL (WC.loopP (fun m e w => ∃ (n4 : Int) (M : Mem), e = [(0, vp0), (1, vp1), (5, I n4)] ∧ St w0 M0 M [] w ∧ SlS M 2 xenc50 vp0 p0 ∧ SlS M 2 xenc50 vp1 p1 ∧ R_SameFields_L1 p0 p1 m n4 = some o2) FU [(0, _), (1, _), (5, _)] ⟨rfl, rfl, rfl, trivial⟩ ⟨_, _, rfl, H, hp0, hp1, e3⟩ ?_)
    rintro m5 e w ⟨n4, M, rfl, H, hp0, hp1, e3⟩
    rcases m5 with _ | m5
    · rw [R_SameFields_L1] at e3; cases e3
    rw [R_SameFields_L1] at e3
    refine SQ (SQ (RG (MV rfl rfl (MV rfl rfl (ST (Ex.lenSlS Tryz.underlying31 hp0 rfl) rfl (ST (Ex.lss rfl rfl) rfl (NL (TN ?_))))))))
    refine WC.condB rfl (fun hk6 => ?_) (fun hk6 => ?_)
    ·
     replace hk6 : n4 < (p0.length : Int) := of_decide_eq_true hk6
     rw [if_pos hk6] at e3
     refine SK (TN (SQ (BL (SQ ?_))))
     obtain ⟨a7, hxa7, e3⟩ := bnd e3
     obtain ⟨b19, o19, ha19, hc19⟩ := hp0.atC hxa7
     obtain ⟨a8, hxa8, e3⟩ := bnd e3
     obtain ⟨b23, o23, ha23, hc23⟩ := hp1.atC hxa8
     refine WC.draw (m := 9) rfl rfl H ?_
     intro w H
     refine WA.take (i := 0) rfl (by kernel_rfl) (by kernel_rfl) (by kernel_rfl) (fun _ => Ex.move rfl) (Wn.none rfl) rfl rfl (fun _ _ => rfl) (WA.take (i := 1) rfl (by kernel_rfl) (by kernel_rfl) (by kernel_rfl) (fun _ => Ex.move rfl) (Wn.none rfl) rfl rfl (fun _ _ => rfl) (WA.take (i := 2) rfl (by kernel_rfl) (by kernel_rfl) (by kernel_rfl) (fun _ => Ex.idxAt ha19 Tryz.underlying31 Tryz.sizeOf50 rfl rfl) (Wn.none rfl) rfl rfl (fun _ _ => rfl) (WA.take (i := 4) rfl (by kernel_rfl) (by kernel_rfl) (by kernel_rfl) (fun _ => Ex.move rfl) (Wn.none rfl) rfl rfl (fun _ _ => rfl) (WA.take (i := 5) rfl (by kernel_rfl) (by kernel_rfl) (by kernel_rfl) (fun _ => Ex.move rfl) (Wn.none rfl) rfl rfl (fun _ _ => rfl) (WA.take (i := 6) rfl (by kernel_rfl) (by kernel_rfl) (by kernel_rfl) (fun _ => Ex.idxAt ha23 Tryz.underlying31 Tryz.sizeOf50 rfl rfl) (Wn.none rfl) rfl rfl (fun _ _ => rfl) (WA.takeM (i := 3) [7] rfl (by kernel_rfl) (by kernel_rfl) (by kernel_rfl) (Ex.loadAggM H rfl hc19 Tryz.isAgg50 Tryz.sizeOf50 (by rfl)) (Wn.none rfl) rfl rfl (fun _ _ => rfl) ?_))))))
     refine WA.seq (fuel := 0) [7, 8] rfl (by kernel_rfl) (ST (Ex.loadAggM H rfl hc23 Tryz.isAgg50 Tryz.sizeOf50 (by rfl)) rfl ?_)
     refine ST (Ex.neqAggC rfl rfl (by kernel_rfl) (xeq50 a7.1 a8.1 a7.2 a8.2)) rfl (NA (WA.done (by kernel_rfl) (TN ?_)))
     refine WC.condB rfl (fun hk9 => ?_) (fun hk9 => ?_)
     ·
      replace hk9 : ¬ (a7.1 = a8.1 ∧ a7.2 = a8.2) := of_not_decide hk9
      rw [if_neg hk9] at e3
      refine SQ (RG (AS rfl rfl (NL (TN (RT ?_)))))
      obtain rfl := Option.some.inj e3
      try dsimp only at h
      obtain rfl := Option.some.inj h
      exact WQ.ret1 rfl rfl H.ext rfl
     ·
      replace hk9 : a7.1 = a8.1 ∧ a7.2 = a8.2 := of_not_decide' hk9
      rw [if_pos hk9] at e3
      refine SK (IB (TN ?_))
      obtain ⟨n10, hxn10, e3⟩ := bnd e3
      refine RG (MV rfl rfl (ST (Ex.addC rfl rfl hxn10) rfl (AS rfl rfl (NL ?_))))
      exact WQ.againP m5 [(0, _), (1, _), (5, _)] ⟨rfl, rfl, rfl, trivial⟩ ⟨_, _, rfl, H, hp0, hp1, e3⟩ (Nat.lt_succ_self _)
    ·
     replace hk6 : ¬ (n4 < (p0.length : Int)) := of_decide_eq_false hk6
     rw [if_neg hk6] at e3
     refine WC.exit (WQ.thenExit (WQ.thenExit (WQ.exitHere ?_)))
     exact WQ.meetN [] trivial ⟨_, rfl, H, e3⟩
   ·
    rintro e w ⟨M, rfl, H, q11⟩
    obtain rfl := Option.some.inj q11
    try dsimp only at h
    refine TN (SQ (RG (AS rfl rfl (NL (TN (RT ?_))))))
    obtain rfl := Option.some.inj h
    exact WQ.ret1 rfl rfl H.ext rfl
theorem L_HeaderReadMatchesSpec_ct {p0 : List UInt8} {vp0 : Value} {r : Bool} (h : L_HeaderReadMatchesSpec p0 = some r) : Ct Tryz.prog 5 [vp0] (fun M => GlF (fun w => ∃ m, w.cell? ⟨2, 0, none⟩ = some (.int .i64 m)) M ∧ Sl M encB vp0 p0) (fun v M => v = Value.bool r) := by
  refine Ct.of Tryz.func5 (enters Tryz.func5 (by kernel_rfl) rfl) rfl rfl rfl ?_
  intro w0 M0 H hp
  obtain ⟨hg_maxl, hp0⟩ := hp
  unfold L_HeaderReadMatchesSpec at h
  refine SQ (RG (AS rfl rfl (NL (TN (SQ (SQ ?_))))))
  obtain ⟨b1, hx2, h⟩ := bnd h
  refine RG (WR.call H (L_headerExample_ct hx2) rfl (hg_maxl) (Wn.none rfl) rfl ?_)
  intro v9 M w H hle hR
  replace hg_maxl := hg_maxl.mono hle
  replace hp0 := hp0.mono hle
  obtain rfl := hR
  refine ST (Ex.not rfl) rfl (NL (TN ?_))
  refine WC.condB rfl (fun hk3 => ?_) (fun hk3 => ?_)
  ·
   replace hk3 : b1 = false := by simpa using hk3
   subst hk3
   rw [if_neg Bool.false_ne_true] at h
   refine SQ (RG (AS rfl rfl (NL (TN (RT ?_)))))
   obtain rfl := Option.some.inj h
   exact WQ.ret1 rfl rfl H.ext rfl
  ·
   replace hk3 : b1 = true := by simpa using hk3
   subst hk3
   rw [if_pos rfl] at h
   refine SK (TN (SQ ?_))
   obtain ⟨⟨l4, n5, ⟨n6, n7⟩⟩, hx8, h⟩ := bnd h
   try dsimp only at h
   refine RG (MV rfl rfl (WR.call H (header_Read_ct hx8) rfl ⟨hg_maxl, hp0⟩ (Wn.none rfl) rfl ?_))
   intro v13 M w H hle hR
   replace hg_maxl := hg_maxl.mono hle
   replace hp0 := hp0.mono hle
   try dsimp only at hR
   obtain ⟨x13_0, rfl, f13_0⟩ := hR
   refine MV rfl rfl (ST (Ex.extract rfl rfl) rfl (ST (Ex.extract rfl rfl) rfl (ST (Ex.extract rfl rfl) rfl (WR.alloc [_, _] H Tryz.zeroValue24 rfl (Wn.none rfl) rfl ?_))))
   intro b5 w H
   refine AS rfl rfl (AS rfl rfl (WR.store [_, _] H rfl rfl rfl (by repeat first | exact .head | apply Upd.tail) Tryz.sizeOf24 rfl (by rfl) (by rfl) (Wn.none rfl) ?_))
   intro w H
   refine NL (TN (SQ ?_))
   obtain ⟨⟨l9, n10, ⟨n11, n12⟩⟩, hx13, h⟩ := bnd h
   try dsimp only at h
   refine RG (MV rfl rfl (WR.call H (R_ReadHeader_ct hx13) rfl (hp0) (Wn.none rfl) rfl ?_))
   intro v19 M w H hle hR
   replace hg_maxl := hg_maxl.mono hle
   replace hp0 := hp0.mono hle
   replace f13_0 := f13_0.mono hle
   try dsimp only at hR
   obtain ⟨x19_0, rfl, f19_0⟩ := hR
   refine MV rfl rfl (ST (Ex.extract rfl rfl) rfl (ST (Ex.extract rfl rfl) rfl (ST (Ex.extract rfl rfl) rfl (WR.alloc [_, _] H Tryz.zeroValue24 rfl (Wn.none rfl) rfl ?_))))
   intro b8 w H
   refine AS rfl rfl (AS rfl rfl (WR.store [_, _] H rfl rfl rfl (by repeat first | exact .head | apply Upd.tail) Tryz.sizeOf24 rfl (by rfl) (by rfl) (Wn.none rfl) ?_))
   intro w H
   refine NL (TN (SQ (SQ (RG (ST (Ex.fieldAddr Tryz.underlying24 rfl Tryz.sizeOf3 (by decide) rfl) rfl (ST (Ex.load1 H rfl (by repeat (first | exact List.Mem.head _ | apply List.Mem.tail)) Tryz.isAgg3 (by rfl)) rfl ?_))))))
   refine ST (Ex.neqC rfl rfl) rfl (NL (TN ?_))
   refine WC.condB rfl (fun hk14 => ?_) (fun hk14 => ?_)
   ·
    replace hk14 : ¬ (n11 = (0 : Int)) := of_not_decide hk14
    rw [if_neg hk14] at h
    refine SQ ?_
    obtain ⟨o15, e16, h⟩ := bnd h
    refine WC.cutX (fun e w => ∃ (b17 : Bool) (M : Mem), e = [(2, Value.bool b17)] ∧ St w0 M0 M [] w ∧ GlF (fun w => ∃ m, w.cell? ⟨2, 0, none⟩ = some (.int .i64 m)) M ∧ some b17 = some o15) [] ?_ ?_ (trivial)
    ·
     refine RG (ST (Ex.loadAgg H rfl (by repeat (first | exact List.Mem.head _ | apply List.Mem.tail)) Tryz.isAgg24 Tryz.sizeOf24 (by rfl)) rfl ?_)
     refine ST (Ex.loadAgg H rfl (by repeat (first | exact List.Mem.head _ | apply List.Mem.tail)) Tryz.isAgg24 Tryz.sizeOf24 (by rfl)) rfl ?_
     by_cases hk18 : n6 = n11 ∧ n7 = n12
     ·
      rw [if_pos hk18] at e16
      by_cases hk19 : (l4.length : Int) = (0 : Int)
      ·
       rw [if_pos hk19] at e16
       refine WR.stepE (v' := .bool true) (Ex.eqlAgg rfl rfl (by kernel_rfl) (xeq24 n6 n11 n7 n12)) (congrArg Value.bool (decide_eq_true hk18)) (Wn.none rfl) rfl rfl (MV rfl rfl (SG (Ex.move rfl) rfl rfl rfl (SG (Ex.lenSlS Tryz.underlying31 f13_0 rfl) rfl rfl rfl (WR.stepE (v' := .bool true) (Ex.eql rfl rfl) (congrArg Value.bool (decide_eq_true hk19)) (Wn.some rfl rfl rfl) rfl rfl (PT rfl rfl rfl (MV rfl rfl (SG (Ex.move rfl) rfl rfl rfl (SG (Ex.eql rfl rfl) rfl rfl rfl (PT rfl rfl rfl (AS rfl rfl (NL ?_)))))))))))
       exact WQ.meetN [(2, _)] ⟨rfl, trivial⟩ ⟨_, _, rfl, (H.pick (L' := []) (by repeat (first | exact Pick.nil | refine Pick.cons (by repeat first | exact .head | apply Rem.tail) ?_))), hg_maxl, e16⟩
      ·
       rw [if_neg hk19] at e16
       refine WR.stepE (v' := .bool true) (Ex.eqlAgg rfl rfl (by kernel_rfl) (xeq24 n6 n11 n7 n12)) (congrArg Value.bool (decide_eq_true hk18)) (Wn.none rfl) rfl rfl (MV rfl rfl (SG (Ex.move rfl) rfl rfl rfl (SG (Ex.lenSlS Tryz.underlying31 f13_0 rfl) rfl rfl rfl (WR.stepE (v' := .bool false) (Ex.eql rfl rfl) (congrArg Value.bool (decide_eq_false hk19)) (Wn.some rfl rfl rfl) rfl rfl (PT rfl rfl rfl (MV rfl rfl (GF rfl rfl rfl (GF rfl rfl rfl (PF rfl rfl rfl (AS rfl rfl (NL ?_)))))))))))
       exact WQ.meetN [(2, _)] ⟨rfl, trivial⟩ ⟨_, _, rfl, (H.pick (L' := []) (by repeat (first | exact Pick.nil | refine Pick.cons (by repeat first | exact .head | apply Rem.tail) ?_))), hg_maxl, e16⟩
     ·
      rw [if_neg hk18] at e16
      refine WR.stepE (v' := .bool false) (Ex.eqlAgg rfl rfl (by kernel_rfl) (xeq24 n6 n11 n7 n12)) (congrArg Value.bool (decide_eq_false hk18)) (Wn.none rfl) rfl rfl (MV rfl rfl (WR.skipN 3 rfl rfl (PF rfl rfl rfl (MV rfl rfl (GF rfl rfl rfl (GF rfl rfl rfl (PF rfl rfl rfl (AS rfl rfl (NL ?_)))))))))
      exact WQ.meetN [(2, _)] ⟨rfl, trivial⟩ ⟨_, _, rfl, (H.pick (L' := []) (by repeat (first | exact Pick.nil | refine Pick.cons (by repeat first | exact .head | apply Rem.tail) ?_))), hg_maxl, e16⟩
    ·
     rintro e w ⟨b17, M, rfl, H, hg_maxl, q20⟩
     obtain rfl := Option.some.inj q20
     refine TN (RT ?_)
     obtain rfl := Option.some.inj h
     exact WQ.ret1 rfl rfl H.ext rfl
   ·
    replace hk14 : n11 = (0 : Int) := of_not_decide' hk14
    rw [if_pos hk14] at h
    refine SK (TN (SQ ?_))
    obtain ⟨o21, e22, h⟩ := bnd h
    refine WC.cutX (fun e w => ∃ (b23 : Bool) (M : Mem), e = [(2, Value.bool b23)] ∧ St w0 M0 M [] w ∧ GlF (fun w => ∃ m, w.cell? ⟨2, 0, none⟩ = some (.int .i64 m)) M ∧ some b23 = some o21) [] ?_ ?_ (trivial)
    ·
     refine RG (ST (Ex.fieldAddr Tryz.underlying24 rfl Tryz.sizeOf3 (by decide) rfl) rfl (ST (Ex.load1 H rfl (by repeat (first | exact List.Mem.head _ | apply List.Mem.tail)) Tryz.isAgg3 (by rfl)) rfl ?_))
     by_cases hk24 : n6 = (0 : Int)
     ·
      rw [if_pos hk24] at e22
      by_cases hk25 : n5 = n10
      ·
       rw [if_pos hk25] at e22
       obtain ⟨b26, hx27, e22⟩ := bnd e22
       refine WR.stepE (v' := .bool true) (Ex.eql rfl rfl) (congrArg Value.bool (decide_eq_true hk24)) (Wn.none rfl) rfl rfl (MV rfl rfl (SG (Ex.move rfl) rfl rfl rfl (SG (Ex.move rfl) rfl rfl rfl (WR.stepE (v' := .bool true) (Ex.eql rfl rfl) (congrArg Value.bool (decide_eq_true hk25)) (Wn.some rfl rfl rfl) rfl rfl (PT rfl rfl rfl (MV rfl rfl (SG (Ex.move rfl) rfl rfl rfl (SG (Ex.move rfl) rfl rfl rfl (WR.call H (R_SameFields_ct hx27) rfl ⟨f13_0, f19_0⟩ (Wn.some rfl rfl rfl) rfl ?_)))))))))
       intro v49 M w H hle hR
       replace hg_maxl := hg_maxl.mono hle
       replace hp0 := hp0.mono hle
       replace f13_0 := f13_0.mono hle
       replace f19_0 := f19_0.mono hle
       obtain rfl := hR
       refine PT rfl rfl rfl (AS rfl rfl (NL ?_))
       exact WQ.meetN [(2, _)] ⟨rfl, trivial⟩ ⟨_, _, rfl, (H.pick (L' := []) (by repeat (first | exact Pick.nil | refine Pick.cons (by repeat first | exact .head | apply Rem.tail) ?_))), hg_maxl, e22⟩
      ·
       rw [if_neg hk25] at e22
       refine WR.stepE (v' := .bool true) (Ex.eql rfl rfl) (congrArg Value.bool (decide_eq_true hk24)) (Wn.none rfl) rfl rfl (MV rfl rfl (SG (Ex.move rfl) rfl rfl rfl (SG (Ex.move rfl) rfl rfl rfl (WR.stepE (v' := .bool false) (Ex.eql rfl rfl) (congrArg Value.bool (decide_eq_false hk25)) (Wn.some rfl rfl rfl) rfl rfl (PT rfl rfl rfl (MV rfl rfl (WR.skipN 3 rfl rfl (PF rfl rfl rfl (AS rfl rfl (NL ?_))))))))))
       exact WQ.meetN [(2, _)] ⟨rfl, trivial⟩ ⟨_, _, rfl, (H.pick (L' := []) (by repeat (first | exact Pick.nil | refine Pick.cons (by repeat first | exact .head | apply Rem.tail) ?_))), hg_maxl, e22⟩
     ·
      rw [if_neg hk24] at e22
      refine WR.stepE (v' := .bool false) (Ex.eql rfl rfl) (congrArg Value.bool (decide_eq_false hk24)) (Wn.none rfl) rfl rfl (MV rfl rfl (WR.skipN 3 rfl rfl (PF rfl rfl rfl (MV rfl rfl (WR.skipN 3 rfl rfl (PF rfl rfl rfl (AS rfl rfl (NL ?_))))))))
      exact WQ.meetN [(2, _)] ⟨rfl, trivial⟩ ⟨_, _, rfl, (H.pick (L' := []) (by repeat (first | exact Pick.nil | refine Pick.cons (by repeat first | exact .head | apply Rem.tail) ?_))), hg_maxl, e22⟩
    ·
     rintro e w ⟨b23, M, rfl, H, hg_maxl, q28⟩
     obtain rfl := Option.some.inj q28
     refine TN (RT ?_)
     obtain rfl := Option.some.inj h
     exact WQ.ret1 rfl rfl H.ext rfl
end Go.Proofs.YtogkmhjnojphiaaGreatDoor
end
section
set_option maxRecDepth 100000
set_option linter.unusedVariables false
set_option linter.unusedSimpArgs false
namespace Go.Proofs.YtogkmhjnojphiaaGreatDoor
open Go Go.RowKit Go.Ph Go.Ph.Pl Go.Ph.Pf
end Go.Proofs.YtogkmhjnojphiaaGreatDoor
end
section
set_option linter.unusedVariables false
set_option linter.unusedSimpArgs false
namespace Go.Ph
open Go Go.RowKit Go.ChangeShapes Go.WideShapes Go.ChangeAt
section
variable {H : Type} {enc : TypeId × Value → H} {P : Program} {W : World}
end
end Go.Ph
end
section
set_option linter.unusedVariables false
set_option linter.unusedSimpArgs false
namespace Go.Ph
open Go Go.RowKit Go.ChangeShapes Go.WideShapes Go.ChangeAt
section
variable {H : Type} {enc : TypeId × Value → H} {P : Program} {W : World}
end
end Go.Ph
end
