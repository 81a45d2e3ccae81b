/-
  Dates: contracts of the program's functions over their plain forms, written by wip/tools/ext.py.
-/
import Derived.Test.YtlopnlagpdchiaaGreatDoorBct3
import Derived.KernelRfl
set_option maxRecDepth 100000
set_option linter.unusedVariables false
set_option linter.unusedSimpArgs false
namespace Go.Proofs.YtlopnlagpdchiaaGreatDoor
open Go Go.RowKit Go.Ph Go.Ph.Pl Go.Ph.Pf
theorem R_In_ct {p0 : Int} {p1 : Int} {p2 : Int} {r : Bool} (h : R_In p0 p1 p2 = some r) : Ct Tryz.prog 15 [I p0, I p1, I p2] (fun M => True) (fun v M => v = Value.bool r) := by
  refine Ct.of Tryz.func15 (enters Tryz.func15 (by kernel_rfl) rfl) rfl rfl rfl ?_
  intro w0 M0 H hp
  unfold R_In at h
  refine WC.seq ?_
  refine WC.region ?_
  refine WR.step (Ex.assign rfl) (Wn.none rfl) rfl rfl ?_
  refine WR.nil ?_
  refine WQ.then ?_
  refine WC.seq ?_
  obtain ⟨o1, e2, h⟩ := bnd h
  refine WC.cutX (fun e w => ∃ (b3 : Bool) (M : Mem), e = [(6, Value.bool b3)] ∧ St w0 M0 M [] w ∧ some b3 = some o1) [] ?_ ?_ (trivial)
  ·
   refine WC.region ?_
   refine WR.step (Ex.move rfl) (Wn.none rfl) rfl rfl ?_
   refine WR.step (Ex.move rfl) (Wn.none rfl) rfl rfl ?_
   by_cases hk4 : p1 ≤ p0
   ·
    rw [if_pos hk4] at e2
    refine WR.stepE (v' := .bool true) (Ex.geq rfl rfl) (congrArg Value.bool (decide_eq_true hk4)) (Wn.none rfl) rfl rfl ?_
    refine WR.step (Ex.move rfl) (Wn.none rfl) rfl rfl ?_
    refine WR.step (Ex.move rfl) (Wn.some rfl rfl rfl) rfl rfl ?_
    refine WR.step (Ex.move rfl) (Wn.some rfl rfl rfl) rfl rfl ?_
    refine WR.step (Ex.leq rfl rfl) (Wn.some rfl rfl rfl) rfl rfl ?_
    refine WR.step (Ex.pickT rfl rfl) (Wn.none rfl) rfl rfl ?_
    refine WR.step (Ex.assign rfl) (Wn.none rfl) rfl rfl ?_
    refine WR.nil ?_
    exact WQ.meetN [(6, _)] ⟨rfl, trivial⟩ ⟨_, _, rfl, H, e2⟩
   ·
    rw [if_neg hk4] at e2
    refine WR.stepE (v' := .bool false) (Ex.geq rfl rfl) (congrArg Value.bool (decide_eq_false hk4)) (Wn.none rfl) rfl rfl ?_
    refine WR.step (Ex.move rfl) (Wn.none rfl) rfl rfl ?_
    refine WR.skipN 3 rfl rfl ?_
    refine WR.step (Ex.pickF rfl rfl) (Wn.none rfl) rfl rfl ?_
    refine WR.step (Ex.assign rfl) (Wn.none rfl) rfl rfl ?_
    refine WR.nil ?_
    exact WQ.meetN [(6, _)] ⟨rfl, trivial⟩ ⟨_, _, rfl, H, e2⟩
  ·
   rintro e w ⟨b3, M, rfl, H, q5⟩
   obtain rfl := Option.some.inj q5
   refine WQ.then ?_
   refine WC.ret ?_
   (repeat (first | refine WQ.thenRet ?_ | refine WQ.inBlockRet ?_ | refine WQ.cutRet ?_ | refine WQ.scRet ?_))
   obtain rfl := Option.some.inj h
   exact WQ.ret1 rfl rfl H.ext rfl
theorem R_At_ct {p0 : Int} {p1 : Int} {r : (Int × Int)} (h : R_At p0 p1 = some r) : Ct Tryz.prog 16 [I p0, I p1] (fun M => True) (fun v M => v = Value.agg #[I r.1, I r.2]) := by
  refine Ct.of Tryz.func16 (enters Tryz.func16 (by kernel_rfl) rfl) rfl rfl rfl ?_
  intro w0 M0 H hp
  unfold R_At at h
  refine WC.seq ?_
  refine WC.region ?_
  refine WR.alloc [_, _] H Tryz.zeroValue26 rfl (Wn.none rfl) rfl ?_
  intro b4 w H
  refine WR.nil ?_
  refine WQ.then ?_
  refine WC.seq ?_
  refine WC.region ?_
  refine WR.step (Ex.move rfl) (Wn.none rfl) rfl rfl ?_
  refine WR.step (Ex.move rfl) (Wn.none rfl) rfl rfl ?_
  refine WR.step (Ex.build [I p0, I p1] Tryz.underlying26 Tryz.zeroValue26 (xplaces26 Tryz.underlying26) rfl rfl) (Wn.none rfl) rfl rfl ?_
  refine WR.store [_, _] H rfl rfl rfl (by repeat (first | exact Upd.head | apply Upd.tail)) Tryz.sizeOf26 rfl (by rfl) (by rfl) (Wn.none rfl) ?_
  intro w H
  refine WR.nil ?_
  refine WQ.then ?_
  refine WC.ret ?_
  (repeat (first | refine WQ.thenRet ?_ | refine WQ.inBlockRet ?_ | refine WQ.cutRet ?_ | refine WQ.scRet ?_))
  obtain rfl := Option.some.inj h
  exact WQ.ret1 rfl ⟨_, rfl, H.loadAgg (by repeat (first | exact List.Mem.head _ | apply List.Mem.tail)) Tryz.isAgg26 Tryz.sizeOf26 (by rfl)⟩ H.ext rfl
theorem R_Leap_ct {p0 : Int} {r : Bool} (h : R_Leap p0 = some r) : Ct Tryz.prog 46 [I p0] (fun M => True) (fun v M => v = Value.bool r) := by
  refine Ct.of Tryz.func46 (enters Tryz.func46 (by kernel_rfl) rfl) rfl rfl rfl ?_
  intro w0 M0 H hp
  unfold R_Leap at h
  refine WC.seq ?_
  refine WC.region ?_
  refine WR.step (Ex.assign rfl) (Wn.none rfl) rfl rfl ?_
  refine WR.nil ?_
  refine WQ.then ?_
  refine WC.seq ?_
  obtain ⟨o1, e2, h⟩ := bnd h
  refine WC.cutX (fun e w => ∃ (b3 : Bool) (M : Mem), e = [(2, Value.bool b3)] ∧ St w0 M0 M [] w ∧ some b3 = some o1) [] ?_ ?_ (trivial)
  ·
   obtain ⟨n4, hxn4, e2⟩ := bnd e2
   refine WC.region ?_
   refine WR.step (Ex.move rfl) (Wn.none rfl) rfl rfl ?_
   refine WR.step (Ex.remC rfl rfl hxn4) (Wn.none rfl) rfl rfl ?_
   by_cases hk5 : n4 = (0 : Int)
   ·
    rw [if_pos hk5] at e2
    obtain ⟨n6, hxn6, e2⟩ := bnd e2
    by_cases hk7 : n6 = (0 : Int)
    ·
     rw [if_pos hk7] at e2
     obtain ⟨n8, hxn8, e2⟩ := bnd e2
     refine WR.stepE (v' := .bool true) (Ex.eql rfl rfl) (congrArg Value.bool (decide_eq_true hk5)) (Wn.none rfl) rfl rfl ?_
     refine WR.step (Ex.move rfl) (Wn.none rfl) rfl rfl ?_
     refine WR.step (Ex.move rfl) (Wn.some rfl rfl rfl) rfl rfl ?_
     refine WR.step (Ex.remC rfl rfl hxn6) (Wn.some rfl rfl rfl) rfl rfl ?_
     refine WR.stepE (v' := .bool false) (Ex.neqC rfl rfl) (congrArg Value.bool (by rw [decide_eq_true hk7]; rfl)) (Wn.some rfl rfl rfl) rfl rfl ?_
     refine WR.step (Ex.pickT rfl rfl) (Wn.none rfl) rfl rfl ?_
     refine WR.step (Ex.move rfl) (Wn.none rfl) rfl rfl ?_
     refine WR.step (Ex.move rfl) (Wn.some rfl rfl rfl) rfl rfl ?_
     refine WR.step (Ex.remC rfl rfl hxn8) (Wn.some rfl rfl rfl) rfl rfl ?_
     refine WR.step (Ex.eql rfl rfl) (Wn.some rfl rfl rfl) rfl rfl ?_
     refine WR.step (Ex.pickF rfl rfl) (Wn.none rfl) rfl rfl ?_
     refine WR.step (Ex.assign rfl) (Wn.none rfl) rfl rfl ?_
     refine WR.nil ?_
     exact WQ.meetN [(2, _)] ⟨rfl, trivial⟩ ⟨_, _, rfl, H, e2⟩
    ·
     rw [if_neg hk7] at e2
     refine WR.stepE (v' := .bool true) (Ex.eql rfl rfl) (congrArg Value.bool (decide_eq_true hk5)) (Wn.none rfl) rfl rfl ?_
     refine WR.step (Ex.move rfl) (Wn.none rfl) rfl rfl ?_
     refine WR.step (Ex.move rfl) (Wn.some rfl rfl rfl) rfl rfl ?_
     refine WR.step (Ex.remC rfl rfl hxn6) (Wn.some rfl rfl rfl) rfl rfl ?_
     refine WR.stepE (v' := .bool true) (Ex.neqC rfl rfl) (congrArg Value.bool (by rw [decide_eq_false hk7]; rfl)) (Wn.some rfl rfl rfl) rfl rfl ?_
     refine WR.step (Ex.pickT rfl rfl) (Wn.none rfl) rfl rfl ?_
     refine WR.step (Ex.move rfl) (Wn.none rfl) rfl rfl ?_
     refine WR.skipN 3 rfl rfl ?_
     refine WR.step (Ex.pickT rfl rfl) (Wn.none rfl) rfl rfl ?_
     refine WR.step (Ex.assign rfl) (Wn.none rfl) rfl rfl ?_
     refine WR.nil ?_
     exact WQ.meetN [(2, _)] ⟨rfl, trivial⟩ ⟨_, _, rfl, H, e2⟩
   ·
    rw [if_neg hk5] at e2
    obtain ⟨n9, hxn9, e2⟩ := bnd e2
    refine WR.stepE (v' := .bool false) (Ex.eql rfl rfl) (congrArg Value.bool (decide_eq_false hk5)) (Wn.none rfl) rfl rfl ?_
    refine WR.step (Ex.move rfl) (Wn.none rfl) rfl rfl ?_
    refine WR.skipN 3 rfl rfl ?_
    refine WR.step (Ex.pickF rfl rfl) (Wn.none rfl) rfl rfl ?_
    refine WR.step (Ex.move rfl) (Wn.none rfl) rfl rfl ?_
    refine WR.step (Ex.move rfl) (Wn.some rfl rfl rfl) rfl rfl ?_
    refine WR.step (Ex.remC rfl rfl hxn9) (Wn.some rfl rfl rfl) rfl rfl ?_
    refine WR.step (Ex.eql rfl rfl) (Wn.some rfl rfl rfl) rfl rfl ?_
    refine WR.step (Ex.pickF rfl rfl) (Wn.none rfl) rfl rfl ?_
    refine WR.step (Ex.assign rfl) (Wn.none rfl) rfl rfl ?_
    refine WR.nil ?_
    exact WQ.meetN [(2, _)] ⟨rfl, trivial⟩ ⟨_, _, rfl, H, e2⟩
  ·
   rintro e w ⟨b3, M, rfl, H, q10⟩
   obtain rfl := Option.some.inj q10
   refine WQ.then ?_
   refine WC.ret ?_
   (repeat (first | refine WQ.thenRet ?_ | refine WQ.inBlockRet ?_ | refine WQ.cutRet ?_ | refine WQ.scRet ?_))
   obtain rfl := Option.some.inj h
   exact WQ.ret1 rfl rfl H.ext rfl
theorem R_YearStart_ct {p0 : Int} {r : Int} (h : R_YearStart p0 = some r) : Ct Tryz.prog 32 [I p0] (fun M => True) (fun v M => v = I r) := by
  refine Ct.of Tryz.func32 (enters Tryz.func32 (by kernel_rfl) rfl) rfl rfl rfl ?_
  intro w0 M0 H hp
  unfold R_YearStart at h
  refine WC.seq ?_
  refine WC.region ?_
  refine WR.step (Ex.assign rfl) (Wn.none rfl) rfl rfl ?_
  refine WR.nil ?_
  refine WQ.then ?_
  refine WC.seq ?_
  obtain ⟨n1, hxn1, h⟩ := bnd h
  obtain ⟨n2, hxn2, h⟩ := bnd h
  refine WC.region ?_
  refine WR.step (Ex.move rfl) (Wn.none rfl) rfl rfl ?_
  refine WR.step (Ex.subC rfl rfl hxn1) (Wn.none rfl) rfl rfl ?_
  refine WR.step (Ex.mulC rfl rfl hxn2) (Wn.none rfl) rfl rfl ?_
  refine WR.step (Ex.assign rfl) (Wn.none rfl) rfl rfl ?_
  refine WR.nil ?_
  refine WQ.then ?_
  refine WC.seq ?_
  refine WC.seq ?_
  refine WC.region ?_
  refine WR.step (Ex.assign rfl) (Wn.none rfl) rfl rfl ?_
  refine WR.nil ?_
  refine WQ.then ?_
  obtain ⟨o3, e4, h⟩ := bnd h
  refine WC.cutX (fun e w => ∃ (n5 : Int) (M : Mem), e = [(0, I p0), (3, I n5)] ∧ St w0 M0 M [] w ∧ some n5 = some o3) [] ?_ ?_ (trivial)
  ·
   refine WC.block ?_
   refine WC.loopP (fun m e w => ∃ (n6 : Int) (n7 : Int) (M : Mem), e = [(0, I p0), (3, I n6), (4, I n7)] ∧ St w0 M0 M [] w ∧ R_YearStart_L1 p0 m n6 n7 = some o3) FU [(0, _), (3, _), (4, _)] ⟨rfl, rfl, rfl, trivial⟩ ⟨_, _, _, rfl, H, e4⟩ ?_
   rintro m8 e w ⟨n6, n7, M, rfl, H, e4⟩
   rcases m8 with _ | m8
   · rw [R_YearStart_L1] at e4; cases e4
   rw [R_YearStart_L1] at e4
   refine WC.seq ?_
   refine WC.seq ?_
   refine WC.region ?_
   refine WR.step (Ex.move rfl) (Wn.none rfl) rfl rfl ?_
   refine WR.step (Ex.move rfl) (Wn.none rfl) rfl rfl ?_
   refine WR.step (Ex.lss rfl rfl) (Wn.none rfl) rfl rfl ?_
   refine WR.nil ?_
   refine WQ.then ?_
   refine WC.condB rfl (fun hk9 => ?_) (fun hk9 => ?_)
   ·
    replace hk9 : n7 < p0 := of_decide_eq_true hk9
    rw [if_pos hk9] at e4
    refine WC.skip ?_
    refine WQ.then ?_
    refine WC.seq ?_
    refine WC.block ?_
    refine WC.seq ?_
    obtain ⟨b10, hx11, e4⟩ := bnd e4
    refine WC.region ?_
    refine WR.step (Ex.move rfl) (Wn.none rfl) rfl rfl ?_
    refine WR.call H (R_Leap_ct hx11) rfl trivial (Wn.none rfl) rfl ?_
    intro v15 M w H hle hR
    obtain rfl := hR
    refine WR.nil ?_
    refine WQ.then ?_
    refine WC.condB rfl (fun hk12 => ?_) (fun hk12 => ?_)
    ·
     subst hk12
     rw [if_pos rfl] at e4
     obtain ⟨n13, hxn13, e4⟩ := bnd e4
     refine WC.region ?_
     refine WR.step (Ex.move rfl) (Wn.none rfl) rfl rfl ?_
     refine WR.step (Ex.addC rfl rfl hxn13) (Wn.none rfl) rfl rfl ?_
     refine WR.step (Ex.assign rfl) (Wn.none rfl) rfl rfl ?_
     refine WR.nil ?_
     refine WQ.inBlock ?_
     refine WQ.then ?_
     obtain ⟨n14, hxn14, e4⟩ := bnd e4
     refine WC.region ?_
     refine WR.step (Ex.move rfl) (Wn.none rfl) rfl rfl ?_
     refine WR.step (Ex.addC rfl rfl hxn14) (Wn.none rfl) rfl rfl ?_
     refine WR.step (Ex.assign rfl) (Wn.none rfl) rfl rfl ?_
     refine WR.nil ?_
     exact WQ.againP m8 [(0, _), (3, _), (4, _)] ⟨rfl, rfl, rfl, trivial⟩ ⟨_, _, _, rfl, H, e4⟩ (Nat.lt_succ_self _)
    ·
     subst hk12
     rw [if_neg Bool.false_ne_true] at e4
     refine WC.skip ?_
     refine WQ.inBlock ?_
     refine WQ.then ?_
     obtain ⟨n15, hxn15, e4⟩ := bnd e4
     refine WC.region ?_
     refine WR.step (Ex.move rfl) (Wn.none rfl) rfl rfl ?_
     refine WR.step (Ex.addC rfl rfl hxn15) (Wn.none rfl) rfl rfl ?_
     refine WR.step (Ex.assign rfl) (Wn.none rfl) rfl rfl ?_
     refine WR.nil ?_
     exact WQ.againP m8 [(0, _), (3, _), (4, _)] ⟨rfl, rfl, rfl, trivial⟩ ⟨_, _, _, rfl, H, e4⟩ (Nat.lt_succ_self _)
   ·
    replace hk9 : ¬ (n7 < p0) := of_decide_eq_false hk9
    rw [if_neg hk9] at e4
    refine WC.exit ?_
    refine WQ.thenExit ?_
    refine WQ.thenExit ?_
    refine WQ.exitHere ?_
    exact WQ.meetN [(0, _), (3, _)] ⟨rfl, rfl, trivial⟩ ⟨_, _, rfl, H, e4⟩
  ·
   rintro e w ⟨n5, M, rfl, H, q16⟩
   obtain rfl := Option.some.inj q16
   refine WQ.then ?_
   refine WC.seq ?_
   refine WC.seq ?_
   refine WC.region ?_
   refine WR.step (Ex.move rfl) (Wn.none rfl) rfl rfl ?_
   refine WR.step (Ex.assign rfl) (Wn.none rfl) rfl rfl ?_
   refine WR.nil ?_
   refine WQ.then ?_
   obtain ⟨o17, e18, h⟩ := bnd h
   refine WC.cutX (fun e w => ∃ (n19 : Int) (M : Mem), e = [(3, I n19)] ∧ St w0 M0 M [] w ∧ some n19 = some o17) [] ?_ ?_ (trivial)
   ·
    refine WC.block ?_
    refine WC.loopP (fun m e w => ∃ (n20 : Int) (n21 : Int) (M : Mem), e = [(3, I n20), (5, I n21)] ∧ St w0 M0 M [] w ∧ R_YearStart_L2  m n20 n21 = some o17) FU [(3, _), (5, _)] ⟨rfl, rfl, trivial⟩ ⟨_, _, _, rfl, H, e18⟩ ?_
    rintro m22 e w ⟨n20, n21, M, rfl, H, e18⟩
    rcases m22 with _ | m22
    · rw [R_YearStart_L2] at e18; cases e18
    rw [R_YearStart_L2] at e18
    refine WC.seq ?_
    refine WC.seq ?_
    refine WC.region ?_
    refine WR.step (Ex.move rfl) (Wn.none rfl) rfl rfl ?_
    refine WR.step (Ex.lss rfl rfl) (Wn.none rfl) rfl rfl ?_
    refine WR.nil ?_
    refine WQ.then ?_
    refine WC.condB rfl (fun hk23 => ?_) (fun hk23 => ?_)
    ·
     replace hk23 : n21 < (1970 : Int) := of_decide_eq_true hk23
     rw [if_pos hk23] at e18
     refine WC.skip ?_
     refine WQ.then ?_
     refine WC.seq ?_
     refine WC.block ?_
     refine WC.seq ?_
     obtain ⟨b24, hx25, e18⟩ := bnd e18
     refine WC.region ?_
     refine WR.step (Ex.move rfl) (Wn.none rfl) rfl rfl ?_
     refine WR.call H (R_Leap_ct hx25) rfl trivial (Wn.none rfl) rfl ?_
     intro v24 M w H hle hR
     obtain rfl := hR
     refine WR.nil ?_
     refine WQ.then ?_
     refine WC.condB rfl (fun hk26 => ?_) (fun hk26 => ?_)
     ·
      subst hk26
      rw [if_pos rfl] at e18
      obtain ⟨n27, hxn27, e18⟩ := bnd e18
      refine WC.region ?_
      refine WR.step (Ex.move rfl) (Wn.none rfl) rfl rfl ?_
      refine WR.step (Ex.subC rfl rfl hxn27) (Wn.none rfl) rfl rfl ?_
      refine WR.step (Ex.assign rfl) (Wn.none rfl) rfl rfl ?_
      refine WR.nil ?_
      refine WQ.inBlock ?_
      refine WQ.then ?_
      obtain ⟨n28, hxn28, e18⟩ := bnd e18
      refine WC.region ?_
      refine WR.step (Ex.move rfl) (Wn.none rfl) rfl rfl ?_
      refine WR.step (Ex.addC rfl rfl hxn28) (Wn.none rfl) rfl rfl ?_
      refine WR.step (Ex.assign rfl) (Wn.none rfl) rfl rfl ?_
      refine WR.nil ?_
      exact WQ.againP m22 [(3, _), (5, _)] ⟨rfl, rfl, trivial⟩ ⟨_, _, _, rfl, H, e18⟩ (Nat.lt_succ_self _)
     ·
      subst hk26
      rw [if_neg Bool.false_ne_true] at e18
      refine WC.skip ?_
      refine WQ.inBlock ?_
      refine WQ.then ?_
      obtain ⟨n29, hxn29, e18⟩ := bnd e18
      refine WC.region ?_
      refine WR.step (Ex.move rfl) (Wn.none rfl) rfl rfl ?_
      refine WR.step (Ex.addC rfl rfl hxn29) (Wn.none rfl) rfl rfl ?_
      refine WR.step (Ex.assign rfl) (Wn.none rfl) rfl rfl ?_
      refine WR.nil ?_
      exact WQ.againP m22 [(3, _), (5, _)] ⟨rfl, rfl, trivial⟩ ⟨_, _, _, rfl, H, e18⟩ (Nat.lt_succ_self _)
    ·
     replace hk23 : ¬ (n21 < (1970 : Int)) := of_decide_eq_false hk23
     rw [if_neg hk23] at e18
     refine WC.exit ?_
     refine WQ.thenExit ?_
     refine WQ.thenExit ?_
     refine WQ.exitHere ?_
     exact WQ.meetN [(3, _)] ⟨rfl, trivial⟩ ⟨_, _, rfl, H, e18⟩
   ·
    rintro e w ⟨n19, M, rfl, H, q30⟩
    obtain rfl := Option.some.inj q30
    refine WQ.then ?_
    refine WC.seq ?_
    refine WC.region ?_
    refine WR.step (Ex.move rfl) (Wn.none rfl) rfl rfl ?_
    refine WR.step (Ex.assign rfl) (Wn.none rfl) rfl rfl ?_
    refine WR.nil ?_
    refine WQ.then ?_
    refine WC.ret ?_
    (repeat (first | refine WQ.thenRet ?_ | refine WQ.inBlockRet ?_ | refine WQ.cutRet ?_ | refine WQ.scRet ?_))
    obtain rfl := Option.some.inj h
    exact WQ.ret1 rfl rfl H.ext rfl
theorem R_MonthDays_ct {p0 : Int} {p1 : Int} {r : Int} (h : R_MonthDays p0 p1 = some r) : Ct Tryz.prog 26 [I p0, I p1] (fun M => True) (fun v M => v = I r) := by
  refine Ct.of Tryz.func26 (enters Tryz.func26 (by kernel_rfl) rfl) rfl rfl rfl ?_
  intro w0 M0 H hp
  unfold R_MonthDays at h
  refine WC.seq ?_
  refine WC.region ?_
  refine WR.step (Ex.assign rfl) (Wn.none rfl) rfl rfl ?_
  refine WR.nil ?_
  refine WQ.then ?_
  refine WC.seq ?_
  refine WC.region ?_
  refine WR.lit (enc := encI) xty67 ([31, 28, 31, 30, 31, 30, 31, 31, 30, 31, 30, 31] : List Int) H rfl (by rfl) (fun _ => rfl) rfl rfl (Wn.none rfl) rfl ?_
  intro v6 M w H hle hs6
  refine WR.step (Ex.assign rfl) (Wn.none rfl) rfl rfl ?_
  refine WR.nil ?_
  refine WQ.then ?_
  refine WC.seq ?_
  refine WC.seq ?_
  obtain ⟨o1, e2, h⟩ := bnd h
  refine WC.cutX (fun e w => ∃ (b3 : Bool) (M : Mem), e = [(1, I p1), (5, v6), (12, Value.bool b3)] ∧ St w0 M0 M [] w ∧ Sl M encI v6 ([31, 28, 31, 30, 31, 30, 31, 31, 30, 31, 30, 31] : List Int) ∧ some b3 = some o1) [] ?_ ?_ (trivial)
  ·
   by_cases hk4 : p1 = (2 : Int)
   ·
    rw [if_pos hk4] at e2
    obtain ⟨b5, hx6, e2⟩ := bnd e2
    refine WC.region ?_
    refine WR.step (Ex.move rfl) (Wn.none rfl) rfl rfl ?_
    refine WR.stepE (v' := .bool true) (Ex.eql rfl rfl) (congrArg Value.bool (decide_eq_true hk4)) (Wn.none rfl) rfl rfl ?_
    refine WR.step (Ex.move rfl) (Wn.none rfl) rfl rfl ?_
    refine WR.step (Ex.move rfl) (Wn.some rfl rfl rfl) rfl rfl ?_
    refine WR.call H (R_Leap_ct hx6) rfl trivial (Wn.some rfl rfl rfl) rfl ?_
    intro v11 M w H hle hR
    replace hs6 := hs6.mono hle
    obtain rfl := hR
    refine WR.step (Ex.pickT rfl rfl) (Wn.none rfl) rfl rfl ?_
    refine WR.nil ?_
    exact WQ.meetN [(1, _), (5, _), (12, _)] ⟨rfl, rfl, rfl, trivial⟩ ⟨_, _, rfl, H, hs6, e2⟩
   ·
    rw [if_neg hk4] at e2
    refine WC.region ?_
    refine WR.step (Ex.move rfl) (Wn.none rfl) rfl rfl ?_
    refine WR.stepE (v' := .bool false) (Ex.eql rfl rfl) (congrArg Value.bool (decide_eq_false hk4)) (Wn.none rfl) rfl rfl ?_
    refine WR.step (Ex.move rfl) (Wn.none rfl) rfl rfl ?_
    refine WR.skipG (b := false) rfl rfl rfl rfl rfl ?_
    refine WR.skipG (b := false) rfl rfl rfl rfl rfl ?_
    refine WR.step (Ex.pickF rfl rfl) (Wn.none rfl) rfl rfl ?_
    refine WR.nil ?_
    exact WQ.meetN [(1, _), (5, _), (12, _)] ⟨rfl, rfl, rfl, trivial⟩ ⟨_, _, rfl, H, hs6, e2⟩
  ·
   rintro e w ⟨b3, M, rfl, H, hs6, q7⟩
   obtain rfl := Option.some.inj q7
   refine WQ.then ?_
   refine WC.condB rfl (fun hk8 => ?_) (fun hk8 => ?_)
   ·
    subst hk8
    rw [if_pos rfl] at h
    refine WC.seq ?_
    refine WC.region ?_
    refine WR.step (Ex.assign rfl) (Wn.none rfl) rfl rfl ?_
    refine WR.nil ?_
    refine WQ.then ?_
    refine WC.ret ?_
    (repeat (first | refine WQ.thenRet ?_ | refine WQ.inBlockRet ?_ | refine WQ.cutRet ?_ | refine WQ.scRet ?_))
    obtain rfl := Option.some.inj h
    exact WQ.ret1 rfl rfl H.ext rfl
   ·
    subst hk8
    rw [if_neg Bool.false_ne_true] at h
    refine WC.skip ?_
    refine WQ.then ?_
    refine WC.seq ?_
    obtain ⟨n9, hxn9, h⟩ := bnd h
    obtain ⟨a10, hxa10, h⟩ := bnd h
    refine WC.region ?_
    refine WR.step (Ex.move rfl) (Wn.none rfl) rfl rfl ?_
    refine WR.step (Ex.move rfl) (Wn.none rfl) rfl rfl ?_
    refine WR.step (Ex.subC rfl rfl hxn9) (Wn.none rfl) rfl rfl ?_
    refine WR.idxC Tryz.underlying67 Tryz.sizeOf3 (hs6) rfl rfl hxa10 (Wn.none rfl) rfl ?_
    intro p16 hc16
    refine WR.step (Ex.loadM H rfl hc16 Tryz.isAgg3) (Wn.none rfl) rfl rfl ?_
    refine WR.step (Ex.assign rfl) (Wn.none rfl) rfl rfl ?_
    refine WR.nil ?_
    refine WQ.then ?_
    refine WC.ret ?_
    (repeat (first | refine WQ.thenRet ?_ | refine WQ.inBlockRet ?_ | refine WQ.cutRet ?_ | refine WQ.scRet ?_))
    obtain rfl := Option.some.inj h
    exact WQ.ret1 rfl rfl H.ext rfl
theorem R_DayNumber_ct {p0 : Int} {p1 : Int} {p2 : Int} {r : Int} (h : R_DayNumber p0 p1 p2 = some r) : Ct Tryz.prog 30 [I p0, I p1, I p2] (fun M => True) (fun v M => v = I r) := by
  refine Ct.of Tryz.func30 (enters Tryz.func30 (by kernel_rfl) rfl) rfl rfl rfl ?_
  intro w0 M0 H hp
  unfold R_DayNumber at h
  refine WC.seq ?_
  refine WC.region ?_
  refine WR.step (Ex.assign rfl) (Wn.none rfl) rfl rfl ?_
  refine WR.nil ?_
  refine WQ.then ?_
  refine WC.seq ?_
  obtain ⟨n1, hx2, h⟩ := bnd h
  obtain ⟨n3, hxn3, h⟩ := bnd h
  obtain ⟨n4, hxn4, h⟩ := bnd h
  refine WC.region ?_
  refine WR.step (Ex.move rfl) (Wn.none rfl) rfl rfl ?_
  refine WR.call H (R_YearStart_ct hx2) rfl trivial (Wn.none rfl) rfl ?_
  intro v10 M w H hle hR
  obtain rfl := hR
  refine WR.step (Ex.move rfl) (Wn.none rfl) rfl rfl ?_
  refine WR.step (Ex.addC rfl rfl hxn3) (Wn.none rfl) rfl rfl ?_
  refine WR.step (Ex.subC rfl rfl hxn4) (Wn.none rfl) rfl rfl ?_
  refine WR.step (Ex.assign rfl) (Wn.none rfl) rfl rfl ?_
  refine WR.nil ?_
  refine WQ.then ?_
  refine WC.seq ?_
  refine WC.seq ?_
  refine WC.region ?_
  refine WR.step (Ex.assign rfl) (Wn.none rfl) rfl rfl ?_
  refine WR.nil ?_
  refine WQ.then ?_
  obtain ⟨o5, e6, h⟩ := bnd h
  refine WC.cutX (fun e w => ∃ (n7 : Int) (M : Mem), e = [(7, I n7)] ∧ St w0 M0 M [] w ∧ some n7 = some o5) [] ?_ ?_ (trivial)
  ·
   refine WC.block ?_
   refine WC.loopP (fun m e w => ∃ (n8 : Int) (n9 : Int) (M : Mem), e = [(0, I p0), (1, I p1), (7, I n8), (8, I n9)] ∧ St w0 M0 M [] w ∧ R_DayNumber_L1 p0 p1 m n8 n9 = some o5) FU [(0, _), (1, _), (7, _), (8, _)] ⟨rfl, rfl, rfl, rfl, trivial⟩ ⟨_, _, _, rfl, H, e6⟩ ?_
   rintro m10 e w ⟨n8, n9, M, rfl, H, e6⟩
   rcases m10 with _ | m10
   · rw [R_DayNumber_L1] at e6; cases e6
   rw [R_DayNumber_L1] at e6
   refine WC.seq ?_
   refine WC.seq ?_
   refine WC.region ?_
   refine WR.step (Ex.move rfl) (Wn.none rfl) rfl rfl ?_
   refine WR.step (Ex.move rfl) (Wn.none rfl) rfl rfl ?_
   refine WR.step (Ex.lss rfl rfl) (Wn.none rfl) rfl rfl ?_
   refine WR.nil ?_
   refine WQ.then ?_
   refine WC.condB rfl (fun hk11 => ?_) (fun hk11 => ?_)
   ·
    replace hk11 : n9 < p1 := of_decide_eq_true hk11
    rw [if_pos hk11] at e6
    refine WC.skip ?_
    refine WQ.then ?_
    refine WC.seq ?_
    refine WC.block ?_
    obtain ⟨n12, hx13, e6⟩ := bnd e6
    obtain ⟨n14, hxn14, e6⟩ := bnd e6
    refine WC.region ?_
    refine WR.step (Ex.move rfl) (Wn.none rfl) rfl rfl ?_
    refine WR.step (Ex.move rfl) (Wn.none rfl) rfl rfl ?_
    refine WR.step (Ex.move rfl) (Wn.none rfl) rfl rfl ?_
    refine WR.call H (R_MonthDays_ct hx13) rfl trivial (Wn.none rfl) rfl ?_
    intro v22 M w H hle hR
    obtain rfl := hR
    refine WR.step (Ex.addC rfl rfl hxn14) (Wn.none rfl) rfl rfl ?_
    refine WR.step (Ex.assign rfl) (Wn.none rfl) rfl rfl ?_
    refine WR.nil ?_
    refine WQ.inBlock ?_
    refine WQ.then ?_
    obtain ⟨n15, hxn15, e6⟩ := bnd e6
    refine WC.region ?_
    refine WR.step (Ex.move rfl) (Wn.none rfl) rfl rfl ?_
    refine WR.step (Ex.addC rfl rfl hxn15) (Wn.none rfl) rfl rfl ?_
    refine WR.step (Ex.assign rfl) (Wn.none rfl) rfl rfl ?_
    refine WR.nil ?_
    exact WQ.againP m10 [(0, _), (1, _), (7, _), (8, _)] ⟨rfl, rfl, rfl, rfl, trivial⟩ ⟨_, _, _, rfl, H, e6⟩ (Nat.lt_succ_self _)
   ·
    replace hk11 : ¬ (n9 < p1) := of_decide_eq_false hk11
    rw [if_neg hk11] at e6
    refine WC.exit ?_
    refine WQ.thenExit ?_
    refine WQ.thenExit ?_
    refine WQ.exitHere ?_
    exact WQ.meetN [(7, _)] ⟨rfl, trivial⟩ ⟨_, _, rfl, H, e6⟩
  ·
   rintro e w ⟨n7, M, rfl, H, q16⟩
   obtain rfl := Option.some.inj q16
   refine WQ.then ?_
   refine WC.seq ?_
   refine WC.region ?_
   refine WR.step (Ex.move rfl) (Wn.none rfl) rfl rfl ?_
   refine WR.step (Ex.assign rfl) (Wn.none rfl) rfl rfl ?_
   refine WR.nil ?_
   refine WQ.then ?_
   refine WC.ret ?_
   (repeat (first | refine WQ.thenRet ?_ | refine WQ.inBlockRet ?_ | refine WQ.cutRet ?_ | refine WQ.scRet ?_))
   obtain rfl := Option.some.inj h
   exact WQ.ret1 rfl rfl H.ext rfl
theorem R_DateOf_ct {p0 : Int} {p1 : Int} {r : ((Int × Int × Int × Int × Int × Int × Int) × Bool)} (h : R_DateOf p0 p1 = some r) : Ct Tryz.prog 17 [I p0, I p1] (fun M => True) (fun v M => v = Value.tuple #[Value.agg #[I r.1.1, I r.1.2.1, I r.1.2.2.1, I r.1.2.2.2.1, I r.1.2.2.2.2.1, I r.1.2.2.2.2.2.1, I r.1.2.2.2.2.2.2], Value.bool r.2]) := by
  refine Ct.of Tryz.func17 (enters Tryz.func17 (by kernel_rfl) rfl) rfl rfl rfl ?_
  intro w0 M0 H hp
  unfold R_DateOf at h
  refine WC.seq ?_
  refine WC.region ?_
  refine WR.alloc [_, _, _, _, _, _, _] H Tryz.zeroValue23 rfl (Wn.none rfl) rfl ?_
  intro b4 w H
  refine WR.step (Ex.assign rfl) (Wn.none rfl) rfl rfl ?_
  refine WR.nil ?_
  refine WQ.then ?_
  refine WC.seq ?_
  obtain ⟨n1, hxn1, h⟩ := bnd h
  obtain ⟨n2, hxn2, h⟩ := bnd h
  refine WC.region ?_
  refine WR.step (Ex.move rfl) (Wn.none rfl) rfl rfl ?_
  refine WR.step (Ex.move rfl) (Wn.none rfl) rfl rfl ?_
  refine WR.step (Ex.mulC rfl rfl hxn1) (Wn.none rfl) rfl rfl ?_
  refine WR.step (Ex.addC rfl rfl hxn2) (Wn.none rfl) rfl rfl ?_
  refine WR.step (Ex.assign rfl) (Wn.none rfl) rfl rfl ?_
  refine WR.nil ?_
  refine WQ.then ?_
  refine WC.seq ?_
  obtain ⟨n3, hxn3, h⟩ := bnd h
  refine WC.region ?_
  refine WR.step (Ex.move rfl) (Wn.none rfl) rfl rfl ?_
  refine WR.step (Ex.remC rfl rfl hxn3) (Wn.none rfl) rfl rfl ?_
  refine WR.step (Ex.assign rfl) (Wn.none rfl) rfl rfl ?_
  refine WR.nil ?_
  refine WQ.then ?_
  refine WC.seq ?_
  refine WC.seq ?_
  refine WC.region ?_
  refine WR.step (Ex.move rfl) (Wn.none rfl) rfl rfl ?_
  refine WR.step (Ex.lss rfl rfl) (Wn.none rfl) rfl rfl ?_
  refine WR.nil ?_
  refine WQ.then ?_
  obtain ⟨o4, e5, h⟩ := bnd h
  refine WC.cutX (fun e w => ∃ (n6 : Int) (M : Mem), e = [(1, I p1), (4, ptr b4 0), (6, I n2), (7, I n6)] ∧ St w0 M0 M [.blk b4 (.cells #[I 0, I 0, I 0, I 0, I 0, I 0, I 0] 23)] w ∧ some n6 = some o4) [] ?_ ?_ (trivial)
  ·
   refine WC.condB rfl (fun hk7 => ?_) (fun hk7 => ?_)
   ·
    replace hk7 : n3 < (0 : Int) := of_decide_eq_true hk7
    rw [if_pos hk7] at e5
    obtain ⟨n8, hxn8, e5⟩ := bnd e5
    refine WC.region ?_
    refine WR.step (Ex.move rfl) (Wn.none rfl) rfl rfl ?_
    refine WR.step (Ex.addC rfl rfl hxn8) (Wn.none rfl) rfl rfl ?_
    refine WR.step (Ex.assign rfl) (Wn.none rfl) rfl rfl ?_
    refine WR.nil ?_
    exact WQ.meetN [(1, _), (4, _), (6, _), (7, _)] ⟨rfl, rfl, rfl, rfl, trivial⟩ ⟨_, _, rfl, H, e5⟩
   ·
    replace hk7 : ¬ (n3 < (0 : Int)) := of_decide_eq_false hk7
    rw [if_neg hk7] at e5
    refine WC.skip ?_
    exact WQ.meetN [(1, _), (4, _), (6, _), (7, _)] ⟨rfl, rfl, rfl, rfl, trivial⟩ ⟨_, _, rfl, H, e5⟩
  ·
   rintro e w ⟨n6, M, rfl, H, q9⟩
   obtain rfl := Option.some.inj q9
   refine WQ.then ?_
   refine WC.seq ?_
   obtain ⟨n10, hxn10, h⟩ := bnd h
   obtain ⟨n11, hxn11, h⟩ := bnd h
   refine WC.region ?_
   refine WR.step (Ex.move rfl) (Wn.none rfl) rfl rfl ?_
   refine WR.step (Ex.move rfl) (Wn.none rfl) rfl rfl ?_
   refine WR.step (Ex.subC rfl rfl hxn10) (Wn.none rfl) rfl rfl ?_
   refine WR.step (Ex.quoC rfl rfl hxn11) (Wn.none rfl) rfl rfl ?_
   refine WR.step (Ex.assign rfl) (Wn.none rfl) rfl rfl ?_
   refine WR.nil ?_
   refine WQ.then ?_
   refine WC.seq ?_
   refine WC.seq ?_
   obtain ⟨o12, e13, h⟩ := bnd h
   refine WC.cutX (fun e w => ∃ (b14 : Bool) (M : Mem), e = [(1, I p1), (4, ptr b4 0), (7, I n6), (8, I n11), (32, Value.bool b14)] ∧ St w0 M0 M [.blk b4 (.cells #[I 0, I 0, I 0, I 0, I 0, I 0, I 0] 23)] w ∧ some b14 = some o12) [] ?_ ?_ (trivial)
   ·
    obtain ⟨n15, hx16, e13⟩ := bnd e13
    refine WC.region ?_
    refine WR.step (Ex.move rfl) (Wn.none rfl) rfl rfl ?_
    refine WR.call H (R_DayNumber_ct hx16) rfl trivial (Wn.none rfl) rfl ?_
    intro v26 M w H hle hR
    obtain rfl := hR
    by_cases hk17 : n11 < n15
    ·
     rw [if_pos hk17] at e13
     refine WR.stepE (v' := .bool true) (Ex.lss rfl rfl) (congrArg Value.bool (decide_eq_true hk17)) (Wn.none rfl) rfl rfl ?_
     refine WR.step (Ex.move rfl) (Wn.none rfl) rfl rfl ?_
     refine WR.skipN 3 rfl rfl ?_
     refine WR.step (Ex.pickT rfl rfl) (Wn.none rfl) rfl rfl ?_
     refine WR.nil ?_
     exact WQ.meetN [(1, _), (4, _), (7, _), (8, _), (32, _)] ⟨rfl, rfl, rfl, rfl, rfl, trivial⟩ ⟨_, _, rfl, H, e13⟩
    ·
     rw [if_neg hk17] at e13
     obtain ⟨n18, hx19, e13⟩ := bnd e13
     refine WR.stepE (v' := .bool false) (Ex.lss rfl rfl) (congrArg Value.bool (decide_eq_false hk17)) (Wn.none rfl) rfl rfl ?_
     refine WR.step (Ex.move rfl) (Wn.none rfl) rfl rfl ?_
     refine WR.step (Ex.move rfl) (Wn.some rfl rfl rfl) rfl rfl ?_
     refine WR.call H (R_DayNumber_ct hx19) rfl trivial (Wn.some rfl rfl rfl) rfl ?_
     intro v30 M w H hle hR
     obtain rfl := hR
     refine WR.step (Ex.gtr rfl rfl) (Wn.some rfl rfl rfl) rfl rfl ?_
     refine WR.step (Ex.pickF rfl rfl) (Wn.none rfl) rfl rfl ?_
     refine WR.nil ?_
     exact WQ.meetN [(1, _), (4, _), (7, _), (8, _), (32, _)] ⟨rfl, rfl, rfl, rfl, rfl, trivial⟩ ⟨_, _, rfl, H, e13⟩
   ·
    rintro e w ⟨b14, M, rfl, H, q20⟩
    obtain rfl := Option.some.inj q20
    refine WQ.then ?_
    refine WC.condB rfl (fun hk21 => ?_) (fun hk21 => ?_)
    ·
     subst hk21
     rw [if_pos rfl] at h
     refine WC.seq ?_
     refine WC.region ?_
     refine WR.step (Ex.build [I 0, I 0, I 0, I 0, I 0, I 0, I 0] Tryz.underlying23 Tryz.zeroValue23 (xplaces23 Tryz.underlying23) rfl (by kernel_rfl)) (Wn.none rfl) rfl rfl ?_
     refine WR.store [_, _, _, _, _, _, _] H rfl rfl rfl (by repeat (first | exact Upd.head | apply Upd.tail)) Tryz.sizeOf23 rfl (by rfl) (by rfl) (Wn.none rfl) ?_
     intro w H
     refine WR.step (Ex.assign rfl) (Wn.none rfl) rfl rfl ?_
     refine WR.nil ?_
     refine WQ.then ?_
     refine WC.ret ?_
     (repeat (first | refine WQ.thenRet ?_ | refine WQ.inBlockRet ?_ | refine WQ.cutRet ?_ | refine WQ.scRet ?_))
     obtain rfl := Option.some.inj h
     exact WQ.ret2 rfl ⟨_, rfl, H.loadAgg (by repeat (first | exact List.Mem.head _ | apply List.Mem.tail)) Tryz.isAgg23 Tryz.sizeOf23 (by rfl)⟩ rfl H.ext rfl
    ·
     subst hk21
     rw [if_neg Bool.false_ne_true] at h
     refine WC.skip ?_
     refine WQ.then ?_
     refine WC.seq ?_
     obtain ⟨n22, hxn22, h⟩ := bnd h
     obtain ⟨n23, hxn23, h⟩ := bnd h
     refine WC.region ?_
     refine WR.step (Ex.move rfl) (Wn.none rfl) rfl rfl ?_
     refine WR.step (Ex.quoC rfl rfl hxn22) (Wn.none rfl) rfl rfl ?_
     refine WR.step (Ex.addC rfl rfl hxn23) (Wn.none rfl) rfl rfl ?_
     refine WR.step (Ex.assign rfl) (Wn.none rfl) rfl rfl ?_
     refine WR.nil ?_
     refine WQ.then ?_
     refine WC.seq ?_
     refine WC.seq ?_
     refine WC.region ?_
     refine WR.step (Ex.move rfl) (Wn.none rfl) rfl rfl ?_
     refine WR.step (Ex.lss rfl rfl) (Wn.none rfl) rfl rfl ?_
     refine WR.nil ?_
     refine WQ.then ?_
     obtain ⟨o24, e25, h⟩ := bnd h
     refine WC.cutX (fun e w => ∃ (n26 : Int) (M : Mem), e = [(1, I p1), (4, ptr b4 0), (7, I n6), (8, I n11), (9, I n26)] ∧ St w0 M0 M [.blk b4 (.cells #[I 0, I 0, I 0, I 0, I 0, I 0, I 0] 23)] w ∧ some n26 = some o24) [] ?_ ?_ (trivial)
     ·
      refine WC.condB rfl (fun hk27 => ?_) (fun hk27 => ?_)
      ·
       replace hk27 : n11 < (0 : Int) := of_decide_eq_true hk27
       rw [if_pos hk27] at e25
       obtain ⟨n28, hxn28, e25⟩ := bnd e25
       obtain ⟨n29, hxn29, e25⟩ := bnd e25
       obtain ⟨n30, hxn30, e25⟩ := bnd e25
       refine WC.region ?_
       refine WR.step (Ex.move rfl) (Wn.none rfl) rfl rfl ?_
       refine WR.step (Ex.quoC rfl rfl hxn28) (Wn.none rfl) rfl rfl ?_
       refine WR.step (Ex.addC rfl rfl hxn29) (Wn.none rfl) rfl rfl ?_
       refine WR.step (Ex.subC rfl rfl hxn30) (Wn.none rfl) rfl rfl ?_
       refine WR.step (Ex.assign rfl) (Wn.none rfl) rfl rfl ?_
       refine WR.nil ?_
       exact WQ.meetN [(1, _), (4, _), (7, _), (8, _), (9, _)] ⟨rfl, rfl, rfl, rfl, rfl, trivial⟩ ⟨_, _, rfl, H, e25⟩
      ·
       replace hk27 : ¬ (n11 < (0 : Int)) := of_decide_eq_false hk27
       rw [if_neg hk27] at e25
       refine WC.skip ?_
       exact WQ.meetN [(1, _), (4, _), (7, _), (8, _), (9, _)] ⟨rfl, rfl, rfl, rfl, rfl, trivial⟩ ⟨_, _, rfl, H, e25⟩
     ·
      rintro e w ⟨n26, M, rfl, H, q31⟩
      obtain rfl := Option.some.inj q31
      refine WQ.then ?_
      refine WC.seq ?_
      refine WC.seq ?_
      refine WC.region ?_
      refine WR.step (Ex.move rfl) (Wn.none rfl) rfl rfl ?_
      refine WR.step (Ex.lss rfl rfl) (Wn.none rfl) rfl rfl ?_
      refine WR.nil ?_
      refine WQ.then ?_
      obtain ⟨o32, e33, h⟩ := bnd h
      refine WC.cutX (fun e w => ∃ (n34 : Int) (M : Mem), e = [(1, I p1), (4, ptr b4 0), (7, I n6), (8, I n11), (9, I n34)] ∧ St w0 M0 M [.blk b4 (.cells #[I 0, I 0, I 0, I 0, I 0, I 0, I 0] 23)] w ∧ some n34 = some o32) [] ?_ ?_ (trivial)
      ·
       refine WC.condB rfl (fun hk35 => ?_) (fun hk35 => ?_)
       ·
        replace hk35 : n26 < (1 : Int) := of_decide_eq_true hk35
        rw [if_pos hk35] at e33
        refine WC.region ?_
        refine WR.step (Ex.assign rfl) (Wn.none rfl) rfl rfl ?_
        refine WR.nil ?_
        exact WQ.meetN [(1, _), (4, _), (7, _), (8, _), (9, _)] ⟨rfl, rfl, rfl, rfl, rfl, trivial⟩ ⟨_, _, rfl, H, e33⟩
       ·
        replace hk35 : ¬ (n26 < (1 : Int)) := of_decide_eq_false hk35
        rw [if_neg hk35] at e33
        refine WC.skip ?_
        exact WQ.meetN [(1, _), (4, _), (7, _), (8, _), (9, _)] ⟨rfl, rfl, rfl, rfl, rfl, trivial⟩ ⟨_, _, rfl, H, e33⟩
      ·
       rintro e w ⟨n34, M, rfl, H, q36⟩
       obtain rfl := Option.some.inj q36
       refine WQ.then ?_
       refine WC.seq ?_
       obtain ⟨o37, e38, h⟩ := bnd h
       refine WC.cutX (fun e w => ∃ (n39 : Int) (M : Mem), e = [(1, I p1), (4, ptr b4 0), (7, I n6), (8, I n11), (9, I n39)] ∧ St w0 M0 M [.blk b4 (.cells #[I 0, I 0, I 0, I 0, I 0, I 0, I 0] 23)] w ∧ some n39 = some o37) [] ?_ ?_ (trivial)
       ·
        refine WC.block ?_
        refine WC.loopP (fun m e w => ∃ (n40 : Int) (M : Mem), e = [(1, I p1), (4, ptr b4 0), (7, I n6), (8, I n11), (9, I n40)] ∧ St w0 M0 M [.blk b4 (.cells #[I 0, I 0, I 0, I 0, I 0, I 0, I 0] 23)] w ∧ R_DateOf_L1 n11 m n40 = some o37) FU [(1, _), (4, _), (7, _), (8, _), (9, _)] ⟨rfl, rfl, rfl, rfl, rfl, trivial⟩ ⟨_, _, rfl, H, e38⟩ ?_
        rintro m41 e w ⟨n40, M, rfl, H, e38⟩
        rcases m41 with _ | m41
        · rw [R_DateOf_L1] at e38; cases e38
        rw [R_DateOf_L1] at e38
        refine WC.seq ?_
        refine WC.seq ?_
        obtain ⟨n42, hxn42, e38⟩ := bnd e38
        obtain ⟨n43, hx44, e38⟩ := bnd e38
        refine WC.region ?_
        refine WR.step (Ex.move rfl) (Wn.none rfl) rfl rfl ?_
        refine WR.step (Ex.addC rfl rfl hxn42) (Wn.none rfl) rfl rfl ?_
        refine WR.call H (R_YearStart_ct hx44) rfl trivial (Wn.none rfl) rfl ?_
        intro v47 M w H hle hR
        obtain rfl := hR
        refine WR.step (Ex.move rfl) (Wn.none rfl) rfl rfl ?_
        refine WR.step (Ex.leq rfl rfl) (Wn.none rfl) rfl rfl ?_
        refine WR.nil ?_
        refine WQ.then ?_
        refine WC.condB rfl (fun hk45 => ?_) (fun hk45 => ?_)
        ·
         replace hk45 : n43 ≤ n11 := of_decide_eq_true hk45
         rw [if_pos hk45] at e38
         refine WC.skip ?_
         refine WQ.then ?_
         refine WC.block ?_
         obtain ⟨n46, hxn46, e38⟩ := bnd e38
         refine WC.region ?_
         refine WR.step (Ex.move rfl) (Wn.none rfl) rfl rfl ?_
         refine WR.step (Ex.addC rfl rfl hxn46) (Wn.none rfl) rfl rfl ?_
         refine WR.step (Ex.assign rfl) (Wn.none rfl) rfl rfl ?_
         refine WR.nil ?_
         refine WQ.inBlock ?_
         exact WQ.againP m41 [(1, _), (4, _), (7, _), (8, _), (9, _)] ⟨rfl, rfl, rfl, rfl, rfl, trivial⟩ ⟨_, _, rfl, H, e38⟩ (Nat.lt_succ_self _)
        ·
         replace hk45 : ¬ (n43 ≤ n11) := of_decide_eq_false hk45
         rw [if_neg hk45] at e38
         refine WC.exit ?_
         refine WQ.thenExit ?_
         refine WQ.thenExit ?_
         refine WQ.exitHere ?_
         exact WQ.meetN [(1, _), (4, _), (7, _), (8, _), (9, _)] ⟨rfl, rfl, rfl, rfl, rfl, trivial⟩ ⟨_, _, rfl, H, e38⟩
       ·
        rintro e w ⟨n39, M, rfl, H, q47⟩
        obtain rfl := Option.some.inj q47
        refine WQ.then ?_
        refine WC.seq ?_
        obtain ⟨n48, hx49, h⟩ := bnd h
        obtain ⟨n50, hxn50, h⟩ := bnd h
        refine WC.region ?_
        refine WR.step (Ex.move rfl) (Wn.none rfl) rfl rfl ?_
        refine WR.step (Ex.move rfl) (Wn.none rfl) rfl rfl ?_
        refine WR.call H (R_YearStart_ct hx49) rfl trivial (Wn.none rfl) rfl ?_
        intro v54 M w H hle hR
        obtain rfl := hR
        refine WR.step (Ex.subC rfl rfl hxn50) (Wn.none rfl) rfl rfl ?_
        refine WR.step (Ex.assign rfl) (Wn.none rfl) rfl rfl ?_
        refine WR.nil ?_
        refine WQ.then ?_
        refine WC.seq ?_
        refine WC.region ?_
        refine WR.step (Ex.assign rfl) (Wn.none rfl) rfl rfl ?_
        refine WR.nil ?_
        refine WQ.then ?_
        refine WC.seq ?_
        obtain ⟨o51, e52, h⟩ := bnd h
        refine WC.cutX (fun e w => ∃ (n53 : Int) (n54 : Int) (M : Mem), e = [(1, I p1), (4, ptr b4 0), (7, I n6), (8, I n53), (9, I n39), (10, I n54)] ∧ St w0 M0 M [.blk b4 (.cells #[I 0, I 0, I 0, I 0, I 0, I 0, I 0] 23)] w ∧ some (n53, n54) = some o51) [] ?_ ?_ (trivial)
        ·
         refine WC.block ?_
         refine WC.loopP (fun m e w => ∃ (n55 : Int) (n56 : Int) (M : Mem), e = [(1, I p1), (4, ptr b4 0), (7, I n6), (8, I n55), (9, I n39), (10, I n56)] ∧ St w0 M0 M [.blk b4 (.cells #[I 0, I 0, I 0, I 0, I 0, I 0, I 0] 23)] w ∧ R_DateOf_L2 n39 m n55 n56 = some o51) FU [(1, _), (4, _), (7, _), (8, _), (9, _), (10, _)] ⟨rfl, rfl, rfl, rfl, rfl, rfl, trivial⟩ ⟨_, _, _, rfl, H, e52⟩ ?_
         rintro m57 e w ⟨n55, n56, M, rfl, H, e52⟩
         rcases m57 with _ | m57
         · rw [R_DateOf_L2] at e52; cases e52
         rw [R_DateOf_L2] at e52
         refine WC.seq ?_
         refine WC.seq ?_
         obtain ⟨n58, hx59, e52⟩ := bnd e52
         refine WC.region ?_
         refine WR.step (Ex.move rfl) (Wn.none rfl) rfl rfl ?_
         refine WR.step (Ex.move rfl) (Wn.none rfl) rfl rfl ?_
         refine WR.step (Ex.move rfl) (Wn.none rfl) rfl rfl ?_
         refine WR.call H (R_MonthDays_ct hx59) rfl trivial (Wn.none rfl) rfl ?_
         intro v59 M w H hle hR
         obtain rfl := hR
         refine WR.step (Ex.geq rfl rfl) (Wn.none rfl) rfl rfl ?_
         refine WR.nil ?_
         refine WQ.then ?_
         refine WC.condB rfl (fun hk60 => ?_) (fun hk60 => ?_)
         ·
          replace hk60 : n58 ≤ n55 := of_decide_eq_true hk60
          rw [if_pos hk60] at e52
          refine WC.skip ?_
          refine WQ.then ?_
          refine WC.block ?_
          refine WC.seq ?_
          obtain ⟨n61, hx62, e52⟩ := bnd e52
          obtain ⟨n63, hxn63, e52⟩ := bnd e52
          refine WC.region ?_
          refine WR.step (Ex.move rfl) (Wn.none rfl) rfl rfl ?_
          refine WR.step (Ex.move rfl) (Wn.none rfl) rfl rfl ?_
          refine WR.step (Ex.move rfl) (Wn.none rfl) rfl rfl ?_
          refine WR.call H (R_MonthDays_ct hx62) rfl trivial (Wn.none rfl) rfl ?_
          intro v64 M w H hle hR
          obtain rfl := hR
          refine WR.step (Ex.subC rfl rfl hxn63) (Wn.none rfl) rfl rfl ?_
          refine WR.step (Ex.assign rfl) (Wn.none rfl) rfl rfl ?_
          refine WR.nil ?_
          refine WQ.then ?_
          obtain ⟨n64, hxn64, e52⟩ := bnd e52
          refine WC.region ?_
          refine WR.step (Ex.move rfl) (Wn.none rfl) rfl rfl ?_
          refine WR.step (Ex.addC rfl rfl hxn64) (Wn.none rfl) rfl rfl ?_
          refine WR.step (Ex.assign rfl) (Wn.none rfl) rfl rfl ?_
          refine WR.nil ?_
          refine WQ.inBlock ?_
          exact WQ.againP m57 [(1, _), (4, _), (7, _), (8, _), (9, _), (10, _)] ⟨rfl, rfl, rfl, rfl, rfl, rfl, trivial⟩ ⟨_, _, _, rfl, H, e52⟩ (Nat.lt_succ_self _)
         ·
          replace hk60 : ¬ (n58 ≤ n55) := of_decide_eq_false hk60
          rw [if_neg hk60] at e52
          refine WC.exit ?_
          refine WQ.thenExit ?_
          refine WQ.thenExit ?_
          refine WQ.exitHere ?_
          exact WQ.meetN [(1, _), (4, _), (7, _), (8, _), (9, _), (10, _)] ⟨rfl, rfl, rfl, rfl, rfl, rfl, trivial⟩ ⟨_, _, _, rfl, H, e52⟩
        ·
         rintro e w ⟨n53, n54, M, rfl, H, q65⟩
         obtain rfl := Option.some.inj q65
         try dsimp only at h
         refine WQ.then ?_
         refine WC.seq ?_
         obtain ⟨n66, hxn66, h⟩ := bnd h
         obtain ⟨n67, hxn67, h⟩ := bnd h
         obtain ⟨n68, hxn68, h⟩ := bnd h
         obtain ⟨n69, hxn69, h⟩ := bnd h
         obtain ⟨n70, hxn70, h⟩ := bnd h
         refine WC.region ?_
         refine WR.step (Ex.move rfl) (Wn.none rfl) rfl rfl ?_
         refine WR.step (Ex.move rfl) (Wn.none rfl) rfl rfl ?_
         refine WR.step (Ex.move rfl) (Wn.none rfl) rfl rfl ?_
         refine WR.step (Ex.addC rfl rfl hxn66) (Wn.none rfl) rfl rfl ?_
         refine WR.step (Ex.move rfl) (Wn.none rfl) rfl rfl ?_
         refine WR.step (Ex.quoC rfl rfl hxn67) (Wn.none rfl) rfl rfl ?_
         refine WR.step (Ex.move rfl) (Wn.none rfl) rfl rfl ?_
         refine WR.step (Ex.quoC rfl rfl hxn68) (Wn.none rfl) rfl rfl ?_
         refine WR.step (Ex.remC rfl rfl hxn69) (Wn.none rfl) rfl rfl ?_
         refine WR.step (Ex.move rfl) (Wn.none rfl) rfl rfl ?_
         refine WR.step (Ex.remC rfl rfl hxn70) (Wn.none rfl) rfl rfl ?_
         refine WR.step (Ex.move rfl) (Wn.none rfl) rfl rfl ?_
         refine WR.step (Ex.build [I n39, I n54, I n66, I n67, I n69, I n70, I p1] Tryz.underlying23 Tryz.zeroValue23 (xplaces23 Tryz.underlying23) rfl (by kernel_rfl)) (Wn.none rfl) rfl rfl ?_
         refine WR.store [_, _, _, _, _, _, _] H rfl rfl rfl (by repeat (first | exact Upd.head | apply Upd.tail)) Tryz.sizeOf23 rfl (by rfl) (by rfl) (Wn.none rfl) ?_
         intro w H
         refine WR.step (Ex.assign rfl) (Wn.none rfl) rfl rfl ?_
         refine WR.nil ?_
         refine WQ.then ?_
         refine WC.ret ?_
         (repeat (first | refine WQ.thenRet ?_ | refine WQ.inBlockRet ?_ | refine WQ.cutRet ?_ | refine WQ.scRet ?_))
         obtain rfl := Option.some.inj h
         exact WQ.ret2 rfl ⟨_, rfl, H.loadAgg (by repeat (first | exact List.Mem.head _ | apply List.Mem.tail)) Tryz.isAgg23 Tryz.sizeOf23 (by rfl)⟩ rfl H.ext rfl
theorem L_DatesCivilMatchesSpec_ct {p0 : Int} {p1 : Int} {r : Bool} (h : L_DatesCivilMatchesSpec p0 p1 = some r) : Ct Tryz.prog 4 [I p0, I p1] (fun M => GlF (fun w => ∃ tp p, w.var? Tryz.prog "strconv.ErrRange" = some #[.iface tp p]) M ∧ GlF (fun w => ∃ tp p, w.var? Tryz.prog "strconv.ErrSyntax" = some #[.iface tp p]) M ∧ GlF (fun w => ∃ m, w.cell? ⟨0, 0, none⟩ = some (.int .i64 m)) M ∧ GlF (fun w => Lib.TabIs Tryz.prog w "internal/strconv.uint64pow10" .u64 Lib.pow10Tab) M) (fun v M => v = Value.bool r) := by
  refine Ct.of Tryz.func4 (enters Tryz.func4 (by kernel_rfl) rfl) rfl rfl rfl ?_
  intro w0 M0 H hp
  obtain ⟨hg_errR, hg_errS, hg_maxl, hg_pow10⟩ := hp
  unfold L_DatesCivilMatchesSpec at h
  refine WC.seq ?_
  refine WC.region ?_
  refine WR.step (Ex.assign rfl) (Wn.none rfl) rfl rfl ?_
  refine WR.nil ?_
  refine WQ.then ?_
  refine WC.seq ?_
  refine WC.seq ?_
  obtain ⟨b1, hx2, h⟩ := bnd h
  refine WC.region ?_
  refine WR.call H (L_datesExample_ct hx2) rfl ⟨hg_errR, hg_errS, hg_maxl, hg_pow10⟩ (Wn.none rfl) rfl ?_
  intro v9 M w H hle hR
  replace hg_errR := hg_errR.mono hle
  replace hg_errS := hg_errS.mono hle
  replace hg_maxl := hg_maxl.mono hle
  replace hg_pow10 := hg_pow10.mono hle
  obtain rfl := hR
  refine WR.step (Ex.not rfl) (Wn.none rfl) rfl rfl ?_
  refine WR.nil ?_
  refine WQ.then ?_
  refine WC.condB rfl (fun hk3 => ?_) (fun hk3 => ?_)
  ·
   replace hk3 : b1 = false := by simpa using hk3
   subst hk3
   rw [if_neg Bool.false_ne_true] at h
   refine WC.seq ?_
   refine WC.region ?_
   refine WR.step (Ex.assign rfl) (Wn.none rfl) rfl rfl ?_
   refine WR.nil ?_
   refine WQ.then ?_
   refine WC.ret ?_
   (repeat (first | refine WQ.thenRet ?_ | refine WQ.inBlockRet ?_ | refine WQ.cutRet ?_ | refine WQ.scRet ?_))
   obtain rfl := Option.some.inj h
   exact WQ.ret1 rfl rfl H.ext rfl
  ·
   replace hk3 : b1 = true := by simpa using hk3
   subst hk3
   rw [if_pos rfl] at h
   refine WC.skip ?_
   refine WQ.then ?_
   refine WC.seq ?_
   obtain ⟨⟨⟨n4, n5, n6, n7, n8, n9, n10⟩, ⟨n11, n12⟩⟩, hx13, h⟩ := bnd h
   try dsimp only at h
   refine WC.region ?_
   refine WR.step (Ex.move rfl) (Wn.none rfl) rfl rfl ?_
   refine WR.step (Ex.move rfl) (Wn.none rfl) rfl rfl ?_
   refine WR.call H (dates_Civil_ct hx13) rfl trivial (Wn.none rfl) rfl ?_
   intro v14 M w H hle hR
   replace hg_errR := hg_errR.mono hle
   replace hg_errS := hg_errS.mono hle
   replace hg_maxl := hg_maxl.mono hle
   replace hg_pow10 := hg_pow10.mono hle
   try dsimp only at hR
   obtain rfl := hR
   refine WR.step (Ex.move rfl) (Wn.none rfl) rfl rfl ?_
   refine WR.step (Ex.extract rfl rfl) (Wn.none rfl) rfl rfl ?_
   refine WR.step (Ex.extract rfl rfl) (Wn.none rfl) rfl rfl ?_
   refine WR.alloc [_, _, _, _, _, _, _] H Tryz.zeroValue23 rfl (Wn.none rfl) rfl ?_
   intro b5 w H
   refine WR.alloc [_, _] H Tryz.zeroValue26 rfl (Wn.none rfl) rfl ?_
   intro b6 w H
   refine WR.store [_, _, _, _, _, _, _] H rfl rfl rfl (by repeat (first | exact Upd.head | apply Upd.tail)) Tryz.sizeOf23 rfl (by rfl) (by rfl) (Wn.none rfl) ?_
   intro w H
   refine WR.store [_, _] H rfl rfl rfl (by repeat (first | exact Upd.head | apply Upd.tail)) Tryz.sizeOf26 rfl (by rfl) (by rfl) (Wn.none rfl) ?_
   intro w H
   refine WR.nil ?_
   refine WQ.then ?_
   refine WC.seq ?_
   refine WC.seq ?_
   obtain ⟨b14, hx15, h⟩ := bnd h
   refine WC.region ?_
   refine WR.step (Ex.move rfl) (Wn.none rfl) rfl rfl ?_
   refine WR.call H (R_In_ct hx15) rfl trivial (Wn.none rfl) rfl ?_
   intro v18 M w H hle hR
   replace hg_errR := hg_errR.mono hle
   replace hg_errS := hg_errS.mono hle
   replace hg_maxl := hg_maxl.mono hle
   replace hg_pow10 := hg_pow10.mono hle
   obtain rfl := hR
   refine WR.step (Ex.not rfl) (Wn.none rfl) rfl rfl ?_
   refine WR.nil ?_
   refine WQ.then ?_
   refine WC.condB rfl (fun hk16 => ?_) (fun hk16 => ?_)
   ·
    replace hk16 : b14 = false := by simpa using hk16
    subst hk16
    rw [if_neg Bool.false_ne_true] at h
    refine WC.seq ?_
    obtain ⟨o17, e18, h⟩ := bnd h
    refine WC.cutX (fun e w => ∃ (b19 : Bool) (M : Mem), e = [(4, Value.bool b19)] ∧ St w0 M0 M [] w ∧ GlF (fun w => ∃ tp p, w.var? Tryz.prog "strconv.ErrRange" = some #[.iface tp p]) M ∧ GlF (fun w => ∃ tp p, w.var? Tryz.prog "strconv.ErrSyntax" = some #[.iface tp p]) M ∧ GlF (fun w => ∃ m, w.cell? ⟨0, 0, none⟩ = some (.int .i64 m)) M ∧ GlF (fun w => Lib.TabIs Tryz.prog w "internal/strconv.uint64pow10" .u64 Lib.pow10Tab) M ∧ some b19 = some o17) [] ?_ ?_ (trivial)
    ·
     obtain ⟨⟨n20, n21⟩, hx22, e18⟩ := bnd e18
     try dsimp only at e18
     refine WC.draw (m := 9) rfl rfl H ?_
     intro w H
     by_cases hk23 : n11 = n20 ∧ n12 = n21
     ·
      rw [if_pos hk23] at e18
      refine WA.two (i := 0) (j := 1) (by kernel_rfl) rfl rfl ?_ ?_
      ·
       refine WR.step (Ex.loadAgg H rfl (by repeat (first | exact List.Mem.head _ | apply List.Mem.tail)) Tryz.isAgg26 Tryz.sizeOf26 (by rfl)) (Wn.none rfl) rfl rfl ?_
       refine WR.nil (WQ.any ?_)
       refine WA.seq (fuel := 5) [1, 2, 3] rfl (by kernel_rfl) ?_
       refine WR.call H (R_At_ct hx22) rfl trivial (Wn.none rfl) rfl ?_
       intro v21 M w H hle hR
       replace hg_errR := hg_errR.mono hle
       replace hg_errS := hg_errS.mono hle
       replace hg_maxl := hg_maxl.mono hle
       replace hg_pow10 := hg_pow10.mono hle
       try dsimp only at hR
       obtain rfl := hR
       refine WR.stepE (v' := .bool true) (Ex.eqlAgg rfl rfl (by kernel_rfl) (xeq26 n11 n20 n12 n21)) (congrArg Value.bool (decide_eq_true hk23)) (Wn.none rfl) rfl rfl ?_
       refine WR.step (Ex.move rfl) (Wn.none rfl) rfl rfl ?_
       refine WR.nil (WQ.any ?_)
       refine WA.take (i := 5) rfl (by kernel_rfl) (by kernel_rfl) (by kernel_rfl) (fun _ => Ex.build [I 0, I 0, I 0, I 0, I 0, I 0, I 0] Tryz.underlying23 Tryz.zeroValue23 (xplaces23 Tryz.underlying23) rfl (by kernel_rfl)) (Wn.some rfl rfl rfl) rfl rfl (fun _ _ => rfl) ?_
       refine WA.seq (fuel := 0) [4, 6, 7, 8] rfl (by kernel_rfl) ?_
       refine WR.step (Ex.loadAgg H rfl (by repeat (first | exact List.Mem.head _ | apply List.Mem.tail)) Tryz.isAgg23 Tryz.sizeOf23 (by rfl)) (Wn.some rfl rfl rfl) rfl rfl ?_
       refine WR.step (Ex.eqlAgg rfl rfl (by kernel_rfl) (xeq23 n4 0 n5 0 n6 0 n7 0 n8 0 n9 0 n10 0)) (Wn.some rfl rfl rfl) rfl rfl ?_
       refine WR.step (Ex.pickT rfl rfl) (Wn.none rfl) rfl rfl ?_
       refine WR.step (Ex.assign rfl) (Wn.none rfl) rfl rfl ?_
       refine WR.nil (WQ.any ?_)
       refine WA.done (by kernel_rfl) ?_
       exact WQ.meetN [(4, _)] ⟨rfl, trivial⟩ ⟨_, _, rfl, (H.pick (L' := []) (by repeat (first | exact Pick.nil | refine Pick.cons (by repeat (first | exact Rem.head | apply Rem.tail)) ?_))), hg_errR, hg_errS, hg_maxl, hg_pow10, e18⟩
      ·
       refine WR.call H (R_At_ct hx22) rfl trivial (Wn.none rfl) rfl ?_
       intro v21 M w H hle hR
       replace hg_errR := hg_errR.mono hle
       replace hg_errS := hg_errS.mono hle
       replace hg_maxl := hg_maxl.mono hle
       replace hg_pow10 := hg_pow10.mono hle
       try dsimp only at hR
       obtain rfl := hR
       refine WR.nil (WQ.any ?_)
       refine WA.seq (fuel := 5) [0, 2, 3] rfl (by kernel_rfl) ?_
       refine WR.step (Ex.loadAgg H rfl (by repeat (first | exact List.Mem.head _ | apply List.Mem.tail)) Tryz.isAgg26 Tryz.sizeOf26 (by rfl)) (Wn.none rfl) rfl rfl ?_
       refine WR.stepE (v' := .bool true) (Ex.eqlAgg rfl rfl (by kernel_rfl) (xeq26 n11 n20 n12 n21)) (congrArg Value.bool (decide_eq_true hk23)) (Wn.none rfl) rfl rfl ?_
       refine WR.step (Ex.move rfl) (Wn.none rfl) rfl rfl ?_
       refine WR.nil (WQ.any ?_)
       refine WA.take (i := 5) rfl (by kernel_rfl) (by kernel_rfl) (by kernel_rfl) (fun _ => Ex.build [I 0, I 0, I 0, I 0, I 0, I 0, I 0] Tryz.underlying23 Tryz.zeroValue23 (xplaces23 Tryz.underlying23) rfl (by kernel_rfl)) (Wn.some rfl rfl rfl) rfl rfl (fun _ _ => rfl) ?_
       refine WA.seq (fuel := 0) [4, 6, 7, 8] rfl (by kernel_rfl) ?_
       refine WR.step (Ex.loadAgg H rfl (by repeat (first | exact List.Mem.head _ | apply List.Mem.tail)) Tryz.isAgg23 Tryz.sizeOf23 (by rfl)) (Wn.some rfl rfl rfl) rfl rfl ?_
       refine WR.step (Ex.eqlAgg rfl rfl (by kernel_rfl) (xeq23 n4 0 n5 0 n6 0 n7 0 n8 0 n9 0 n10 0)) (Wn.some rfl rfl rfl) rfl rfl ?_
       refine WR.step (Ex.pickT rfl rfl) (Wn.none rfl) rfl rfl ?_
       refine WR.step (Ex.assign rfl) (Wn.none rfl) rfl rfl ?_
       refine WR.nil (WQ.any ?_)
       refine WA.done (by kernel_rfl) ?_
       exact WQ.meetN [(4, _)] ⟨rfl, trivial⟩ ⟨_, _, rfl, (H.pick (L' := []) (by repeat (first | exact Pick.nil | refine Pick.cons (by repeat (first | exact Rem.head | apply Rem.tail)) ?_))), hg_errR, hg_errS, hg_maxl, hg_pow10, e18⟩
     ·
      rw [if_neg hk23] at e18
      refine WA.two (i := 0) (j := 1) (by kernel_rfl) rfl rfl ?_ ?_
      ·
       refine WR.step (Ex.loadAgg H rfl (by repeat (first | exact List.Mem.head _ | apply List.Mem.tail)) Tryz.isAgg26 Tryz.sizeOf26 (by rfl)) (Wn.none rfl) rfl rfl ?_
       refine WR.nil (WQ.any ?_)
       refine WA.seq (fuel := 5) [1, 2, 3] rfl (by kernel_rfl) ?_
       refine WR.call H (R_At_ct hx22) rfl trivial (Wn.none rfl) rfl ?_
       intro v21 M w H hle hR
       replace hg_errR := hg_errR.mono hle
       replace hg_errS := hg_errS.mono hle
       replace hg_maxl := hg_maxl.mono hle
       replace hg_pow10 := hg_pow10.mono hle
       try dsimp only at hR
       obtain rfl := hR
       refine WR.stepE (v' := .bool false) (Ex.eqlAgg rfl rfl (by kernel_rfl) (xeq26 n11 n20 n12 n21)) (congrArg Value.bool (decide_eq_false hk23)) (Wn.none rfl) rfl rfl ?_
       refine WR.step (Ex.move rfl) (Wn.none rfl) rfl rfl ?_
       refine WR.nil (WQ.any ?_)
       refine WA.takeN (i := 4) rfl (by kernel_rfl) (by kernel_rfl) (by kernel_rfl) (wanted_g (b := false) rfl rfl rfl) rfl rfl (fun _ _ => rfl) ?_
       refine WA.seq (fuel := 0) [5, 6, 7, 8] rfl (by kernel_rfl) ?_
       refine WR.skipG (b := false) rfl rfl rfl rfl rfl ?_
       refine WR.skipG (b := false) rfl rfl rfl rfl rfl ?_
       refine WR.step (Ex.pickF rfl rfl) (Wn.none rfl) rfl rfl ?_
       refine WR.step (Ex.assign rfl) (Wn.none rfl) rfl rfl ?_
       refine WR.nil (WQ.any ?_)
       refine WA.done (by kernel_rfl) ?_
       exact WQ.meetN [(4, _)] ⟨rfl, trivial⟩ ⟨_, _, rfl, (H.pick (L' := []) (by repeat (first | exact Pick.nil | refine Pick.cons (by repeat (first | exact Rem.head | apply Rem.tail)) ?_))), hg_errR, hg_errS, hg_maxl, hg_pow10, e18⟩
      ·
       refine WR.call H (R_At_ct hx22) rfl trivial (Wn.none rfl) rfl ?_
       intro v21 M w H hle hR
       replace hg_errR := hg_errR.mono hle
       replace hg_errS := hg_errS.mono hle
       replace hg_maxl := hg_maxl.mono hle
       replace hg_pow10 := hg_pow10.mono hle
       try dsimp only at hR
       obtain rfl := hR
       refine WR.nil (WQ.any ?_)
       refine WA.seq (fuel := 5) [0, 2, 3] rfl (by kernel_rfl) ?_
       refine WR.step (Ex.loadAgg H rfl (by repeat (first | exact List.Mem.head _ | apply List.Mem.tail)) Tryz.isAgg26 Tryz.sizeOf26 (by rfl)) (Wn.none rfl) rfl rfl ?_
       refine WR.stepE (v' := .bool false) (Ex.eqlAgg rfl rfl (by kernel_rfl) (xeq26 n11 n20 n12 n21)) (congrArg Value.bool (decide_eq_false hk23)) (Wn.none rfl) rfl rfl ?_
       refine WR.step (Ex.move rfl) (Wn.none rfl) rfl rfl ?_
       refine WR.nil (WQ.any ?_)
       refine WA.takeN (i := 4) rfl (by kernel_rfl) (by kernel_rfl) (by kernel_rfl) (wanted_g (b := false) rfl rfl rfl) rfl rfl (fun _ _ => rfl) ?_
       refine WA.seq (fuel := 0) [5, 6, 7, 8] rfl (by kernel_rfl) ?_
       refine WR.skipG (b := false) rfl rfl rfl rfl rfl ?_
       refine WR.skipG (b := false) rfl rfl rfl rfl rfl ?_
       refine WR.step (Ex.pickF rfl rfl) (Wn.none rfl) rfl rfl ?_
       refine WR.step (Ex.assign rfl) (Wn.none rfl) rfl rfl ?_
       refine WR.nil (WQ.any ?_)
       refine WA.done (by kernel_rfl) ?_
       exact WQ.meetN [(4, _)] ⟨rfl, trivial⟩ ⟨_, _, rfl, (H.pick (L' := []) (by repeat (first | exact Pick.nil | refine Pick.cons (by repeat (first | exact Rem.head | apply Rem.tail)) ?_))), hg_errR, hg_errS, hg_maxl, hg_pow10, e18⟩
    ·
     rintro e w ⟨b19, M, rfl, H, hg_errR, hg_errS, hg_maxl, hg_pow10, q24⟩
     obtain rfl := Option.some.inj q24
     refine WQ.then ?_
     refine WC.ret ?_
     (repeat (first | refine WQ.thenRet ?_ | refine WQ.inBlockRet ?_ | refine WQ.cutRet ?_ | refine WQ.scRet ?_))
     obtain rfl := Option.some.inj h
     exact WQ.ret1 rfl rfl H.ext rfl
   ·
    replace hk16 : b14 = true := by simpa using hk16
    subst hk16
    rw [if_pos rfl] at h
    refine WC.skip ?_
    refine WQ.then ?_
    refine WC.seq ?_
    refine WC.seq ?_
    obtain ⟨b25, hx26, h⟩ := bnd h
    refine WC.region ?_
    refine WR.step (Ex.move rfl) (Wn.none rfl) rfl rfl ?_
    refine WR.call H (R_In_ct hx26) rfl trivial (Wn.none rfl) rfl ?_
    intro v29 M w H hle hR
    replace hg_errR := hg_errR.mono hle
    replace hg_errS := hg_errS.mono hle
    replace hg_maxl := hg_maxl.mono hle
    replace hg_pow10 := hg_pow10.mono hle
    obtain rfl := hR
    refine WR.step (Ex.not rfl) (Wn.none rfl) rfl rfl ?_
    refine WR.nil ?_
    refine WQ.then ?_
    refine WC.condB rfl (fun hk27 => ?_) (fun hk27 => ?_)
    ·
     replace hk27 : b25 = false := by simpa using hk27
     subst hk27
     rw [if_neg Bool.false_ne_true] at h
     refine WC.seq ?_
     obtain ⟨o28, e29, h⟩ := bnd h
     refine WC.cutX (fun e w => ∃ (b30 : Bool) (M : Mem), e = [(4, Value.bool b30)] ∧ St w0 M0 M [] w ∧ GlF (fun w => ∃ tp p, w.var? Tryz.prog "strconv.ErrRange" = some #[.iface tp p]) M ∧ GlF (fun w => ∃ tp p, w.var? Tryz.prog "strconv.ErrSyntax" = some #[.iface tp p]) M ∧ GlF (fun w => ∃ m, w.cell? ⟨0, 0, none⟩ = some (.int .i64 m)) M ∧ GlF (fun w => Lib.TabIs Tryz.prog w "internal/strconv.uint64pow10" .u64 Lib.pow10Tab) M ∧ some b30 = some o28) [] ?_ ?_ (trivial)
     ·
      obtain ⟨⟨n31, n32⟩, hx33, e29⟩ := bnd e29
      try dsimp only at e29
      refine WC.draw (m := 9) rfl rfl H ?_
      intro w H
      by_cases hk34 : n11 = n31 ∧ n12 = n32
      ·
       rw [if_pos hk34] at e29
       refine WA.two (i := 0) (j := 1) (by kernel_rfl) rfl rfl ?_ ?_
       ·
        refine WR.step (Ex.loadAgg H rfl (by repeat (first | exact List.Mem.head _ | apply List.Mem.tail)) Tryz.isAgg26 Tryz.sizeOf26 (by rfl)) (Wn.none rfl) rfl rfl ?_
        refine WR.nil (WQ.any ?_)
        refine WA.seq (fuel := 5) [1, 2, 3] rfl (by kernel_rfl) ?_
        refine WR.call H (R_At_ct hx33) rfl trivial (Wn.none rfl) rfl ?_
        intro v32 M w H hle hR
        replace hg_errR := hg_errR.mono hle
        replace hg_errS := hg_errS.mono hle
        replace hg_maxl := hg_maxl.mono hle
        replace hg_pow10 := hg_pow10.mono hle
        try dsimp only at hR
        obtain rfl := hR
        refine WR.stepE (v' := .bool true) (Ex.eqlAgg rfl rfl (by kernel_rfl) (xeq26 n11 n31 n12 n32)) (congrArg Value.bool (decide_eq_true hk34)) (Wn.none rfl) rfl rfl ?_
        refine WR.step (Ex.move rfl) (Wn.none rfl) rfl rfl ?_
        refine WR.nil (WQ.any ?_)
        refine WA.take (i := 5) rfl (by kernel_rfl) (by kernel_rfl) (by kernel_rfl) (fun _ => Ex.build [I 0, I 0, I 0, I 0, I 0, I 0, I 0] Tryz.underlying23 Tryz.zeroValue23 (xplaces23 Tryz.underlying23) rfl (by kernel_rfl)) (Wn.some rfl rfl rfl) rfl rfl (fun _ _ => rfl) ?_
        refine WA.seq (fuel := 0) [4, 6, 7, 8] rfl (by kernel_rfl) ?_
        refine WR.step (Ex.loadAgg H rfl (by repeat (first | exact List.Mem.head _ | apply List.Mem.tail)) Tryz.isAgg23 Tryz.sizeOf23 (by rfl)) (Wn.some rfl rfl rfl) rfl rfl ?_
        refine WR.step (Ex.eqlAgg rfl rfl (by kernel_rfl) (xeq23 n4 0 n5 0 n6 0 n7 0 n8 0 n9 0 n10 0)) (Wn.some rfl rfl rfl) rfl rfl ?_
        refine WR.step (Ex.pickT rfl rfl) (Wn.none rfl) rfl rfl ?_
        refine WR.step (Ex.assign rfl) (Wn.none rfl) rfl rfl ?_
        refine WR.nil (WQ.any ?_)
        refine WA.done (by kernel_rfl) ?_
        exact WQ.meetN [(4, _)] ⟨rfl, trivial⟩ ⟨_, _, rfl, (H.pick (L' := []) (by repeat (first | exact Pick.nil | refine Pick.cons (by repeat (first | exact Rem.head | apply Rem.tail)) ?_))), hg_errR, hg_errS, hg_maxl, hg_pow10, e29⟩
       ·
        refine WR.call H (R_At_ct hx33) rfl trivial (Wn.none rfl) rfl ?_
        intro v32 M w H hle hR
        replace hg_errR := hg_errR.mono hle
        replace hg_errS := hg_errS.mono hle
        replace hg_maxl := hg_maxl.mono hle
        replace hg_pow10 := hg_pow10.mono hle
        try dsimp only at hR
        obtain rfl := hR
        refine WR.nil (WQ.any ?_)
        refine WA.seq (fuel := 5) [0, 2, 3] rfl (by kernel_rfl) ?_
        refine WR.step (Ex.loadAgg H rfl (by repeat (first | exact List.Mem.head _ | apply List.Mem.tail)) Tryz.isAgg26 Tryz.sizeOf26 (by rfl)) (Wn.none rfl) rfl rfl ?_
        refine WR.stepE (v' := .bool true) (Ex.eqlAgg rfl rfl (by kernel_rfl) (xeq26 n11 n31 n12 n32)) (congrArg Value.bool (decide_eq_true hk34)) (Wn.none rfl) rfl rfl ?_
        refine WR.step (Ex.move rfl) (Wn.none rfl) rfl rfl ?_
        refine WR.nil (WQ.any ?_)
        refine WA.take (i := 5) rfl (by kernel_rfl) (by kernel_rfl) (by kernel_rfl) (fun _ => Ex.build [I 0, I 0, I 0, I 0, I 0, I 0, I 0] Tryz.underlying23 Tryz.zeroValue23 (xplaces23 Tryz.underlying23) rfl (by kernel_rfl)) (Wn.some rfl rfl rfl) rfl rfl (fun _ _ => rfl) ?_
        refine WA.seq (fuel := 0) [4, 6, 7, 8] rfl (by kernel_rfl) ?_
        refine WR.step (Ex.loadAgg H rfl (by repeat (first | exact List.Mem.head _ | apply List.Mem.tail)) Tryz.isAgg23 Tryz.sizeOf23 (by rfl)) (Wn.some rfl rfl rfl) rfl rfl ?_
        refine WR.step (Ex.eqlAgg rfl rfl (by kernel_rfl) (xeq23 n4 0 n5 0 n6 0 n7 0 n8 0 n9 0 n10 0)) (Wn.some rfl rfl rfl) rfl rfl ?_
        refine WR.step (Ex.pickT rfl rfl) (Wn.none rfl) rfl rfl ?_
        refine WR.step (Ex.assign rfl) (Wn.none rfl) rfl rfl ?_
        refine WR.nil (WQ.any ?_)
        refine WA.done (by kernel_rfl) ?_
        exact WQ.meetN [(4, _)] ⟨rfl, trivial⟩ ⟨_, _, rfl, (H.pick (L' := []) (by repeat (first | exact Pick.nil | refine Pick.cons (by repeat (first | exact Rem.head | apply Rem.tail)) ?_))), hg_errR, hg_errS, hg_maxl, hg_pow10, e29⟩
      ·
       rw [if_neg hk34] at e29
       refine WA.two (i := 0) (j := 1) (by kernel_rfl) rfl rfl ?_ ?_
       ·
        refine WR.step (Ex.loadAgg H rfl (by repeat (first | exact List.Mem.head _ | apply List.Mem.tail)) Tryz.isAgg26 Tryz.sizeOf26 (by rfl)) (Wn.none rfl) rfl rfl ?_
        refine WR.nil (WQ.any ?_)
        refine WA.seq (fuel := 5) [1, 2, 3] rfl (by kernel_rfl) ?_
        refine WR.call H (R_At_ct hx33) rfl trivial (Wn.none rfl) rfl ?_
        intro v32 M w H hle hR
        replace hg_errR := hg_errR.mono hle
        replace hg_errS := hg_errS.mono hle
        replace hg_maxl := hg_maxl.mono hle
        replace hg_pow10 := hg_pow10.mono hle
        try dsimp only at hR
        obtain rfl := hR
        refine WR.stepE (v' := .bool false) (Ex.eqlAgg rfl rfl (by kernel_rfl) (xeq26 n11 n31 n12 n32)) (congrArg Value.bool (decide_eq_false hk34)) (Wn.none rfl) rfl rfl ?_
        refine WR.step (Ex.move rfl) (Wn.none rfl) rfl rfl ?_
        refine WR.nil (WQ.any ?_)
        refine WA.takeN (i := 4) rfl (by kernel_rfl) (by kernel_rfl) (by kernel_rfl) (wanted_g (b := false) rfl rfl rfl) rfl rfl (fun _ _ => rfl) ?_
        refine WA.seq (fuel := 0) [5, 6, 7, 8] rfl (by kernel_rfl) ?_
        refine WR.skipG (b := false) rfl rfl rfl rfl rfl ?_
        refine WR.skipG (b := false) rfl rfl rfl rfl rfl ?_
        refine WR.step (Ex.pickF rfl rfl) (Wn.none rfl) rfl rfl ?_
        refine WR.step (Ex.assign rfl) (Wn.none rfl) rfl rfl ?_
        refine WR.nil (WQ.any ?_)
        refine WA.done (by kernel_rfl) ?_
        exact WQ.meetN [(4, _)] ⟨rfl, trivial⟩ ⟨_, _, rfl, (H.pick (L' := []) (by repeat (first | exact Pick.nil | refine Pick.cons (by repeat (first | exact Rem.head | apply Rem.tail)) ?_))), hg_errR, hg_errS, hg_maxl, hg_pow10, e29⟩
       ·
        refine WR.call H (R_At_ct hx33) rfl trivial (Wn.none rfl) rfl ?_
        intro v32 M w H hle hR
        replace hg_errR := hg_errR.mono hle
        replace hg_errS := hg_errS.mono hle
        replace hg_maxl := hg_maxl.mono hle
        replace hg_pow10 := hg_pow10.mono hle
        try dsimp only at hR
        obtain rfl := hR
        refine WR.nil (WQ.any ?_)
        refine WA.seq (fuel := 5) [0, 2, 3] rfl (by kernel_rfl) ?_
        refine WR.step (Ex.loadAgg H rfl (by repeat (first | exact List.Mem.head _ | apply List.Mem.tail)) Tryz.isAgg26 Tryz.sizeOf26 (by rfl)) (Wn.none rfl) rfl rfl ?_
        refine WR.stepE (v' := .bool false) (Ex.eqlAgg rfl rfl (by kernel_rfl) (xeq26 n11 n31 n12 n32)) (congrArg Value.bool (decide_eq_false hk34)) (Wn.none rfl) rfl rfl ?_
        refine WR.step (Ex.move rfl) (Wn.none rfl) rfl rfl ?_
        refine WR.nil (WQ.any ?_)
        refine WA.takeN (i := 4) rfl (by kernel_rfl) (by kernel_rfl) (by kernel_rfl) (wanted_g (b := false) rfl rfl rfl) rfl rfl (fun _ _ => rfl) ?_
        refine WA.seq (fuel := 0) [5, 6, 7, 8] rfl (by kernel_rfl) ?_
        refine WR.skipG (b := false) rfl rfl rfl rfl rfl ?_
        refine WR.skipG (b := false) rfl rfl rfl rfl rfl ?_
        refine WR.step (Ex.pickF rfl rfl) (Wn.none rfl) rfl rfl ?_
        refine WR.step (Ex.assign rfl) (Wn.none rfl) rfl rfl ?_
        refine WR.nil (WQ.any ?_)
        refine WA.done (by kernel_rfl) ?_
        exact WQ.meetN [(4, _)] ⟨rfl, trivial⟩ ⟨_, _, rfl, (H.pick (L' := []) (by repeat (first | exact Pick.nil | refine Pick.cons (by repeat (first | exact Rem.head | apply Rem.tail)) ?_))), hg_errR, hg_errS, hg_maxl, hg_pow10, e29⟩
     ·
      rintro e w ⟨b30, M, rfl, H, hg_errR, hg_errS, hg_maxl, hg_pow10, q35⟩
      obtain rfl := Option.some.inj q35
      refine WQ.then ?_
      refine WC.ret ?_
      (repeat (first | refine WQ.thenRet ?_ | refine WQ.inBlockRet ?_ | refine WQ.cutRet ?_ | refine WQ.scRet ?_))
      obtain rfl := Option.some.inj h
      exact WQ.ret1 rfl rfl H.ext rfl
    ·
     replace hk27 : b25 = true := by simpa using hk27
     subst hk27
     rw [if_pos rfl] at h
     refine WC.skip ?_
     refine WQ.then ?_
     refine WC.seq ?_
     obtain ⟨⟨⟨n36, n37, n38, n39, n40, n41, n42⟩, b43⟩, hx44, h⟩ := bnd h
     try dsimp only at h
     refine WC.region ?_
     refine WR.step (Ex.move rfl) (Wn.none rfl) rfl rfl ?_
     refine WR.step (Ex.move rfl) (Wn.none rfl) rfl rfl ?_
     refine WR.call H (R_DateOf_ct hx44) rfl trivial (Wn.none rfl) rfl ?_
     intro v42 M w H hle hR
     replace hg_errR := hg_errR.mono hle
     replace hg_errS := hg_errS.mono hle
     replace hg_maxl := hg_maxl.mono hle
     replace hg_pow10 := hg_pow10.mono hle
     try dsimp only at hR
     obtain rfl := hR
     refine WR.step (Ex.move rfl) (Wn.none rfl) rfl rfl ?_
     refine WR.step (Ex.extract rfl rfl) (Wn.none rfl) rfl rfl ?_
     refine WR.step (Ex.extract rfl rfl) (Wn.none rfl) rfl rfl ?_
     refine WR.alloc [_, _, _, _, _, _, _] H Tryz.zeroValue23 rfl (Wn.none rfl) rfl ?_
     intro b7 w H
     refine WR.store [_, _, _, _, _, _, _] H rfl rfl rfl (by repeat (first | exact Upd.head | apply Upd.tail)) Tryz.sizeOf23 rfl (by rfl) (by rfl) (Wn.none rfl) ?_
     intro w H
     refine WR.step (Ex.assign rfl) (Wn.none rfl) rfl rfl ?_
     refine WR.nil ?_
     refine WQ.then ?_
     refine WC.seq ?_
     refine WC.seq ?_
     refine WC.region ?_
     refine WR.step (Ex.move rfl) (Wn.none rfl) rfl rfl ?_
     refine WR.step (Ex.not rfl) (Wn.none rfl) rfl rfl ?_
     refine WR.nil ?_
     refine WQ.then ?_
     refine WC.condB rfl (fun hk45 => ?_) (fun hk45 => ?_)
     ·
      replace hk45 : b43 = false := by simpa using hk45
      subst hk45
      rw [if_neg Bool.false_ne_true] at h
      refine WC.seq ?_
      obtain ⟨o46, e47, h⟩ := bnd h
      refine WC.cutX (fun e w => ∃ (b48 : Bool) (M : Mem), e = [(4, Value.bool b48)] ∧ St w0 M0 M [] w ∧ GlF (fun w => ∃ tp p, w.var? Tryz.prog "strconv.ErrRange" = some #[.iface tp p]) M ∧ GlF (fun w => ∃ tp p, w.var? Tryz.prog "strconv.ErrSyntax" = some #[.iface tp p]) M ∧ GlF (fun w => ∃ m, w.cell? ⟨0, 0, none⟩ = some (.int .i64 m)) M ∧ GlF (fun w => Lib.TabIs Tryz.prog w "internal/strconv.uint64pow10" .u64 Lib.pow10Tab) M ∧ some b48 = some o46) [] ?_ ?_ (trivial)
      ·
       obtain ⟨⟨n49, n50⟩, hx51, e47⟩ := bnd e47
       try dsimp only at e47
       refine WC.draw (m := 9) rfl rfl H ?_
       intro w H
       by_cases hk52 : n11 = n49 ∧ n12 = n50
       ·
        rw [if_pos hk52] at e47
        refine WA.two (i := 0) (j := 1) (by kernel_rfl) rfl rfl ?_ ?_
        ·
         refine WR.step (Ex.loadAgg H rfl (by repeat (first | exact List.Mem.head _ | apply List.Mem.tail)) Tryz.isAgg26 Tryz.sizeOf26 (by rfl)) (Wn.none rfl) rfl rfl ?_
         refine WR.nil (WQ.any ?_)
         refine WA.seq (fuel := 5) [1, 2, 3] rfl (by kernel_rfl) ?_
         refine WR.call H (R_At_ct hx51) rfl trivial (Wn.none rfl) rfl ?_
         intro v48 M w H hle hR
         replace hg_errR := hg_errR.mono hle
         replace hg_errS := hg_errS.mono hle
         replace hg_maxl := hg_maxl.mono hle
         replace hg_pow10 := hg_pow10.mono hle
         try dsimp only at hR
         obtain rfl := hR
         refine WR.stepE (v' := .bool true) (Ex.eqlAgg rfl rfl (by kernel_rfl) (xeq26 n11 n49 n12 n50)) (congrArg Value.bool (decide_eq_true hk52)) (Wn.none rfl) rfl rfl ?_
         refine WR.step (Ex.move rfl) (Wn.none rfl) rfl rfl ?_
         refine WR.nil (WQ.any ?_)
         refine WA.take (i := 5) rfl (by kernel_rfl) (by kernel_rfl) (by kernel_rfl) (fun _ => Ex.build [I 0, I 0, I 0, I 0, I 0, I 0, I 0] Tryz.underlying23 Tryz.zeroValue23 (xplaces23 Tryz.underlying23) rfl (by kernel_rfl)) (Wn.some rfl rfl rfl) rfl rfl (fun _ _ => rfl) ?_
         refine WA.seq (fuel := 0) [4, 6, 7, 8] rfl (by kernel_rfl) ?_
         refine WR.step (Ex.loadAgg H rfl (by repeat (first | exact List.Mem.head _ | apply List.Mem.tail)) Tryz.isAgg23 Tryz.sizeOf23 (by rfl)) (Wn.some rfl rfl rfl) rfl rfl ?_
         refine WR.step (Ex.eqlAgg rfl rfl (by kernel_rfl) (xeq23 n4 0 n5 0 n6 0 n7 0 n8 0 n9 0 n10 0)) (Wn.some rfl rfl rfl) rfl rfl ?_
         refine WR.step (Ex.pickT rfl rfl) (Wn.none rfl) rfl rfl ?_
         refine WR.step (Ex.assign rfl) (Wn.none rfl) rfl rfl ?_
         refine WR.nil (WQ.any ?_)
         refine WA.done (by kernel_rfl) ?_
         exact WQ.meetN [(4, _)] ⟨rfl, trivial⟩ ⟨_, _, rfl, (H.pick (L' := []) (by repeat (first | exact Pick.nil | refine Pick.cons (by repeat (first | exact Rem.head | apply Rem.tail)) ?_))), hg_errR, hg_errS, hg_maxl, hg_pow10, e47⟩
        ·
         refine WR.call H (R_At_ct hx51) rfl trivial (Wn.none rfl) rfl ?_
         intro v48 M w H hle hR
         replace hg_errR := hg_errR.mono hle
         replace hg_errS := hg_errS.mono hle
         replace hg_maxl := hg_maxl.mono hle
         replace hg_pow10 := hg_pow10.mono hle
         try dsimp only at hR
         obtain rfl := hR
         refine WR.nil (WQ.any ?_)
         refine WA.seq (fuel := 5) [0, 2, 3] rfl (by kernel_rfl) ?_
         refine WR.step (Ex.loadAgg H rfl (by repeat (first | exact List.Mem.head _ | apply List.Mem.tail)) Tryz.isAgg26 Tryz.sizeOf26 (by rfl)) (Wn.none rfl) rfl rfl ?_
         refine WR.stepE (v' := .bool true) (Ex.eqlAgg rfl rfl (by kernel_rfl) (xeq26 n11 n49 n12 n50)) (congrArg Value.bool (decide_eq_true hk52)) (Wn.none rfl) rfl rfl ?_
         refine WR.step (Ex.move rfl) (Wn.none rfl) rfl rfl ?_
         refine WR.nil (WQ.any ?_)
         refine WA.take (i := 5) rfl (by kernel_rfl) (by kernel_rfl) (by kernel_rfl) (fun _ => Ex.build [I 0, I 0, I 0, I 0, I 0, I 0, I 0] Tryz.underlying23 Tryz.zeroValue23 (xplaces23 Tryz.underlying23) rfl (by kernel_rfl)) (Wn.some rfl rfl rfl) rfl rfl (fun _ _ => rfl) ?_
         refine WA.seq (fuel := 0) [4, 6, 7, 8] rfl (by kernel_rfl) ?_
         refine WR.step (Ex.loadAgg H rfl (by repeat (first | exact List.Mem.head _ | apply List.Mem.tail)) Tryz.isAgg23 Tryz.sizeOf23 (by rfl)) (Wn.some rfl rfl rfl) rfl rfl ?_
         refine WR.step (Ex.eqlAgg rfl rfl (by kernel_rfl) (xeq23 n4 0 n5 0 n6 0 n7 0 n8 0 n9 0 n10 0)) (Wn.some rfl rfl rfl) rfl rfl ?_
         refine WR.step (Ex.pickT rfl rfl) (Wn.none rfl) rfl rfl ?_
         refine WR.step (Ex.assign rfl) (Wn.none rfl) rfl rfl ?_
         refine WR.nil (WQ.any ?_)
         refine WA.done (by kernel_rfl) ?_
         exact WQ.meetN [(4, _)] ⟨rfl, trivial⟩ ⟨_, _, rfl, (H.pick (L' := []) (by repeat (first | exact Pick.nil | refine Pick.cons (by repeat (first | exact Rem.head | apply Rem.tail)) ?_))), hg_errR, hg_errS, hg_maxl, hg_pow10, e47⟩
       ·
        rw [if_neg hk52] at e47
        refine WA.two (i := 0) (j := 1) (by kernel_rfl) rfl rfl ?_ ?_
        ·
         refine WR.step (Ex.loadAgg H rfl (by repeat (first | exact List.Mem.head _ | apply List.Mem.tail)) Tryz.isAgg26 Tryz.sizeOf26 (by rfl)) (Wn.none rfl) rfl rfl ?_
         refine WR.nil (WQ.any ?_)
         refine WA.seq (fuel := 5) [1, 2, 3] rfl (by kernel_rfl) ?_
         refine WR.call H (R_At_ct hx51) rfl trivial (Wn.none rfl) rfl ?_
         intro v48 M w H hle hR
         replace hg_errR := hg_errR.mono hle
         replace hg_errS := hg_errS.mono hle
         replace hg_maxl := hg_maxl.mono hle
         replace hg_pow10 := hg_pow10.mono hle
         try dsimp only at hR
         obtain rfl := hR
         refine WR.stepE (v' := .bool false) (Ex.eqlAgg rfl rfl (by kernel_rfl) (xeq26 n11 n49 n12 n50)) (congrArg Value.bool (decide_eq_false hk52)) (Wn.none rfl) rfl rfl ?_
         refine WR.step (Ex.move rfl) (Wn.none rfl) rfl rfl ?_
         refine WR.nil (WQ.any ?_)
         refine WA.takeN (i := 4) rfl (by kernel_rfl) (by kernel_rfl) (by kernel_rfl) (wanted_g (b := false) rfl rfl rfl) rfl rfl (fun _ _ => rfl) ?_
         refine WA.seq (fuel := 0) [5, 6, 7, 8] rfl (by kernel_rfl) ?_
         refine WR.skipG (b := false) rfl rfl rfl rfl rfl ?_
         refine WR.skipG (b := false) rfl rfl rfl rfl rfl ?_
         refine WR.step (Ex.pickF rfl rfl) (Wn.none rfl) rfl rfl ?_
         refine WR.step (Ex.assign rfl) (Wn.none rfl) rfl rfl ?_
         refine WR.nil (WQ.any ?_)
         refine WA.done (by kernel_rfl) ?_
         exact WQ.meetN [(4, _)] ⟨rfl, trivial⟩ ⟨_, _, rfl, (H.pick (L' := []) (by repeat (first | exact Pick.nil | refine Pick.cons (by repeat (first | exact Rem.head | apply Rem.tail)) ?_))), hg_errR, hg_errS, hg_maxl, hg_pow10, e47⟩
        ·
         refine WR.call H (R_At_ct hx51) rfl trivial (Wn.none rfl) rfl ?_
         intro v48 M w H hle hR
         replace hg_errR := hg_errR.mono hle
         replace hg_errS := hg_errS.mono hle
         replace hg_maxl := hg_maxl.mono hle
         replace hg_pow10 := hg_pow10.mono hle
         try dsimp only at hR
         obtain rfl := hR
         refine WR.nil (WQ.any ?_)
         refine WA.seq (fuel := 5) [0, 2, 3] rfl (by kernel_rfl) ?_
         refine WR.step (Ex.loadAgg H rfl (by repeat (first | exact List.Mem.head _ | apply List.Mem.tail)) Tryz.isAgg26 Tryz.sizeOf26 (by rfl)) (Wn.none rfl) rfl rfl ?_
         refine WR.stepE (v' := .bool false) (Ex.eqlAgg rfl rfl (by kernel_rfl) (xeq26 n11 n49 n12 n50)) (congrArg Value.bool (decide_eq_false hk52)) (Wn.none rfl) rfl rfl ?_
         refine WR.step (Ex.move rfl) (Wn.none rfl) rfl rfl ?_
         refine WR.nil (WQ.any ?_)
         refine WA.takeN (i := 4) rfl (by kernel_rfl) (by kernel_rfl) (by kernel_rfl) (wanted_g (b := false) rfl rfl rfl) rfl rfl (fun _ _ => rfl) ?_
         refine WA.seq (fuel := 0) [5, 6, 7, 8] rfl (by kernel_rfl) ?_
         refine WR.skipG (b := false) rfl rfl rfl rfl rfl ?_
         refine WR.skipG (b := false) rfl rfl rfl rfl rfl ?_
         refine WR.step (Ex.pickF rfl rfl) (Wn.none rfl) rfl rfl ?_
         refine WR.step (Ex.assign rfl) (Wn.none rfl) rfl rfl ?_
         refine WR.nil (WQ.any ?_)
         refine WA.done (by kernel_rfl) ?_
         exact WQ.meetN [(4, _)] ⟨rfl, trivial⟩ ⟨_, _, rfl, (H.pick (L' := []) (by repeat (first | exact Pick.nil | refine Pick.cons (by repeat (first | exact Rem.head | apply Rem.tail)) ?_))), hg_errR, hg_errS, hg_maxl, hg_pow10, e47⟩
      ·
       rintro e w ⟨b48, M, rfl, H, hg_errR, hg_errS, hg_maxl, hg_pow10, q53⟩
       obtain rfl := Option.some.inj q53
       refine WQ.then ?_
       refine WC.ret ?_
       (repeat (first | refine WQ.thenRet ?_ | refine WQ.inBlockRet ?_ | refine WQ.cutRet ?_ | refine WQ.scRet ?_))
       obtain rfl := Option.some.inj h
       exact WQ.ret1 rfl rfl H.ext rfl
     ·
      replace hk45 : b43 = true := by simpa using hk45
      subst hk45
      rw [if_pos rfl] at h
      refine WC.skip ?_
      refine WQ.then ?_
      refine WC.seq ?_
      obtain ⟨o54, e55, h⟩ := bnd h
      refine WC.cutX (fun e w => ∃ (b56 : Bool) (M : Mem), e = [(4, Value.bool b56)] ∧ St w0 M0 M [] w ∧ GlF (fun w => ∃ tp p, w.var? Tryz.prog "strconv.ErrRange" = some #[.iface tp p]) M ∧ GlF (fun w => ∃ tp p, w.var? Tryz.prog "strconv.ErrSyntax" = some #[.iface tp p]) M ∧ GlF (fun w => ∃ m, w.cell? ⟨0, 0, none⟩ = some (.int .i64 m)) M ∧ GlF (fun w => Lib.TabIs Tryz.prog w "internal/strconv.uint64pow10" .u64 Lib.pow10Tab) M ∧ some b56 = some o54) [] ?_ ?_ (trivial)
      ·
       refine WC.region ?_
       refine WR.step (Ex.fieldAddr Tryz.underlying26 rfl Tryz.sizeOf3 (by decide) rfl) (Wn.none rfl) rfl rfl ?_
       refine WR.step (Ex.load1 H rfl (by repeat (first | exact List.Mem.head _ | apply List.Mem.tail)) Tryz.isAgg3 (by rfl)) (Wn.none rfl) rfl rfl ?_
       by_cases hk57 : n11 = (0 : Int)
       ·
        rw [if_pos hk57] at e55
        refine WR.stepE (v' := .bool true) (Ex.eql rfl rfl) (congrArg Value.bool (decide_eq_true hk57)) (Wn.none rfl) rfl rfl ?_
        refine WR.step (Ex.move rfl) (Wn.none rfl) rfl rfl ?_
        refine WR.step (Ex.loadAgg H rfl (by repeat (first | exact List.Mem.head _ | apply List.Mem.tail)) Tryz.isAgg23 Tryz.sizeOf23 (by rfl)) (Wn.some rfl rfl rfl) rfl rfl ?_
        refine WR.step (Ex.loadAgg H rfl (by repeat (first | exact List.Mem.head _ | apply List.Mem.tail)) Tryz.isAgg23 Tryz.sizeOf23 (by rfl)) (Wn.some rfl rfl rfl) rfl rfl ?_
        refine WR.step (Ex.eqlAgg rfl rfl (by kernel_rfl) (xeq23 n4 n36 n5 n37 n6 n38 n7 n39 n8 n40 n9 n41 n10 n42)) (Wn.some rfl rfl rfl) rfl rfl ?_
        refine WR.step (Ex.pickT rfl rfl) (Wn.none rfl) rfl rfl ?_
        refine WR.step (Ex.assign rfl) (Wn.none rfl) rfl rfl ?_
        refine WR.nil ?_
        exact WQ.meetN [(4, _)] ⟨rfl, trivial⟩ ⟨_, _, rfl, (H.pick (L' := []) (by repeat (first | exact Pick.nil | refine Pick.cons (by repeat (first | exact Rem.head | apply Rem.tail)) ?_))), hg_errR, hg_errS, hg_maxl, hg_pow10, e55⟩
       ·
        rw [if_neg hk57] at e55
        refine WR.stepE (v' := .bool false) (Ex.eql rfl rfl) (congrArg Value.bool (decide_eq_false hk57)) (Wn.none rfl) rfl rfl ?_
        refine WR.step (Ex.move rfl) (Wn.none rfl) rfl rfl ?_
        refine WR.skipN 3 rfl rfl ?_
        refine WR.step (Ex.pickF rfl rfl) (Wn.none rfl) rfl rfl ?_
        refine WR.step (Ex.assign rfl) (Wn.none rfl) rfl rfl ?_
        refine WR.nil ?_
        exact WQ.meetN [(4, _)] ⟨rfl, trivial⟩ ⟨_, _, rfl, (H.pick (L' := []) (by repeat (first | exact Pick.nil | refine Pick.cons (by repeat (first | exact Rem.head | apply Rem.tail)) ?_))), hg_errR, hg_errS, hg_maxl, hg_pow10, e55⟩
      ·
       rintro e w ⟨b56, M, rfl, H, hg_errR, hg_errS, hg_maxl, hg_pow10, q58⟩
       obtain rfl := Option.some.inj q58
       refine WQ.then ?_
       refine WC.ret ?_
       (repeat (first | refine WQ.thenRet ?_ | refine WQ.inBlockRet ?_ | refine WQ.cutRet ?_ | refine WQ.scRet ?_))
       obtain rfl := Option.some.inj h
       exact WQ.ret1 rfl rfl H.ext rfl
end Go.Proofs.YtlopnlagpdchiaaGreatDoor
