/-
  Dates: contracts of the program's functions over their plain forms, written by wip/tools/ext.py.
-/
import Derived.Test.YtlopnlagpdchiaaGreatDoorKct2
import Derived.KernelRfl
set_option maxRecDepth 100000
set_option linter.unusedVariables false
set_option linter.unusedSimpArgs false
namespace Go.Proofs.YtlopnlagpdchiaaGreatDoor
open Go Go.RowKit Go.Ph Go.Ph.Pl Go.Ph.Pf
theorem xty67 : ElemTy Tryz.prog 67 3 (.int .i64 0) 1 8 := ElemTy.mk' Tryz.underlying67 (by kernel_rfl) rfl (by decide)
theorem xeq26 (a0 b0 : Int) (a1 b1 : Int) (w : World) : (Op.equalIn 10000 26 (.agg #[.int .i64 a0, .int .i64 a1]) (.agg #[.int .i64 b0, .int .i64 b1])).run Tryz.prog w = .ok (decide (a0 = b0 ∧ a1 = b1)) w := by
  rw [run_equalIn_struct w 9999 26 _ _ (by rw [Program.fieldsOf, Tryz.underlying26]) (by kernel_rfl)]
  rw [Program.fieldsOf, Tryz.underlying26]
  by_cases h0 : a0 = b0
  rotate_left
  · simp [Op.eqFields, part, h0, Tryz.isAgg3, run_equalIn_int _ _ _ _ _ _ _ Tryz.underlying3]
  by_cases h1 : a1 = b1
  rotate_left
  · simp [Op.eqFields, part, h0, h1, Tryz.isAgg3, run_equalIn_int _ _ _ _ _ _ _ Tryz.underlying3]
  simp [Op.eqFields, part, h0, h1, Tryz.isAgg3, run_equalIn_int _ _ _ _ _ _ _ Tryz.underlying3]
theorem R_In_ct {p0 : Int} {p1 : Int} {p2 : Int} {r : Bool} (h : R_In p0 p1 p2 = some r) : Ct Tryz.prog 15 [I p0, I p1, I p2] (fun M => True) (fun v M => v = Value.bool r) := by
  refine Ct.of Tryz.func15 (enters Tryz.func15 (by kernel_rfl) rfl) rfl rfl rfl ?_
  intro w0 M0 H hp
  unfold R_In at h
  refine WC.seq ?_
  refine WC.region ?_
  refine WR.step (Ex.assign rfl) (Wn.none rfl) rfl rfl ?_
  refine WR.nil ?_
  refine WQ.then ?_
  refine WC.seq ?_
  obtain ⟨o1, e2, h⟩ := bnd h
  refine WC.cutX (fun e w => ∃ (b3 : Bool) (M : Mem), e = [(6, Value.bool b3)] ∧ St w0 M0 M [] w ∧ some b3 = some o1) [] ?_ ?_ (trivial)
  ·
   refine WC.region ?_
   refine WR.step (Ex.move rfl) (Wn.none rfl) rfl rfl ?_
   refine WR.step (Ex.move rfl) (Wn.none rfl) rfl rfl ?_
   by_cases hk4 : p1 ≤ p0
   ·
    rw [if_pos hk4] at e2
    refine WR.stepE (v' := .bool true) (Ex.geq rfl rfl) (congrArg Value.bool (decide_eq_true hk4)) (Wn.none rfl) rfl rfl ?_
    refine WR.step (Ex.move rfl) (Wn.none rfl) rfl rfl ?_
    refine WR.step (Ex.move rfl) (Wn.some rfl rfl rfl) rfl rfl ?_
    refine WR.step (Ex.move rfl) (Wn.some rfl rfl rfl) rfl rfl ?_
    refine WR.step (Ex.leq rfl rfl) (Wn.some rfl rfl rfl) rfl rfl ?_
    refine WR.step (Ex.pickT rfl rfl) (Wn.none rfl) rfl rfl ?_
    refine WR.step (Ex.assign rfl) (Wn.none rfl) rfl rfl ?_
    refine WR.nil ?_
    exact WQ.meetN [(6, _)] ⟨rfl, trivial⟩ ⟨_, _, rfl, H, e2⟩
   ·
    rw [if_neg hk4] at e2
    refine WR.stepE (v' := .bool false) (Ex.geq rfl rfl) (congrArg Value.bool (decide_eq_false hk4)) (Wn.none rfl) rfl rfl ?_
    refine WR.step (Ex.move rfl) (Wn.none rfl) rfl rfl ?_
    refine WR.skipN 3 rfl rfl ?_
    refine WR.step (Ex.pickF rfl rfl) (Wn.none rfl) rfl rfl ?_
    refine WR.step (Ex.assign rfl) (Wn.none rfl) rfl rfl ?_
    refine WR.nil ?_
    exact WQ.meetN [(6, _)] ⟨rfl, trivial⟩ ⟨_, _, rfl, H, e2⟩
  ·
   rintro e w ⟨b3, M, rfl, H, q5⟩
   obtain rfl := Option.some.inj q5
   refine WQ.then ?_
   refine WC.ret ?_
   (repeat (first | refine WQ.thenRet ?_ | refine WQ.inBlockRet ?_ | refine WQ.cutRet ?_ | refine WQ.scRet ?_))
   obtain rfl := Option.some.inj h
   exact WQ.ret1 rfl rfl H.ext rfl
theorem R_Leap_ct {p0 : Int} {r : Bool} (h : R_Leap p0 = some r) : Ct Tryz.prog 46 [I p0] (fun M => True) (fun v M => v = Value.bool r) := by
  refine Ct.of Tryz.func46 (enters Tryz.func46 (by kernel_rfl) rfl) rfl rfl rfl ?_
  intro w0 M0 H hp
  unfold R_Leap at h
  refine WC.seq ?_
  refine WC.region ?_
  refine WR.step (Ex.assign rfl) (Wn.none rfl) rfl rfl ?_
  refine WR.nil ?_
  refine WQ.then ?_
  refine WC.seq ?_
  obtain ⟨o1, e2, h⟩ := bnd h
  refine WC.cutX (fun e w => ∃ (b3 : Bool) (M : Mem), e = [(2, Value.bool b3)] ∧ St w0 M0 M [] w ∧ some b3 = some o1) [] ?_ ?_ (trivial)
  ·
   obtain ⟨n4, hxn4, e2⟩ := bnd e2
   refine WC.region ?_
   refine WR.step (Ex.move rfl) (Wn.none rfl) rfl rfl ?_
   refine WR.step (Ex.remC rfl rfl hxn4) (Wn.none rfl) rfl rfl ?_
   by_cases hk5 : n4 = (0 : Int)
   ·
    rw [if_pos hk5] at e2
    obtain ⟨n6, hxn6, e2⟩ := bnd e2
    by_cases hk7 : n6 = (0 : Int)
    ·
     rw [if_pos hk7] at e2
     obtain ⟨n8, hxn8, e2⟩ := bnd e2
     refine WR.stepE (v' := .bool true) (Ex.eql rfl rfl) (congrArg Value.bool (decide_eq_true hk5)) (Wn.none rfl) rfl rfl ?_
     refine WR.step (Ex.move rfl) (Wn.none rfl) rfl rfl ?_
     refine WR.step (Ex.move rfl) (Wn.some rfl rfl rfl) rfl rfl ?_
     refine WR.step (Ex.remC rfl rfl hxn6) (Wn.some rfl rfl rfl) rfl rfl ?_
     refine WR.stepE (v' := .bool false) (Ex.neqC rfl rfl) (congrArg Value.bool (by rw [decide_eq_true hk7]; rfl)) (Wn.some rfl rfl rfl) rfl rfl ?_
     refine WR.step (Ex.pickT rfl rfl) (Wn.none rfl) rfl rfl ?_
     refine WR.step (Ex.move rfl) (Wn.none rfl) rfl rfl ?_
     refine WR.step (Ex.move rfl) (Wn.some rfl rfl rfl) rfl rfl ?_
     refine WR.step (Ex.remC rfl rfl hxn8) (Wn.some rfl rfl rfl) rfl rfl ?_
     refine WR.step (Ex.eql rfl rfl) (Wn.some rfl rfl rfl) rfl rfl ?_
     refine WR.step (Ex.pickF rfl rfl) (Wn.none rfl) rfl rfl ?_
     refine WR.step (Ex.assign rfl) (Wn.none rfl) rfl rfl ?_
     refine WR.nil ?_
     exact WQ.meetN [(2, _)] ⟨rfl, trivial⟩ ⟨_, _, rfl, H, e2⟩
    ·
     rw [if_neg hk7] at e2
     refine WR.stepE (v' := .bool true) (Ex.eql rfl rfl) (congrArg Value.bool (decide_eq_true hk5)) (Wn.none rfl) rfl rfl ?_
     refine WR.step (Ex.move rfl) (Wn.none rfl) rfl rfl ?_
     refine WR.step (Ex.move rfl) (Wn.some rfl rfl rfl) rfl rfl ?_
     refine WR.step (Ex.remC rfl rfl hxn6) (Wn.some rfl rfl rfl) rfl rfl ?_
     refine WR.stepE (v' := .bool true) (Ex.neqC rfl rfl) (congrArg Value.bool (by rw [decide_eq_false hk7]; rfl)) (Wn.some rfl rfl rfl) rfl rfl ?_
     refine WR.step (Ex.pickT rfl rfl) (Wn.none rfl) rfl rfl ?_
     refine WR.step (Ex.move rfl) (Wn.none rfl) rfl rfl ?_
     refine WR.skipN 3 rfl rfl ?_
     refine WR.step (Ex.pickT rfl rfl) (Wn.none rfl) rfl rfl ?_
     refine WR.step (Ex.assign rfl) (Wn.none rfl) rfl rfl ?_
     refine WR.nil ?_
     exact WQ.meetN [(2, _)] ⟨rfl, trivial⟩ ⟨_, _, rfl, H, e2⟩
   ·
    rw [if_neg hk5] at e2
    obtain ⟨n9, hxn9, e2⟩ := bnd e2
    refine WR.stepE (v' := .bool false) (Ex.eql rfl rfl) (congrArg Value.bool (decide_eq_false hk5)) (Wn.none rfl) rfl rfl ?_
    refine WR.step (Ex.move rfl) (Wn.none rfl) rfl rfl ?_
    refine WR.skipN 3 rfl rfl ?_
    refine WR.step (Ex.pickF rfl rfl) (Wn.none rfl) rfl rfl ?_
    refine WR.step (Ex.move rfl) (Wn.none rfl) rfl rfl ?_
    refine WR.step (Ex.move rfl) (Wn.some rfl rfl rfl) rfl rfl ?_
    refine WR.step (Ex.remC rfl rfl hxn9) (Wn.some rfl rfl rfl) rfl rfl ?_
    refine WR.step (Ex.eql rfl rfl) (Wn.some rfl rfl rfl) rfl rfl ?_
    refine WR.step (Ex.pickF rfl rfl) (Wn.none rfl) rfl rfl ?_
    refine WR.step (Ex.assign rfl) (Wn.none rfl) rfl rfl ?_
    refine WR.nil ?_
    exact WQ.meetN [(2, _)] ⟨rfl, trivial⟩ ⟨_, _, rfl, H, e2⟩
  ·
   rintro e w ⟨b3, M, rfl, H, q10⟩
   obtain rfl := Option.some.inj q10
   refine WQ.then ?_
   refine WC.ret ?_
   (repeat (first | refine WQ.thenRet ?_ | refine WQ.inBlockRet ?_ | refine WQ.cutRet ?_ | refine WQ.scRet ?_))
   obtain rfl := Option.some.inj h
   exact WQ.ret1 rfl rfl H.ext rfl
theorem R_MonthDays_ct {p0 : Int} {p1 : Int} {r : Int} (h : R_MonthDays p0 p1 = some r) : Ct Tryz.prog 26 [I p0, I p1] (fun M => True) (fun v M => v = I r) := by
  refine Ct.of Tryz.func26 (enters Tryz.func26 (by kernel_rfl) rfl) rfl rfl rfl ?_
  intro w0 M0 H hp
  unfold R_MonthDays at h
  refine WC.seq ?_
  refine WC.region ?_
  refine WR.step (Ex.assign rfl) (Wn.none rfl) rfl rfl ?_
  refine WR.nil ?_
  refine WQ.then ?_
  refine WC.seq ?_
  refine WC.region ?_
  refine WR.lit (enc := encI) xty67 ([31, 28, 31, 30, 31, 30, 31, 31, 30, 31, 30, 31] : List Int) H rfl (by rfl) (fun _ => rfl) rfl rfl (Wn.none rfl) rfl ?_
  intro v6 M w H hle hs6
  refine WR.step (Ex.assign rfl) (Wn.none rfl) rfl rfl ?_
  refine WR.nil ?_
  refine WQ.then ?_
  refine WC.seq ?_
  refine WC.seq ?_
  obtain ⟨o1, e2, h⟩ := bnd h
  refine WC.cutX (fun e w => ∃ (b3 : Bool) (M : Mem), e = [(1, I p1), (5, v6), (12, Value.bool b3)] ∧ St w0 M0 M [] w ∧ Sl M encI v6 ([31, 28, 31, 30, 31, 30, 31, 31, 30, 31, 30, 31] : List Int) ∧ some b3 = some o1) [] ?_ ?_ (trivial)
  ·
   by_cases hk4 : p1 = (2 : Int)
   ·
    rw [if_pos hk4] at e2
    obtain ⟨b5, hx6, e2⟩ := bnd e2
    refine WC.region ?_
    refine WR.step (Ex.move rfl) (Wn.none rfl) rfl rfl ?_
    refine WR.stepE (v' := .bool true) (Ex.eql rfl rfl) (congrArg Value.bool (decide_eq_true hk4)) (Wn.none rfl) rfl rfl ?_
    refine WR.step (Ex.move rfl) (Wn.none rfl) rfl rfl ?_
    refine WR.step (Ex.move rfl) (Wn.some rfl rfl rfl) rfl rfl ?_
    refine WR.call H (R_Leap_ct hx6) rfl trivial (Wn.some rfl rfl rfl) rfl ?_
    intro v11 M w H hle hR
    replace hs6 := hs6.mono hle
    obtain rfl := hR
    refine WR.step (Ex.pickT rfl rfl) (Wn.none rfl) rfl rfl ?_
    refine WR.nil ?_
    exact WQ.meetN [(1, _), (5, _), (12, _)] ⟨rfl, rfl, rfl, trivial⟩ ⟨_, _, rfl, H, hs6, e2⟩
   ·
    rw [if_neg hk4] at e2
    refine WC.region ?_
    refine WR.step (Ex.move rfl) (Wn.none rfl) rfl rfl ?_
    refine WR.stepE (v' := .bool false) (Ex.eql rfl rfl) (congrArg Value.bool (decide_eq_false hk4)) (Wn.none rfl) rfl rfl ?_
    refine WR.step (Ex.move rfl) (Wn.none rfl) rfl rfl ?_
    refine WR.skipG (b := false) rfl rfl rfl rfl rfl ?_
    refine WR.skipG (b := false) rfl rfl rfl rfl rfl ?_
    refine WR.step (Ex.pickF rfl rfl) (Wn.none rfl) rfl rfl ?_
    refine WR.nil ?_
    exact WQ.meetN [(1, _), (5, _), (12, _)] ⟨rfl, rfl, rfl, trivial⟩ ⟨_, _, rfl, H, hs6, e2⟩
  ·
   rintro e w ⟨b3, M, rfl, H, hs6, q7⟩
   obtain rfl := Option.some.inj q7
   refine WQ.then ?_
   refine WC.condB rfl (fun hk8 => ?_) (fun hk8 => ?_)
   ·
    subst hk8
    rw [if_pos rfl] at h
    refine WC.seq ?_
    refine WC.region ?_
    refine WR.step (Ex.assign rfl) (Wn.none rfl) rfl rfl ?_
    refine WR.nil ?_
    refine WQ.then ?_
    refine WC.ret ?_
    (repeat (first | refine WQ.thenRet ?_ | refine WQ.inBlockRet ?_ | refine WQ.cutRet ?_ | refine WQ.scRet ?_))
    obtain rfl := Option.some.inj h
    exact WQ.ret1 rfl rfl H.ext rfl
   ·
    subst hk8
    rw [if_neg Bool.false_ne_true] at h
    refine WC.skip ?_
    refine WQ.then ?_
    refine WC.seq ?_
    obtain ⟨n9, hxn9, h⟩ := bnd h
    obtain ⟨a10, hxa10, h⟩ := bnd h
    refine WC.region ?_
    refine WR.step (Ex.move rfl) (Wn.none rfl) rfl rfl ?_
    refine WR.step (Ex.move rfl) (Wn.none rfl) rfl rfl ?_
    refine WR.step (Ex.subC rfl rfl hxn9) (Wn.none rfl) rfl rfl ?_
    refine WR.idxC Tryz.underlying67 Tryz.sizeOf3 (hs6) rfl rfl hxa10 (Wn.none rfl) rfl ?_
    intro p16 hc16
    refine WR.step (Ex.loadM H rfl hc16 Tryz.isAgg3) (Wn.none rfl) rfl rfl ?_
    refine WR.step (Ex.assign rfl) (Wn.none rfl) rfl rfl ?_
    refine WR.nil ?_
    refine WQ.then ?_
    refine WC.ret ?_
    (repeat (first | refine WQ.thenRet ?_ | refine WQ.inBlockRet ?_ | refine WQ.cutRet ?_ | refine WQ.scRet ?_))
    obtain rfl := Option.some.inj h
    exact WQ.ret1 rfl rfl H.ext rfl
theorem R_At_ct {p0 : Int} {p1 : Int} {r : (Int × Int)} (h : R_At p0 p1 = some r) : Ct Tryz.prog 16 [I p0, I p1] (fun M => True) (fun v M => v = Value.agg #[I r.1, I r.2]) := by
  refine Ct.of Tryz.func16 (enters Tryz.func16 (by kernel_rfl) rfl) rfl rfl rfl ?_
  intro w0 M0 H hp
  unfold R_At at h
  refine WC.seq ?_
  refine WC.region ?_
  refine WR.alloc [_, _] H Tryz.zeroValue26 rfl (Wn.none rfl) rfl ?_
  intro b4 w H
  refine WR.nil ?_
  refine WQ.then ?_
  refine WC.seq ?_
  refine WC.region ?_
  refine WR.step (Ex.move rfl) (Wn.none rfl) rfl rfl ?_
  refine WR.step (Ex.move rfl) (Wn.none rfl) rfl rfl ?_
  refine WR.step (Ex.build [I p0, I p1] Tryz.underlying26 Tryz.zeroValue26 (xplaces26 Tryz.underlying26) rfl rfl) (Wn.none rfl) rfl rfl ?_
  refine WR.store [_, _] H rfl rfl rfl (by repeat (first | exact Upd.head | apply Upd.tail)) Tryz.sizeOf26 rfl (by rfl) (by rfl) (Wn.none rfl) ?_
  intro w H
  refine WR.nil ?_
  refine WQ.then ?_
  refine WC.ret ?_
  (repeat (first | refine WQ.thenRet ?_ | refine WQ.inBlockRet ?_ | refine WQ.cutRet ?_ | refine WQ.scRet ?_))
  obtain rfl := Option.some.inj h
  exact WQ.ret1 rfl ⟨_, rfl, H.loadAgg (by repeat (first | exact List.Mem.head _ | apply List.Mem.tail)) Tryz.isAgg26 Tryz.sizeOf26 (by rfl)⟩ H.ext rfl
theorem R_DateFault_ct {p0 : (Int × Int × Int × Int × Int × Int × Int)} {r : (Int × Int)} (h : R_DateFault p0 = some r) : Ct Tryz.prog 9 [Value.agg #[I p0.1, I p0.2.1, I p0.2.2.1, I p0.2.2.2.1, I p0.2.2.2.2.1, I p0.2.2.2.2.2.1, I p0.2.2.2.2.2.2]] (fun M => True) (fun v M => v = Value.agg #[I r.1, I r.2]) := by
  refine Ct.of Tryz.func9 (enters Tryz.func9 (by kernel_rfl) rfl) rfl rfl rfl ?_
  intro w0 M0 H hp
  unfold R_DateFault at h
  refine WC.seq ?_
  refine WC.region ?_
  refine WR.box [_, _, _, _, _, _, _] H rfl rfl (Wn.none rfl) rfl ?_
  intro b1 w H
  refine WR.alloc [_, _] H Tryz.zeroValue26 rfl (Wn.none rfl) rfl ?_
  intro b2 w H
  refine WR.nil ?_
  refine WQ.then ?_
  refine WC.seq ?_
  refine WC.seq ?_
  obtain ⟨o1, e2, h⟩ := bnd h
  refine WC.cutX (fun e w => ∃ (b3 : Bool) (M : Mem), e = [(2, ptr b2 0), (47, Value.bool b3)] ∧ St w0 M0 M [.blk b2 (.cells #[I 0, I 0] 26)] w ∧ some b3 = some o1) [] ?_ ?_ (trivial)
  ·
   obtain ⟨b4, hx5, e2⟩ := bnd e2
   refine WC.draw (m := 45) rfl rfl H ?_
   intro w H
   refine WA.seq (fuel := 40) [0, 1, 2, 3, 4] rfl (by kernel_rfl) ?_
   refine WR.step (Ex.fieldAddr Tryz.underlying23 rfl Tryz.sizeOf3 (by decide) rfl) (Wn.none rfl) rfl rfl ?_
   refine WR.step (Ex.load1 H rfl (by repeat (first | exact List.Mem.head _ | apply List.Mem.tail)) Tryz.isAgg3 (by rfl)) (Wn.none rfl) rfl rfl ?_
   refine WR.call H (R_In_ct hx5) rfl trivial (Wn.none rfl) rfl ?_
   intro v5 M w H hle hR
   obtain rfl := hR
   refine WR.step (Ex.not rfl) (Wn.none rfl) rfl rfl ?_
   refine WR.step (Ex.move rfl) (Wn.none rfl) rfl rfl ?_
   refine WR.nil (WQ.any ?_)
   rcases b4 with _ | _
   ·
    rw [if_neg Bool.false_ne_true] at e2
    refine WA.seq (fuel := 34) [5, 6, 7, 8, 9, 10] rfl (by kernel_rfl) ?_
    refine WR.skipN 4 rfl rfl ?_
    refine WR.step (Ex.pickT rfl rfl) (Wn.none rfl) rfl rfl ?_
    refine WR.step (Ex.move rfl) (Wn.none rfl) rfl rfl ?_
    refine WR.nil (WQ.any ?_)
    refine WA.takes (fuel := 30) [11, 12, 13, 14] rfl (by kernel_rfl) (by kernel_rfl) rfl ?_
    refine WA.seq (fuel := 0) [15, 16, 17, 18, 19, 20, 21, 22, 23, 24, 25, 26, 27, 28, 29, 30, 31, 32, 33, 34, 35, 36, 37, 38, 39, 40, 41, 42, 43, 44] rfl (by kernel_rfl) ?_
    refine WR.skipN 5 rfl rfl ?_
    refine WR.step (Ex.pickT rfl rfl) (Wn.none rfl) rfl rfl ?_
    refine WR.step (Ex.move rfl) (Wn.none rfl) rfl rfl ?_
    refine WR.skipN 4 rfl rfl ?_
    refine WR.step (Ex.pickT rfl rfl) (Wn.none rfl) rfl rfl ?_
    refine WR.step (Ex.move rfl) (Wn.none rfl) rfl rfl ?_
    refine WR.skipN 4 rfl rfl ?_
    refine WR.step (Ex.pickT rfl rfl) (Wn.none rfl) rfl rfl ?_
    refine WR.step (Ex.move rfl) (Wn.none rfl) rfl rfl ?_
    refine WR.skipN 4 rfl rfl ?_
    refine WR.step (Ex.pickT rfl rfl) (Wn.none rfl) rfl rfl ?_
    refine WR.step (Ex.move rfl) (Wn.none rfl) rfl rfl ?_
    refine WR.skipN 4 rfl rfl ?_
    refine WR.step (Ex.pickT rfl rfl) (Wn.none rfl) rfl rfl ?_
    refine WR.nil (WQ.any ?_)
    refine WA.done (by kernel_rfl) ?_
    exact WQ.meetN [(2, _), (47, _)] ⟨rfl, rfl, trivial⟩ ⟨_, _, rfl, (H.pick (L' := [.blk b2 (.cells #[I 0, I 0] 26)]) (by repeat (first | exact Pick.nil | refine Pick.cons (by repeat (first | exact Rem.head | apply Rem.tail)) ?_))), e2⟩
   ·
    rw [if_pos rfl] at e2
    obtain ⟨b6, hx7, e2⟩ := bnd e2
    refine WA.seq (fuel := 34) [5, 6, 7, 8, 9, 10] rfl (by kernel_rfl) ?_
    refine WR.step (Ex.fieldAddr Tryz.underlying23 rfl Tryz.sizeOf3 (by decide) rfl) (Wn.some rfl rfl rfl) rfl rfl ?_
    refine WR.step (Ex.load1 H rfl (by repeat (first | exact List.Mem.head _ | apply List.Mem.tail)) Tryz.isAgg3 (by rfl)) (Wn.some rfl rfl rfl) rfl rfl ?_
    refine WR.call H (R_In_ct hx7) rfl trivial (Wn.some rfl rfl rfl) rfl ?_
    intro v10 M w H hle hR
    obtain rfl := hR
    refine WR.step (Ex.not rfl) (Wn.some rfl rfl rfl) rfl rfl ?_
    refine WR.step (Ex.pickF rfl rfl) (Wn.none rfl) rfl rfl ?_
    refine WR.step (Ex.move rfl) (Wn.none rfl) rfl rfl ?_
    refine WR.nil (WQ.any ?_)
    rcases b6 with _ | _
    ·
     rw [if_neg Bool.false_ne_true] at e2
     refine WA.takes (fuel := 30) [11, 12, 13, 14] rfl (by kernel_rfl) (by kernel_rfl) rfl ?_
     refine WA.seq (fuel := 0) [15, 16, 17, 18, 19, 20, 21, 22, 23, 24, 25, 26, 27, 28, 29, 30, 31, 32, 33, 34, 35, 36, 37, 38, 39, 40, 41, 42, 43, 44] rfl (by kernel_rfl) ?_
     refine WR.skipN 5 rfl rfl ?_
     refine WR.step (Ex.pickT rfl rfl) (Wn.none rfl) rfl rfl ?_
     refine WR.step (Ex.move rfl) (Wn.none rfl) rfl rfl ?_
     refine WR.skipN 4 rfl rfl ?_
     refine WR.step (Ex.pickT rfl rfl) (Wn.none rfl) rfl rfl ?_
     refine WR.step (Ex.move rfl) (Wn.none rfl) rfl rfl ?_
     refine WR.skipN 4 rfl rfl ?_
     refine WR.step (Ex.pickT rfl rfl) (Wn.none rfl) rfl rfl ?_
     refine WR.step (Ex.move rfl) (Wn.none rfl) rfl rfl ?_
     refine WR.skipN 4 rfl rfl ?_
     refine WR.step (Ex.pickT rfl rfl) (Wn.none rfl) rfl rfl ?_
     refine WR.step (Ex.move rfl) (Wn.none rfl) rfl rfl ?_
     refine WR.skipN 4 rfl rfl ?_
     refine WR.step (Ex.pickT rfl rfl) (Wn.none rfl) rfl rfl ?_
     refine WR.nil (WQ.any ?_)
     refine WA.done (by kernel_rfl) ?_
     exact WQ.meetN [(2, _), (47, _)] ⟨rfl, rfl, trivial⟩ ⟨_, _, rfl, (H.pick (L' := [.blk b2 (.cells #[I 0, I 0] 26)]) (by repeat (first | exact Pick.nil | refine Pick.cons (by repeat (first | exact Rem.head | apply Rem.tail)) ?_))), e2⟩
    ·
     rw [if_pos rfl] at e2
     obtain ⟨n8, hx9, e2⟩ := bnd e2
     obtain ⟨b10, hx11, e2⟩ := bnd e2
     refine WA.take (i := 11) rfl (by kernel_rfl) (by kernel_rfl) (by kernel_rfl) (fun _ => Ex.fieldAddr Tryz.underlying23 rfl Tryz.sizeOf3 (by decide) rfl) (Wn.some rfl rfl rfl) rfl rfl (fun _ _ => rfl) ?_
     refine WA.take (i := 13) rfl (by kernel_rfl) (by kernel_rfl) (by kernel_rfl) (fun _ => Ex.fieldAddr Tryz.underlying23 rfl Tryz.sizeOf3 (by decide) rfl) (Wn.some rfl rfl rfl) rfl rfl (fun _ _ => rfl) ?_
     refine WA.take (i := 15) rfl (by kernel_rfl) (by kernel_rfl) (by kernel_rfl) (fun _ => Ex.fieldAddr Tryz.underlying23 rfl Tryz.sizeOf3 (by decide) rfl) (Wn.some rfl rfl rfl) rfl rfl (fun _ _ => rfl) ?_
     refine WA.takeM (i := 14) [12, 16] rfl (by kernel_rfl) (by kernel_rfl) (by kernel_rfl) (Ex.load1 H rfl (by repeat (first | exact List.Mem.head _ | apply List.Mem.tail)) Tryz.isAgg3 (by rfl)) (Wn.some rfl rfl rfl) rfl rfl (fun _ _ => rfl) ?_
     refine WA.takeM (i := 16) [12] rfl (by kernel_rfl) (by kernel_rfl) (by kernel_rfl) (Ex.load1 H rfl (by repeat (first | exact List.Mem.head _ | apply List.Mem.tail)) Tryz.isAgg3 (by rfl)) (Wn.some rfl rfl rfl) rfl rfl (fun _ _ => rfl) ?_
     rcases b10 with _ | _
     ·
      rw [if_neg Bool.false_ne_true] at e2
      refine WA.two (i := 12) (j := 17) (by kernel_rfl) rfl rfl ?_ ?_
      ·
       refine WR.step (Ex.load1 H rfl (by repeat (first | exact List.Mem.head _ | apply List.Mem.tail)) Tryz.isAgg3 (by rfl)) (Wn.some rfl rfl rfl) rfl rfl ?_
       refine WR.nil (WQ.any ?_)
       refine WA.seq (fuel := 0) [17, 18, 19, 20, 21, 22, 23, 24, 25, 26, 27, 28, 29, 30, 31, 32, 33, 34, 35, 36, 37, 38, 39, 40, 41, 42, 43, 44] rfl (by kernel_rfl) ?_
       refine WR.call H (R_MonthDays_ct hx9) rfl trivial (Wn.some rfl rfl rfl) rfl ?_
       intro v20 M w H hle hR
       obtain rfl := hR
       refine WR.call H (R_In_ct hx11) rfl trivial (Wn.some rfl rfl rfl) rfl ?_
       intro v21 M w H hle hR
       obtain rfl := hR
       refine WR.step (Ex.not rfl) (Wn.some rfl rfl rfl) rfl rfl ?_
       refine WR.step (Ex.pickF rfl rfl) (Wn.none rfl) rfl rfl ?_
       refine WR.step (Ex.move rfl) (Wn.none rfl) rfl rfl ?_
       refine WR.skipN 4 rfl rfl ?_
       refine WR.step (Ex.pickT rfl rfl) (Wn.none rfl) rfl rfl ?_
       refine WR.step (Ex.move rfl) (Wn.none rfl) rfl rfl ?_
       refine WR.skipN 4 rfl rfl ?_
       refine WR.step (Ex.pickT rfl rfl) (Wn.none rfl) rfl rfl ?_
       refine WR.step (Ex.move rfl) (Wn.none rfl) rfl rfl ?_
       refine WR.skipN 4 rfl rfl ?_
       refine WR.step (Ex.pickT rfl rfl) (Wn.none rfl) rfl rfl ?_
       refine WR.step (Ex.move rfl) (Wn.none rfl) rfl rfl ?_
       refine WR.skipN 4 rfl rfl ?_
       refine WR.step (Ex.pickT rfl rfl) (Wn.none rfl) rfl rfl ?_
       refine WR.nil (WQ.any ?_)
       refine WA.done (by kernel_rfl) ?_
       exact WQ.meetN [(2, _), (47, _)] ⟨rfl, rfl, trivial⟩ ⟨_, _, rfl, (H.pick (L' := [.blk b2 (.cells #[I 0, I 0] 26)]) (by repeat (first | exact Pick.nil | refine Pick.cons (by repeat (first | exact Rem.head | apply Rem.tail)) ?_))), e2⟩
      ·
       refine WR.call H (R_MonthDays_ct hx9) rfl trivial (Wn.some rfl rfl rfl) rfl ?_
       intro v20 M w H hle hR
       obtain rfl := hR
       refine WR.nil (WQ.any ?_)
       refine WA.seq (fuel := 0) [12, 18, 19, 20, 21, 22, 23, 24, 25, 26, 27, 28, 29, 30, 31, 32, 33, 34, 35, 36, 37, 38, 39, 40, 41, 42, 43, 44] rfl (by kernel_rfl) ?_
       refine WR.step (Ex.load1 H rfl (by repeat (first | exact List.Mem.head _ | apply List.Mem.tail)) Tryz.isAgg3 (by rfl)) (Wn.some rfl rfl rfl) rfl rfl ?_
       refine WR.call H (R_In_ct hx11) rfl trivial (Wn.some rfl rfl rfl) rfl ?_
       intro v21 M w H hle hR
       obtain rfl := hR
       refine WR.step (Ex.not rfl) (Wn.some rfl rfl rfl) rfl rfl ?_
       refine WR.step (Ex.pickF rfl rfl) (Wn.none rfl) rfl rfl ?_
       refine WR.step (Ex.move rfl) (Wn.none rfl) rfl rfl ?_
       refine WR.skipN 4 rfl rfl ?_
       refine WR.step (Ex.pickT rfl rfl) (Wn.none rfl) rfl rfl ?_
       refine WR.step (Ex.move rfl) (Wn.none rfl) rfl rfl ?_
       refine WR.skipN 4 rfl rfl ?_
       refine WR.step (Ex.pickT rfl rfl) (Wn.none rfl) rfl rfl ?_
       refine WR.step (Ex.move rfl) (Wn.none rfl) rfl rfl ?_
       refine WR.skipN 4 rfl rfl ?_
       refine WR.step (Ex.pickT rfl rfl) (Wn.none rfl) rfl rfl ?_
       refine WR.step (Ex.move rfl) (Wn.none rfl) rfl rfl ?_
       refine WR.skipN 4 rfl rfl ?_
       refine WR.step (Ex.pickT rfl rfl) (Wn.none rfl) rfl rfl ?_
       refine WR.nil (WQ.any ?_)
       refine WA.done (by kernel_rfl) ?_
       exact WQ.meetN [(2, _), (47, _)] ⟨rfl, rfl, trivial⟩ ⟨_, _, rfl, (H.pick (L' := [.blk b2 (.cells #[I 0, I 0] 26)]) (by repeat (first | exact Pick.nil | refine Pick.cons (by repeat (first | exact Rem.head | apply Rem.tail)) ?_))), e2⟩
     ·
      rw [if_pos rfl] at e2
      obtain ⟨b12, hx13, e2⟩ := bnd e2
      rcases b12 with _ | _
      ·
       rw [if_neg Bool.false_ne_true] at e2
       refine WA.two (i := 12) (j := 17) (by kernel_rfl) rfl rfl ?_ ?_
       ·
        refine WR.step (Ex.load1 H rfl (by repeat (first | exact List.Mem.head _ | apply List.Mem.tail)) Tryz.isAgg3 (by rfl)) (Wn.some rfl rfl rfl) rfl rfl ?_
        refine WR.nil (WQ.any ?_)
        refine WA.seq (fuel := 0) [17, 18, 19, 20, 21, 22, 23, 24, 25, 26, 27, 28, 29, 30, 31, 32, 33, 34, 35, 36, 37, 38, 39, 40, 41, 42, 43, 44] rfl (by kernel_rfl) ?_
        refine WR.call H (R_MonthDays_ct hx9) rfl trivial (Wn.some rfl rfl rfl) rfl ?_
        intro v20 M w H hle hR
        obtain rfl := hR
        refine WR.call H (R_In_ct hx11) rfl trivial (Wn.some rfl rfl rfl) rfl ?_
        intro v21 M w H hle hR
        obtain rfl := hR
        refine WR.step (Ex.not rfl) (Wn.some rfl rfl rfl) rfl rfl ?_
        refine WR.step (Ex.pickF rfl rfl) (Wn.none rfl) rfl rfl ?_
        refine WR.step (Ex.move rfl) (Wn.none rfl) rfl rfl ?_
        refine WR.step (Ex.fieldAddr Tryz.underlying23 rfl Tryz.sizeOf3 (by decide) rfl) (Wn.some rfl rfl rfl) rfl rfl ?_
        refine WR.step (Ex.load1 H rfl (by repeat (first | exact List.Mem.head _ | apply List.Mem.tail)) Tryz.isAgg3 (by rfl)) (Wn.some rfl rfl rfl) rfl rfl ?_
        refine WR.call H (R_In_ct hx13) rfl trivial (Wn.some rfl rfl rfl) rfl ?_
        intro v27 M w H hle hR
        obtain rfl := hR
        refine WR.step (Ex.not rfl) (Wn.some rfl rfl rfl) rfl rfl ?_
        refine WR.step (Ex.pickF rfl rfl) (Wn.none rfl) rfl rfl ?_
        refine WR.step (Ex.move rfl) (Wn.none rfl) rfl rfl ?_
        refine WR.skipN 4 rfl rfl ?_
        refine WR.step (Ex.pickT rfl rfl) (Wn.none rfl) rfl rfl ?_
        refine WR.step (Ex.move rfl) (Wn.none rfl) rfl rfl ?_
        refine WR.skipN 4 rfl rfl ?_
        refine WR.step (Ex.pickT rfl rfl) (Wn.none rfl) rfl rfl ?_
        refine WR.step (Ex.move rfl) (Wn.none rfl) rfl rfl ?_
        refine WR.skipN 4 rfl rfl ?_
        refine WR.step (Ex.pickT rfl rfl) (Wn.none rfl) rfl rfl ?_
        refine WR.nil (WQ.any ?_)
        refine WA.done (by kernel_rfl) ?_
        exact WQ.meetN [(2, _), (47, _)] ⟨rfl, rfl, trivial⟩ ⟨_, _, rfl, (H.pick (L' := [.blk b2 (.cells #[I 0, I 0] 26)]) (by repeat (first | exact Pick.nil | refine Pick.cons (by repeat (first | exact Rem.head | apply Rem.tail)) ?_))), e2⟩
       ·
        refine WR.call H (R_MonthDays_ct hx9) rfl trivial (Wn.some rfl rfl rfl) rfl ?_
        intro v20 M w H hle hR
        obtain rfl := hR
        refine WR.nil (WQ.any ?_)
        refine WA.seq (fuel := 0) [12, 18, 19, 20, 21, 22, 23, 24, 25, 26, 27, 28, 29, 30, 31, 32, 33, 34, 35, 36, 37, 38, 39, 40, 41, 42, 43, 44] rfl (by kernel_rfl) ?_
        refine WR.step (Ex.load1 H rfl (by repeat (first | exact List.Mem.head _ | apply List.Mem.tail)) Tryz.isAgg3 (by rfl)) (Wn.some rfl rfl rfl) rfl rfl ?_
        refine WR.call H (R_In_ct hx11) rfl trivial (Wn.some rfl rfl rfl) rfl ?_
        intro v21 M w H hle hR
        obtain rfl := hR
        refine WR.step (Ex.not rfl) (Wn.some rfl rfl rfl) rfl rfl ?_
        refine WR.step (Ex.pickF rfl rfl) (Wn.none rfl) rfl rfl ?_
        refine WR.step (Ex.move rfl) (Wn.none rfl) rfl rfl ?_
        refine WR.step (Ex.fieldAddr Tryz.underlying23 rfl Tryz.sizeOf3 (by decide) rfl) (Wn.some rfl rfl rfl) rfl rfl ?_
        refine WR.step (Ex.load1 H rfl (by repeat (first | exact List.Mem.head _ | apply List.Mem.tail)) Tryz.isAgg3 (by rfl)) (Wn.some rfl rfl rfl) rfl rfl ?_
        refine WR.call H (R_In_ct hx13) rfl trivial (Wn.some rfl rfl rfl) rfl ?_
        intro v27 M w H hle hR
        obtain rfl := hR
        refine WR.step (Ex.not rfl) (Wn.some rfl rfl rfl) rfl rfl ?_
        refine WR.step (Ex.pickF rfl rfl) (Wn.none rfl) rfl rfl ?_
        refine WR.step (Ex.move rfl) (Wn.none rfl) rfl rfl ?_
        refine WR.skipN 4 rfl rfl ?_
        refine WR.step (Ex.pickT rfl rfl) (Wn.none rfl) rfl rfl ?_
        refine WR.step (Ex.move rfl) (Wn.none rfl) rfl rfl ?_
        refine WR.skipN 4 rfl rfl ?_
        refine WR.step (Ex.pickT rfl rfl) (Wn.none rfl) rfl rfl ?_
        refine WR.step (Ex.move rfl) (Wn.none rfl) rfl rfl ?_
        refine WR.skipN 4 rfl rfl ?_
        refine WR.step (Ex.pickT rfl rfl) (Wn.none rfl) rfl rfl ?_
        refine WR.nil (WQ.any ?_)
        refine WA.done (by kernel_rfl) ?_
        exact WQ.meetN [(2, _), (47, _)] ⟨rfl, rfl, trivial⟩ ⟨_, _, rfl, (H.pick (L' := [.blk b2 (.cells #[I 0, I 0] 26)]) (by repeat (first | exact Pick.nil | refine Pick.cons (by repeat (first | exact Rem.head | apply Rem.tail)) ?_))), e2⟩
      ·
       rw [if_pos rfl] at e2
       obtain ⟨b14, hx15, e2⟩ := bnd e2
       rcases b14 with _ | _
       ·
        rw [if_neg Bool.false_ne_true] at e2
        refine WA.two (i := 12) (j := 17) (by kernel_rfl) rfl rfl ?_ ?_
        ·
         refine WR.step (Ex.load1 H rfl (by repeat (first | exact List.Mem.head _ | apply List.Mem.tail)) Tryz.isAgg3 (by rfl)) (Wn.some rfl rfl rfl) rfl rfl ?_
         refine WR.nil (WQ.any ?_)
         refine WA.seq (fuel := 0) [17, 18, 19, 20, 21, 22, 23, 24, 25, 26, 27, 28, 29, 30, 31, 32, 33, 34, 35, 36, 37, 38, 39, 40, 41, 42, 43, 44] rfl (by kernel_rfl) ?_
         refine WR.call H (R_MonthDays_ct hx9) rfl trivial (Wn.some rfl rfl rfl) rfl ?_
         intro v20 M w H hle hR
         obtain rfl := hR
         refine WR.call H (R_In_ct hx11) rfl trivial (Wn.some rfl rfl rfl) rfl ?_
         intro v21 M w H hle hR
         obtain rfl := hR
         refine WR.step (Ex.not rfl) (Wn.some rfl rfl rfl) rfl rfl ?_
         refine WR.step (Ex.pickF rfl rfl) (Wn.none rfl) rfl rfl ?_
         refine WR.step (Ex.move rfl) (Wn.none rfl) rfl rfl ?_
         refine WR.step (Ex.fieldAddr Tryz.underlying23 rfl Tryz.sizeOf3 (by decide) rfl) (Wn.some rfl rfl rfl) rfl rfl ?_
         refine WR.step (Ex.load1 H rfl (by repeat (first | exact List.Mem.head _ | apply List.Mem.tail)) Tryz.isAgg3 (by rfl)) (Wn.some rfl rfl rfl) rfl rfl ?_
         refine WR.call H (R_In_ct hx13) rfl trivial (Wn.some rfl rfl rfl) rfl ?_
         intro v27 M w H hle hR
         obtain rfl := hR
         refine WR.step (Ex.not rfl) (Wn.some rfl rfl rfl) rfl rfl ?_
         refine WR.step (Ex.pickF rfl rfl) (Wn.none rfl) rfl rfl ?_
         refine WR.step (Ex.move rfl) (Wn.none rfl) rfl rfl ?_
         refine WR.step (Ex.fieldAddr Tryz.underlying23 rfl Tryz.sizeOf3 (by decide) rfl) (Wn.some rfl rfl rfl) rfl rfl ?_
         refine WR.step (Ex.load1 H rfl (by repeat (first | exact List.Mem.head _ | apply List.Mem.tail)) Tryz.isAgg3 (by rfl)) (Wn.some rfl rfl rfl) rfl rfl ?_
         refine WR.call H (R_In_ct hx15) rfl trivial (Wn.some rfl rfl rfl) rfl ?_
         intro v33 M w H hle hR
         obtain rfl := hR
         refine WR.step (Ex.not rfl) (Wn.some rfl rfl rfl) rfl rfl ?_
         refine WR.step (Ex.pickF rfl rfl) (Wn.none rfl) rfl rfl ?_
         refine WR.step (Ex.move rfl) (Wn.none rfl) rfl rfl ?_
         refine WR.skipN 4 rfl rfl ?_
         refine WR.step (Ex.pickT rfl rfl) (Wn.none rfl) rfl rfl ?_
         refine WR.step (Ex.move rfl) (Wn.none rfl) rfl rfl ?_
         refine WR.skipN 4 rfl rfl ?_
         refine WR.step (Ex.pickT rfl rfl) (Wn.none rfl) rfl rfl ?_
         refine WR.nil (WQ.any ?_)
         refine WA.done (by kernel_rfl) ?_
         exact WQ.meetN [(2, _), (47, _)] ⟨rfl, rfl, trivial⟩ ⟨_, _, rfl, (H.pick (L' := [.blk b2 (.cells #[I 0, I 0] 26)]) (by repeat (first | exact Pick.nil | refine Pick.cons (by repeat (first | exact Rem.head | apply Rem.tail)) ?_))), e2⟩
        ·
         refine WR.call H (R_MonthDays_ct hx9) rfl trivial (Wn.some rfl rfl rfl) rfl ?_
         intro v20 M w H hle hR
         obtain rfl := hR
         refine WR.nil (WQ.any ?_)
         refine WA.seq (fuel := 0) [12, 18, 19, 20, 21, 22, 23, 24, 25, 26, 27, 28, 29, 30, 31, 32, 33, 34, 35, 36, 37, 38, 39, 40, 41, 42, 43, 44] rfl (by kernel_rfl) ?_
         refine WR.step (Ex.load1 H rfl (by repeat (first | exact List.Mem.head _ | apply List.Mem.tail)) Tryz.isAgg3 (by rfl)) (Wn.some rfl rfl rfl) rfl rfl ?_
         refine WR.call H (R_In_ct hx11) rfl trivial (Wn.some rfl rfl rfl) rfl ?_
         intro v21 M w H hle hR
         obtain rfl := hR
         refine WR.step (Ex.not rfl) (Wn.some rfl rfl rfl) rfl rfl ?_
         refine WR.step (Ex.pickF rfl rfl) (Wn.none rfl) rfl rfl ?_
         refine WR.step (Ex.move rfl) (Wn.none rfl) rfl rfl ?_
         refine WR.step (Ex.fieldAddr Tryz.underlying23 rfl Tryz.sizeOf3 (by decide) rfl) (Wn.some rfl rfl rfl) rfl rfl ?_
         refine WR.step (Ex.load1 H rfl (by repeat (first | exact List.Mem.head _ | apply List.Mem.tail)) Tryz.isAgg3 (by rfl)) (Wn.some rfl rfl rfl) rfl rfl ?_
         refine WR.call H (R_In_ct hx13) rfl trivial (Wn.some rfl rfl rfl) rfl ?_
         intro v27 M w H hle hR
         obtain rfl := hR
         refine WR.step (Ex.not rfl) (Wn.some rfl rfl rfl) rfl rfl ?_
         refine WR.step (Ex.pickF rfl rfl) (Wn.none rfl) rfl rfl ?_
         refine WR.step (Ex.move rfl) (Wn.none rfl) rfl rfl ?_
         refine WR.step (Ex.fieldAddr Tryz.underlying23 rfl Tryz.sizeOf3 (by decide) rfl) (Wn.some rfl rfl rfl) rfl rfl ?_
         refine WR.step (Ex.load1 H rfl (by repeat (first | exact List.Mem.head _ | apply List.Mem.tail)) Tryz.isAgg3 (by rfl)) (Wn.some rfl rfl rfl) rfl rfl ?_
         refine WR.call H (R_In_ct hx15) rfl trivial (Wn.some rfl rfl rfl) rfl ?_
         intro v33 M w H hle hR
         obtain rfl := hR
         refine WR.step (Ex.not rfl) (Wn.some rfl rfl rfl) rfl rfl ?_
         refine WR.step (Ex.pickF rfl rfl) (Wn.none rfl) rfl rfl ?_
         refine WR.step (Ex.move rfl) (Wn.none rfl) rfl rfl ?_
         refine WR.skipN 4 rfl rfl ?_
         refine WR.step (Ex.pickT rfl rfl) (Wn.none rfl) rfl rfl ?_
         refine WR.step (Ex.move rfl) (Wn.none rfl) rfl rfl ?_
         refine WR.skipN 4 rfl rfl ?_
         refine WR.step (Ex.pickT rfl rfl) (Wn.none rfl) rfl rfl ?_
         refine WR.nil (WQ.any ?_)
         refine WA.done (by kernel_rfl) ?_
         exact WQ.meetN [(2, _), (47, _)] ⟨rfl, rfl, trivial⟩ ⟨_, _, rfl, (H.pick (L' := [.blk b2 (.cells #[I 0, I 0] 26)]) (by repeat (first | exact Pick.nil | refine Pick.cons (by repeat (first | exact Rem.head | apply Rem.tail)) ?_))), e2⟩
       ·
        rw [if_pos rfl] at e2
        obtain ⟨b16, hx17, e2⟩ := bnd e2
        rcases b16 with _ | _
        ·
         rw [if_neg Bool.false_ne_true] at e2
         refine WA.two (i := 12) (j := 17) (by kernel_rfl) rfl rfl ?_ ?_
         ·
          refine WR.step (Ex.load1 H rfl (by repeat (first | exact List.Mem.head _ | apply List.Mem.tail)) Tryz.isAgg3 (by rfl)) (Wn.some rfl rfl rfl) rfl rfl ?_
          refine WR.nil (WQ.any ?_)
          refine WA.seq (fuel := 0) [17, 18, 19, 20, 21, 22, 23, 24, 25, 26, 27, 28, 29, 30, 31, 32, 33, 34, 35, 36, 37, 38, 39, 40, 41, 42, 43, 44] rfl (by kernel_rfl) ?_
          refine WR.call H (R_MonthDays_ct hx9) rfl trivial (Wn.some rfl rfl rfl) rfl ?_
          intro v20 M w H hle hR
          obtain rfl := hR
          refine WR.call H (R_In_ct hx11) rfl trivial (Wn.some rfl rfl rfl) rfl ?_
          intro v21 M w H hle hR
          obtain rfl := hR
          refine WR.step (Ex.not rfl) (Wn.some rfl rfl rfl) rfl rfl ?_
          refine WR.step (Ex.pickF rfl rfl) (Wn.none rfl) rfl rfl ?_
          refine WR.step (Ex.move rfl) (Wn.none rfl) rfl rfl ?_
          refine WR.step (Ex.fieldAddr Tryz.underlying23 rfl Tryz.sizeOf3 (by decide) rfl) (Wn.some rfl rfl rfl) rfl rfl ?_
          refine WR.step (Ex.load1 H rfl (by repeat (first | exact List.Mem.head _ | apply List.Mem.tail)) Tryz.isAgg3 (by rfl)) (Wn.some rfl rfl rfl) rfl rfl ?_
          refine WR.call H (R_In_ct hx13) rfl trivial (Wn.some rfl rfl rfl) rfl ?_
          intro v27 M w H hle hR
          obtain rfl := hR
          refine WR.step (Ex.not rfl) (Wn.some rfl rfl rfl) rfl rfl ?_
          refine WR.step (Ex.pickF rfl rfl) (Wn.none rfl) rfl rfl ?_
          refine WR.step (Ex.move rfl) (Wn.none rfl) rfl rfl ?_
          refine WR.step (Ex.fieldAddr Tryz.underlying23 rfl Tryz.sizeOf3 (by decide) rfl) (Wn.some rfl rfl rfl) rfl rfl ?_
          refine WR.step (Ex.load1 H rfl (by repeat (first | exact List.Mem.head _ | apply List.Mem.tail)) Tryz.isAgg3 (by rfl)) (Wn.some rfl rfl rfl) rfl rfl ?_
          refine WR.call H (R_In_ct hx15) rfl trivial (Wn.some rfl rfl rfl) rfl ?_
          intro v33 M w H hle hR
          obtain rfl := hR
          refine WR.step (Ex.not rfl) (Wn.some rfl rfl rfl) rfl rfl ?_
          refine WR.step (Ex.pickF rfl rfl) (Wn.none rfl) rfl rfl ?_
          refine WR.step (Ex.move rfl) (Wn.none rfl) rfl rfl ?_
          refine WR.step (Ex.fieldAddr Tryz.underlying23 rfl Tryz.sizeOf3 (by decide) rfl) (Wn.some rfl rfl rfl) rfl rfl ?_
          refine WR.step (Ex.load1 H rfl (by repeat (first | exact List.Mem.head _ | apply List.Mem.tail)) Tryz.isAgg3 (by rfl)) (Wn.some rfl rfl rfl) rfl rfl ?_
          refine WR.call H (R_In_ct hx17) rfl trivial (Wn.some rfl rfl rfl) rfl ?_
          intro v39 M w H hle hR
          obtain rfl := hR
          refine WR.step (Ex.not rfl) (Wn.some rfl rfl rfl) rfl rfl ?_
          refine WR.step (Ex.pickF rfl rfl) (Wn.none rfl) rfl rfl ?_
          refine WR.step (Ex.move rfl) (Wn.none rfl) rfl rfl ?_
          refine WR.skipN 4 rfl rfl ?_
          refine WR.step (Ex.pickT rfl rfl) (Wn.none rfl) rfl rfl ?_
          refine WR.nil (WQ.any ?_)
          refine WA.done (by kernel_rfl) ?_
          exact WQ.meetN [(2, _), (47, _)] ⟨rfl, rfl, trivial⟩ ⟨_, _, rfl, (H.pick (L' := [.blk b2 (.cells #[I 0, I 0] 26)]) (by repeat (first | exact Pick.nil | refine Pick.cons (by repeat (first | exact Rem.head | apply Rem.tail)) ?_))), e2⟩
         ·
          refine WR.call H (R_MonthDays_ct hx9) rfl trivial (Wn.some rfl rfl rfl) rfl ?_
          intro v20 M w H hle hR
          obtain rfl := hR
          refine WR.nil (WQ.any ?_)
          refine WA.seq (fuel := 0) [12, 18, 19, 20, 21, 22, 23, 24, 25, 26, 27, 28, 29, 30, 31, 32, 33, 34, 35, 36, 37, 38, 39, 40, 41, 42, 43, 44] rfl (by kernel_rfl) ?_
          refine WR.step (Ex.load1 H rfl (by repeat (first | exact List.Mem.head _ | apply List.Mem.tail)) Tryz.isAgg3 (by rfl)) (Wn.some rfl rfl rfl) rfl rfl ?_
          refine WR.call H (R_In_ct hx11) rfl trivial (Wn.some rfl rfl rfl) rfl ?_
          intro v21 M w H hle hR
          obtain rfl := hR
          refine WR.step (Ex.not rfl) (Wn.some rfl rfl rfl) rfl rfl ?_
          refine WR.step (Ex.pickF rfl rfl) (Wn.none rfl) rfl rfl ?_
          refine WR.step (Ex.move rfl) (Wn.none rfl) rfl rfl ?_
          refine WR.step (Ex.fieldAddr Tryz.underlying23 rfl Tryz.sizeOf3 (by decide) rfl) (Wn.some rfl rfl rfl) rfl rfl ?_
          refine WR.step (Ex.load1 H rfl (by repeat (first | exact List.Mem.head _ | apply List.Mem.tail)) Tryz.isAgg3 (by rfl)) (Wn.some rfl rfl rfl) rfl rfl ?_
          refine WR.call H (R_In_ct hx13) rfl trivial (Wn.some rfl rfl rfl) rfl ?_
          intro v27 M w H hle hR
          obtain rfl := hR
          refine WR.step (Ex.not rfl) (Wn.some rfl rfl rfl) rfl rfl ?_
          refine WR.step (Ex.pickF rfl rfl) (Wn.none rfl) rfl rfl ?_
          refine WR.step (Ex.move rfl) (Wn.none rfl) rfl rfl ?_
          refine WR.step (Ex.fieldAddr Tryz.underlying23 rfl Tryz.sizeOf3 (by decide) rfl) (Wn.some rfl rfl rfl) rfl rfl ?_
          refine WR.step (Ex.load1 H rfl (by repeat (first | exact List.Mem.head _ | apply List.Mem.tail)) Tryz.isAgg3 (by rfl)) (Wn.some rfl rfl rfl) rfl rfl ?_
          refine WR.call H (R_In_ct hx15) rfl trivial (Wn.some rfl rfl rfl) rfl ?_
          intro v33 M w H hle hR
          obtain rfl := hR
          refine WR.step (Ex.not rfl) (Wn.some rfl rfl rfl) rfl rfl ?_
          refine WR.step (Ex.pickF rfl rfl) (Wn.none rfl) rfl rfl ?_
          refine WR.step (Ex.move rfl) (Wn.none rfl) rfl rfl ?_
          refine WR.step (Ex.fieldAddr Tryz.underlying23 rfl Tryz.sizeOf3 (by decide) rfl) (Wn.some rfl rfl rfl) rfl rfl ?_
          refine WR.step (Ex.load1 H rfl (by repeat (first | exact List.Mem.head _ | apply List.Mem.tail)) Tryz.isAgg3 (by rfl)) (Wn.some rfl rfl rfl) rfl rfl ?_
          refine WR.call H (R_In_ct hx17) rfl trivial (Wn.some rfl rfl rfl) rfl ?_
          intro v39 M w H hle hR
          obtain rfl := hR
          refine WR.step (Ex.not rfl) (Wn.some rfl rfl rfl) rfl rfl ?_
          refine WR.step (Ex.pickF rfl rfl) (Wn.none rfl) rfl rfl ?_
          refine WR.step (Ex.move rfl) (Wn.none rfl) rfl rfl ?_
          refine WR.skipN 4 rfl rfl ?_
          refine WR.step (Ex.pickT rfl rfl) (Wn.none rfl) rfl rfl ?_
          refine WR.nil (WQ.any ?_)
          refine WA.done (by kernel_rfl) ?_
          exact WQ.meetN [(2, _), (47, _)] ⟨rfl, rfl, trivial⟩ ⟨_, _, rfl, (H.pick (L' := [.blk b2 (.cells #[I 0, I 0] 26)]) (by repeat (first | exact Pick.nil | refine Pick.cons (by repeat (first | exact Rem.head | apply Rem.tail)) ?_))), e2⟩
        ·
         rw [if_pos rfl] at e2
         obtain ⟨b18, hx19, e2⟩ := bnd e2
         refine WA.two (i := 12) (j := 17) (by kernel_rfl) rfl rfl ?_ ?_
         ·
          refine WR.step (Ex.load1 H rfl (by repeat (first | exact List.Mem.head _ | apply List.Mem.tail)) Tryz.isAgg3 (by rfl)) (Wn.some rfl rfl rfl) rfl rfl ?_
          refine WR.nil (WQ.any ?_)
          refine WA.seq (fuel := 0) [17, 18, 19, 20, 21, 22, 23, 24, 25, 26, 27, 28, 29, 30, 31, 32, 33, 34, 35, 36, 37, 38, 39, 40, 41, 42, 43, 44] rfl (by kernel_rfl) ?_
          refine WR.call H (R_MonthDays_ct hx9) rfl trivial (Wn.some rfl rfl rfl) rfl ?_
          intro v20 M w H hle hR
          obtain rfl := hR
          refine WR.call H (R_In_ct hx11) rfl trivial (Wn.some rfl rfl rfl) rfl ?_
          intro v21 M w H hle hR
          obtain rfl := hR
          refine WR.step (Ex.not rfl) (Wn.some rfl rfl rfl) rfl rfl ?_
          refine WR.step (Ex.pickF rfl rfl) (Wn.none rfl) rfl rfl ?_
          refine WR.step (Ex.move rfl) (Wn.none rfl) rfl rfl ?_
          refine WR.step (Ex.fieldAddr Tryz.underlying23 rfl Tryz.sizeOf3 (by decide) rfl) (Wn.some rfl rfl rfl) rfl rfl ?_
          refine WR.step (Ex.load1 H rfl (by repeat (first | exact List.Mem.head _ | apply List.Mem.tail)) Tryz.isAgg3 (by rfl)) (Wn.some rfl rfl rfl) rfl rfl ?_
          refine WR.call H (R_In_ct hx13) rfl trivial (Wn.some rfl rfl rfl) rfl ?_
          intro v27 M w H hle hR
          obtain rfl := hR
          refine WR.step (Ex.not rfl) (Wn.some rfl rfl rfl) rfl rfl ?_
          refine WR.step (Ex.pickF rfl rfl) (Wn.none rfl) rfl rfl ?_
          refine WR.step (Ex.move rfl) (Wn.none rfl) rfl rfl ?_
          refine WR.step (Ex.fieldAddr Tryz.underlying23 rfl Tryz.sizeOf3 (by decide) rfl) (Wn.some rfl rfl rfl) rfl rfl ?_
          refine WR.step (Ex.load1 H rfl (by repeat (first | exact List.Mem.head _ | apply List.Mem.tail)) Tryz.isAgg3 (by rfl)) (Wn.some rfl rfl rfl) rfl rfl ?_
          refine WR.call H (R_In_ct hx15) rfl trivial (Wn.some rfl rfl rfl) rfl ?_
          intro v33 M w H hle hR
          obtain rfl := hR
          refine WR.step (Ex.not rfl) (Wn.some rfl rfl rfl) rfl rfl ?_
          refine WR.step (Ex.pickF rfl rfl) (Wn.none rfl) rfl rfl ?_
          refine WR.step (Ex.move rfl) (Wn.none rfl) rfl rfl ?_
          refine WR.step (Ex.fieldAddr Tryz.underlying23 rfl Tryz.sizeOf3 (by decide) rfl) (Wn.some rfl rfl rfl) rfl rfl ?_
          refine WR.step (Ex.load1 H rfl (by repeat (first | exact List.Mem.head _ | apply List.Mem.tail)) Tryz.isAgg3 (by rfl)) (Wn.some rfl rfl rfl) rfl rfl ?_
          refine WR.call H (R_In_ct hx17) rfl trivial (Wn.some rfl rfl rfl) rfl ?_
          intro v39 M w H hle hR
          obtain rfl := hR
          refine WR.step (Ex.not rfl) (Wn.some rfl rfl rfl) rfl rfl ?_
          refine WR.step (Ex.pickF rfl rfl) (Wn.none rfl) rfl rfl ?_
          refine WR.step (Ex.move rfl) (Wn.none rfl) rfl rfl ?_
          refine WR.step (Ex.fieldAddr Tryz.underlying23 rfl Tryz.sizeOf3 (by decide) rfl) (Wn.some rfl rfl rfl) rfl rfl ?_
          refine WR.step (Ex.load1 H rfl (by repeat (first | exact List.Mem.head _ | apply List.Mem.tail)) Tryz.isAgg3 (by rfl)) (Wn.some rfl rfl rfl) rfl rfl ?_
          refine WR.call H (R_In_ct hx19) rfl trivial (Wn.some rfl rfl rfl) rfl ?_
          intro v45 M w H hle hR
          obtain rfl := hR
          refine WR.step (Ex.not rfl) (Wn.some rfl rfl rfl) rfl rfl ?_
          refine WR.step (Ex.pickF rfl rfl) (Wn.none rfl) rfl rfl ?_
          refine WR.nil (WQ.any ?_)
          refine WA.done (by kernel_rfl) ?_
          exact WQ.meetN [(2, _), (47, _)] ⟨rfl, rfl, trivial⟩ ⟨_, _, rfl, (H.pick (L' := [.blk b2 (.cells #[I 0, I 0] 26)]) (by repeat (first | exact Pick.nil | refine Pick.cons (by repeat (first | exact Rem.head | apply Rem.tail)) ?_))), e2⟩
         ·
          refine WR.call H (R_MonthDays_ct hx9) rfl trivial (Wn.some rfl rfl rfl) rfl ?_
          intro v20 M w H hle hR
          obtain rfl := hR
          refine WR.nil (WQ.any ?_)
          refine WA.seq (fuel := 0) [12, 18, 19, 20, 21, 22, 23, 24, 25, 26, 27, 28, 29, 30, 31, 32, 33, 34, 35, 36, 37, 38, 39, 40, 41, 42, 43, 44] rfl (by kernel_rfl) ?_
          refine WR.step (Ex.load1 H rfl (by repeat (first | exact List.Mem.head _ | apply List.Mem.tail)) Tryz.isAgg3 (by rfl)) (Wn.some rfl rfl rfl) rfl rfl ?_
          refine WR.call H (R_In_ct hx11) rfl trivial (Wn.some rfl rfl rfl) rfl ?_
          intro v21 M w H hle hR
          obtain rfl := hR
          refine WR.step (Ex.not rfl) (Wn.some rfl rfl rfl) rfl rfl ?_
          refine WR.step (Ex.pickF rfl rfl) (Wn.none rfl) rfl rfl ?_
          refine WR.step (Ex.move rfl) (Wn.none rfl) rfl rfl ?_
          refine WR.step (Ex.fieldAddr Tryz.underlying23 rfl Tryz.sizeOf3 (by decide) rfl) (Wn.some rfl rfl rfl) rfl rfl ?_
          refine WR.step (Ex.load1 H rfl (by repeat (first | exact List.Mem.head _ | apply List.Mem.tail)) Tryz.isAgg3 (by rfl)) (Wn.some rfl rfl rfl) rfl rfl ?_
          refine WR.call H (R_In_ct hx13) rfl trivial (Wn.some rfl rfl rfl) rfl ?_
          intro v27 M w H hle hR
          obtain rfl := hR
          refine WR.step (Ex.not rfl) (Wn.some rfl rfl rfl) rfl rfl ?_
          refine WR.step (Ex.pickF rfl rfl) (Wn.none rfl) rfl rfl ?_
          refine WR.step (Ex.move rfl) (Wn.none rfl) rfl rfl ?_
          refine WR.step (Ex.fieldAddr Tryz.underlying23 rfl Tryz.sizeOf3 (by decide) rfl) (Wn.some rfl rfl rfl) rfl rfl ?_
          refine WR.step (Ex.load1 H rfl (by repeat (first | exact List.Mem.head _ | apply List.Mem.tail)) Tryz.isAgg3 (by rfl)) (Wn.some rfl rfl rfl) rfl rfl ?_
          refine WR.call H (R_In_ct hx15) rfl trivial (Wn.some rfl rfl rfl) rfl ?_
          intro v33 M w H hle hR
          obtain rfl := hR
          refine WR.step (Ex.not rfl) (Wn.some rfl rfl rfl) rfl rfl ?_
          refine WR.step (Ex.pickF rfl rfl) (Wn.none rfl) rfl rfl ?_
          refine WR.step (Ex.move rfl) (Wn.none rfl) rfl rfl ?_
          refine WR.step (Ex.fieldAddr Tryz.underlying23 rfl Tryz.sizeOf3 (by decide) rfl) (Wn.some rfl rfl rfl) rfl rfl ?_
          refine WR.step (Ex.load1 H rfl (by repeat (first | exact List.Mem.head _ | apply List.Mem.tail)) Tryz.isAgg3 (by rfl)) (Wn.some rfl rfl rfl) rfl rfl ?_
          refine WR.call H (R_In_ct hx17) rfl trivial (Wn.some rfl rfl rfl) rfl ?_
          intro v39 M w H hle hR
          obtain rfl := hR
          refine WR.step (Ex.not rfl) (Wn.some rfl rfl rfl) rfl rfl ?_
          refine WR.step (Ex.pickF rfl rfl) (Wn.none rfl) rfl rfl ?_
          refine WR.step (Ex.move rfl) (Wn.none rfl) rfl rfl ?_
          refine WR.step (Ex.fieldAddr Tryz.underlying23 rfl Tryz.sizeOf3 (by decide) rfl) (Wn.some rfl rfl rfl) rfl rfl ?_
          refine WR.step (Ex.load1 H rfl (by repeat (first | exact List.Mem.head _ | apply List.Mem.tail)) Tryz.isAgg3 (by rfl)) (Wn.some rfl rfl rfl) rfl rfl ?_
          refine WR.call H (R_In_ct hx19) rfl trivial (Wn.some rfl rfl rfl) rfl ?_
          intro v45 M w H hle hR
          obtain rfl := hR
          refine WR.step (Ex.not rfl) (Wn.some rfl rfl rfl) rfl rfl ?_
          refine WR.step (Ex.pickF rfl rfl) (Wn.none rfl) rfl rfl ?_
          refine WR.nil (WQ.any ?_)
          refine WA.done (by kernel_rfl) ?_
          exact WQ.meetN [(2, _), (47, _)] ⟨rfl, rfl, trivial⟩ ⟨_, _, rfl, (H.pick (L' := [.blk b2 (.cells #[I 0, I 0] 26)]) (by repeat (first | exact Pick.nil | refine Pick.cons (by repeat (first | exact Rem.head | apply Rem.tail)) ?_))), e2⟩
  ·
   rintro e w ⟨b3, M, rfl, H, q20⟩
   obtain rfl := Option.some.inj q20
   refine WQ.then ?_
   refine WC.condB rfl (fun hk21 => ?_) (fun hk21 => ?_)
   ·
    subst hk21
    rw [if_pos rfl] at h
    refine WC.seq ?_
    obtain ⟨⟨n22, n23⟩, hx24, h⟩ := bnd h
    try dsimp only at h
    refine WC.region ?_
    refine WR.call H (R_At_ct hx24) rfl trivial (Wn.none rfl) rfl ?_
    intro v48 M w H hle hR
    try dsimp only at hR
    obtain rfl := hR
    refine WR.store [_, _] H rfl rfl rfl (by repeat (first | exact Upd.head | apply Upd.tail)) Tryz.sizeOf26 rfl (by rfl) (by rfl) (Wn.none rfl) ?_
    intro w H
    refine WR.nil ?_
    refine WQ.then ?_
    refine WC.ret ?_
    (repeat (first | refine WQ.thenRet ?_ | refine WQ.inBlockRet ?_ | refine WQ.cutRet ?_ | refine WQ.scRet ?_))
    obtain rfl := Option.some.inj h
    exact WQ.ret1 rfl ⟨_, rfl, H.loadAgg (by repeat (first | exact List.Mem.head _ | apply List.Mem.tail)) Tryz.isAgg26 Tryz.sizeOf26 (by rfl)⟩ H.ext rfl
   ·
    subst hk21
    rw [if_neg Bool.false_ne_true] at h
    refine WC.skip ?_
    refine WQ.then ?_
    refine WC.seq ?_
    refine WC.region ?_
    refine WR.step (Ex.build [I 0, I 0] Tryz.underlying26 Tryz.zeroValue26 (xplaces26 Tryz.underlying26) rfl rfl) (Wn.none rfl) rfl rfl ?_
    refine WR.store [_, _] H rfl rfl rfl (by repeat (first | exact Upd.head | apply Upd.tail)) Tryz.sizeOf26 rfl (by rfl) (by rfl) (Wn.none rfl) ?_
    intro w H
    refine WR.nil ?_
    refine WQ.then ?_
    refine WC.ret ?_
    (repeat (first | refine WQ.thenRet ?_ | refine WQ.inBlockRet ?_ | refine WQ.cutRet ?_ | refine WQ.scRet ?_))
    obtain rfl := Option.some.inj h
    exact WQ.ret1 rfl ⟨_, rfl, H.loadAgg (by repeat (first | exact List.Mem.head _ | apply List.Mem.tail)) Tryz.isAgg26 Tryz.sizeOf26 (by rfl)⟩ H.ext rfl
theorem R_decimal_B_ct {self : Int → Option (List UInt8)} (ih : ∀ {p0 : Int} {r : List UInt8}, self p0 = some r → Ct Tryz.prog 73 [Value.int .u64 p0] (fun M => True) (fun v M => v = S r)) {p0 : Int} {r : List UInt8} (h : R_decimal_B self p0 = some r) : Ct Tryz.prog 73 [Value.int .u64 p0] (fun M => True) (fun v M => v = S r) := by
  refine Ct.of Tryz.func73 (enters Tryz.func73 (by kernel_rfl) rfl) rfl rfl rfl ?_
  intro w0 M0 H hp
  unfold R_decimal_B at h
  refine WC.seq ?_
  refine WC.region ?_
  refine WR.step (Ex.assign rfl) (Wn.none rfl) rfl rfl ?_
  refine WR.nil ?_
  refine WQ.then ?_
  refine WC.seq ?_
  refine WC.seq ?_
  refine WC.region ?_
  refine WR.step (Ex.move rfl) (Wn.none rfl) rfl rfl ?_
  refine WR.step (Ex.lss rfl rfl) (Wn.none rfl) rfl rfl ?_
  refine WR.nil ?_
  refine WQ.then ?_
  refine WC.condB rfl (fun hk1 => ?_) (fun hk1 => ?_)
  ·
   replace hk1 : p0 < (10 : Int) := of_decide_eq_true hk1
   rw [if_pos hk1] at h
   refine WC.seq ?_
   obtain ⟨s2, hxs2, h⟩ := bnd h
   refine WC.region ?_
   refine WR.step (Ex.move rfl) (Wn.none rfl) rfl rfl ?_
   refine WR.step (Ex.move rfl) (Wn.none rfl) rfl rfl ?_
   refine WR.step (Ex.add rfl rfl) (Wn.none rfl) rfl rfl ?_
   refine WR.step (Ex.sliceCK Tryz.underlying9 rfl rfl rfl hxs2) (Wn.none rfl) rfl rfl ?_
   refine WR.step (Ex.assign rfl) (Wn.none rfl) rfl rfl ?_
   refine WR.nil ?_
   refine WQ.then ?_
   refine WC.ret ?_
   (repeat (first | refine WQ.thenRet ?_ | refine WQ.inBlockRet ?_ | refine WQ.cutRet ?_ | refine WQ.scRet ?_))
   obtain rfl := Option.some.inj h
   exact WQ.ret1 rfl rfl H.ext rfl
  ·
   replace hk1 : ¬ (p0 < (10 : Int)) := of_decide_eq_false hk1
   rw [if_neg hk1] at h
   refine WC.skip ?_
   refine WQ.then ?_
   refine WC.seq ?_
   obtain ⟨s3, hx4, h⟩ := bnd h
   obtain ⟨s5, hxs5, h⟩ := bnd h
   obtain ⟨s6, hxs6, h⟩ := bnd h
   refine WC.draw (m := 11) rfl rfl H ?_
   intro w H
   refine WA.take (i := 0) rfl (by kernel_rfl) (by kernel_rfl) (by kernel_rfl) (fun _ => Ex.move rfl) (Wn.none rfl) rfl rfl (fun _ _ => rfl) ?_
   refine WA.take (i := 1) rfl (by kernel_rfl) (by kernel_rfl) (by kernel_rfl) (fun _ => Ex.quoT rfl rfl (by decide)) (Wn.none rfl) rfl rfl (fun _ _ => rfl) ?_
   refine WA.take (i := 3) rfl (by kernel_rfl) (by kernel_rfl) (by kernel_rfl) (fun _ => Ex.move rfl) (Wn.none rfl) rfl rfl (fun _ _ => rfl) ?_
   refine WA.take (i := 4) rfl (by kernel_rfl) (by kernel_rfl) (by kernel_rfl) (fun _ => Ex.remT rfl rfl (by decide)) (Wn.none rfl) rfl rfl (fun _ _ => rfl) ?_
   refine WA.take (i := 5) rfl (by kernel_rfl) (by kernel_rfl) (by kernel_rfl) (fun _ => Ex.move rfl) (Wn.none rfl) rfl rfl (fun _ _ => rfl) ?_
   refine WA.take (i := 6) rfl (by kernel_rfl) (by kernel_rfl) (by kernel_rfl) (fun _ => Ex.remT rfl rfl (by decide)) (Wn.none rfl) rfl rfl (fun _ _ => rfl) ?_
   refine WA.take (i := 7) rfl (by kernel_rfl) (by kernel_rfl) (by kernel_rfl) (fun _ => Ex.add rfl rfl) (Wn.none rfl) rfl rfl (fun _ _ => rfl) ?_
   refine WA.take (i := 8) rfl (by kernel_rfl) (by kernel_rfl) (by kernel_rfl) (fun _ => Ex.sliceCK Tryz.underlying9 rfl rfl rfl hxs5) (Wn.none rfl) rfl rfl (fun _ _ => rfl) ?_
   refine WA.seq (fuel := 0) [2, 9, 10] rfl (by kernel_rfl) ?_
   refine WR.call H (ih hx4) rfl trivial (Wn.none rfl) rfl ?_
   intro v11 M w H hle hR
   obtain rfl := hR
   refine WR.step (Ex.strAddC rfl rfl hxs6) (Wn.none rfl) rfl rfl ?_
   refine WR.step (Ex.assign rfl) (Wn.none rfl) rfl rfl ?_
   refine WR.nil (WQ.any ?_)
   refine WA.done (by kernel_rfl) ?_
   refine WQ.then ?_
   refine WC.ret ?_
   (repeat (first | refine WQ.thenRet ?_ | refine WQ.inBlockRet ?_ | refine WQ.cutRet ?_ | refine WQ.scRet ?_))
   obtain rfl := Option.some.inj h
   exact WQ.ret1 rfl rfl H.ext rfl
theorem R_decimal_Rct : ∀ (m : Nat) {p0 : Int} {r : List UInt8}, R_decimal_R m p0 = some r → Ct Tryz.prog 73 [Value.int .u64 p0] (fun M => True) (fun v M => v = S r)
  | 0, _, _, h => by rw [R_decimal_R] at h; cases h
  | m + 1, _, _, h => R_decimal_B_ct (fun h => R_decimal_Rct m h) (by rw [R_decimal_R] at h; exact h)
theorem R_decimal_ct {p0 : Int} {r : List UInt8} (h : R_decimal p0 = some r) : Ct Tryz.prog 73 [Value.int .u64 p0] (fun M => True) (fun v M => v = S r) := R_decimal_Rct FU h
theorem R_Number_ct {p0 : Int} {r : List UInt8} (h : R_Number p0 = some r) : Ct Tryz.prog 60 [I p0] (fun M => True) (fun v M => v = S r) := by
  refine Ct.of Tryz.func60 (enters Tryz.func60 (by kernel_rfl) rfl) rfl rfl rfl ?_
  intro w0 M0 H hp
  unfold R_Number at h
  refine WC.seq ?_
  refine WC.region ?_
  refine WR.step (Ex.assign rfl) (Wn.none rfl) rfl rfl ?_
  refine WR.nil ?_
  refine WQ.then ?_
  refine WC.seq ?_
  refine WC.seq ?_
  refine WC.region ?_
  refine WR.step (Ex.move rfl) (Wn.none rfl) rfl rfl ?_
  refine WR.step (Ex.lss rfl rfl) (Wn.none rfl) rfl rfl ?_
  refine WR.nil ?_
  refine WQ.then ?_
  refine WC.condB rfl (fun hk1 => ?_) (fun hk1 => ?_)
  ·
   replace hk1 : p0 < (0 : Int) := of_decide_eq_true hk1
   rw [if_pos hk1] at h
   refine WC.seq ?_
   obtain ⟨n2, hxn2, h⟩ := bnd h
   obtain ⟨n3, hxn3, h⟩ := bnd h
   obtain ⟨s4, hx5, h⟩ := bnd h
   obtain ⟨s6, hxs6, h⟩ := bnd h
   refine WC.region ?_
   refine WR.step (Ex.move rfl) (Wn.none rfl) rfl rfl ?_
   refine WR.step (Ex.addC rfl rfl hxn2) (Wn.none rfl) rfl rfl ?_
   refine WR.step (Ex.negC rfl hxn3) (Wn.none rfl) rfl rfl ?_
   refine WR.step (Ex.conv Tryz.underlying3 Tryz.underlying100 rfl) (Wn.none rfl) rfl rfl ?_
   refine WR.step (Ex.add rfl rfl) (Wn.none rfl) rfl rfl ?_
   refine WR.call H (R_decimal_ct hx5) rfl trivial (Wn.none rfl) rfl ?_
   intro v10 M w H hle hR
   obtain rfl := hR
   refine WR.step (Ex.strAddC rfl rfl hxs6) (Wn.none rfl) rfl rfl ?_
   refine WR.step (Ex.assign rfl) (Wn.none rfl) rfl rfl ?_
   refine WR.nil ?_
   refine WQ.then ?_
   refine WC.ret ?_
   (repeat (first | refine WQ.thenRet ?_ | refine WQ.inBlockRet ?_ | refine WQ.cutRet ?_ | refine WQ.scRet ?_))
   obtain rfl := Option.some.inj h
   exact WQ.ret1 rfl rfl H.ext rfl
  ·
   replace hk1 : ¬ (p0 < (0 : Int)) := of_decide_eq_false hk1
   rw [if_neg hk1] at h
   refine WC.skip ?_
   refine WQ.then ?_
   refine WC.seq ?_
   obtain ⟨s7, hx8, h⟩ := bnd h
   refine WC.region ?_
   refine WR.step (Ex.move rfl) (Wn.none rfl) rfl rfl ?_
   refine WR.step (Ex.conv Tryz.underlying3 Tryz.underlying100 rfl) (Wn.none rfl) rfl rfl ?_
   refine WR.call H (R_decimal_ct hx8) rfl trivial (Wn.none rfl) rfl ?_
   intro v14 M w H hle hR
   obtain rfl := hR
   refine WR.step (Ex.assign rfl) (Wn.none rfl) rfl rfl ?_
   refine WR.nil ?_
   refine WQ.then ?_
   refine WC.ret ?_
   (repeat (first | refine WQ.thenRet ?_ | refine WQ.inBlockRet ?_ | refine WQ.cutRet ?_ | refine WQ.scRet ?_))
   obtain rfl := Option.some.inj h
   exact WQ.ret1 rfl rfl H.ext rfl
theorem R_Padded_ct {p0 : Int} {p1 : Int} {r : List UInt8} (h : R_Padded p0 p1 = some r) : Ct Tryz.prog 40 [I p0, I p1] (fun M => True) (fun v M => v = S r) := by
  refine Ct.of Tryz.func40 (enters Tryz.func40 (by kernel_rfl) rfl) rfl rfl rfl ?_
  intro w0 M0 H hp
  unfold R_Padded at h
  refine WC.seq ?_
  refine WC.region ?_
  refine WR.step (Ex.assign rfl) (Wn.none rfl) rfl rfl ?_
  refine WR.nil ?_
  refine WQ.then ?_
  refine WC.seq ?_
  obtain ⟨s1, hx2, h⟩ := bnd h
  refine WC.region ?_
  refine WR.step (Ex.move rfl) (Wn.none rfl) rfl rfl ?_
  refine WR.call H (R_Number_ct hx2) rfl trivial (Wn.none rfl) rfl ?_
  intro v7 M w H hle hR
  obtain rfl := hR
  refine WR.step (Ex.assign rfl) (Wn.none rfl) rfl rfl ?_
  refine WR.nil ?_
  refine WQ.then ?_
  refine WC.seq ?_
  obtain ⟨o3, e4, h⟩ := bnd h
  refine WC.cutX (fun e w => ∃ (s5 : List UInt8) (M : Mem), e = [(5, S s5)] ∧ St w0 M0 M [] w ∧ some s5 = some o3) [] ?_ ?_ (trivial)
  ·
   refine WC.block ?_
   refine WC.loopP (fun m e w => ∃ (s6 : List UInt8) (M : Mem), e = [(1, I p1), (5, S s6)] ∧ St w0 M0 M [] w ∧ R_Padded_L1 p1 m s6 = some o3) FU [(1, _), (5, _)] ⟨rfl, rfl, trivial⟩ ⟨_, _, rfl, H, e4⟩ ?_
   rintro m7 e w ⟨s6, M, rfl, H, e4⟩
   rcases m7 with _ | m7
   · rw [R_Padded_L1] at e4; cases e4
   rw [R_Padded_L1] at e4
   refine WC.seq ?_
   refine WC.seq ?_
   refine WC.region ?_
   refine WR.step (Ex.move rfl) (Wn.none rfl) rfl rfl ?_
   refine WR.step (Ex.lenStr Tryz.underlying9 rfl) (Wn.none rfl) rfl rfl ?_
   refine WR.step (Ex.move rfl) (Wn.none rfl) rfl rfl ?_
   refine WR.step (Ex.lss rfl rfl) (Wn.none rfl) rfl rfl ?_
   refine WR.nil ?_
   refine WQ.then ?_
   refine WC.condB rfl (fun hk8 => ?_) (fun hk8 => ?_)
   ·
    replace hk8 : (s6.length : Int) < p1 := of_decide_eq_true hk8
    rw [if_pos hk8] at e4
    refine WC.skip ?_
    refine WQ.then ?_
    refine WC.block ?_
    obtain ⟨s9, hxs9, e4⟩ := bnd e4
    refine WC.region ?_
    refine WR.step (Ex.move rfl) (Wn.none rfl) rfl rfl ?_
    refine WR.step (Ex.strAddC rfl rfl hxs9) (Wn.none rfl) rfl rfl ?_
    refine WR.step (Ex.assign rfl) (Wn.none rfl) rfl rfl ?_
    refine WR.nil ?_
    refine WQ.inBlock ?_
    exact WQ.againP m7 [(1, _), (5, _)] ⟨rfl, rfl, trivial⟩ ⟨_, _, rfl, H, e4⟩ (Nat.lt_succ_self _)
   ·
    replace hk8 : ¬ ((s6.length : Int) < p1) := of_decide_eq_false hk8
    rw [if_neg hk8] at e4
    refine WC.exit ?_
    refine WQ.thenExit ?_
    refine WQ.thenExit ?_
    refine WQ.exitHere ?_
    exact WQ.meetN [(5, _)] ⟨rfl, trivial⟩ ⟨_, _, rfl, H, e4⟩
  ·
   rintro e w ⟨s5, M, rfl, H, q10⟩
   obtain rfl := Option.some.inj q10
   refine WQ.then ?_
   refine WC.seq ?_
   refine WC.region ?_
   refine WR.step (Ex.move rfl) (Wn.none rfl) rfl rfl ?_
   refine WR.step (Ex.assign rfl) (Wn.none rfl) rfl rfl ?_
   refine WR.nil ?_
   refine WQ.then ?_
   refine WC.ret ?_
   (repeat (first | refine WQ.thenRet ?_ | refine WQ.inBlockRet ?_ | refine WQ.cutRet ?_ | refine WQ.scRet ?_))
   obtain rfl := Option.some.inj h
   exact WQ.ret1 rfl rfl H.ext rfl
theorem R_YearStart_ct {p0 : Int} {r : Int} (h : R_YearStart p0 = some r) : Ct Tryz.prog 32 [I p0] (fun M => True) (fun v M => v = I r) := by
  refine Ct.of Tryz.func32 (enters Tryz.func32 (by kernel_rfl) rfl) rfl rfl rfl ?_
  intro w0 M0 H hp
  unfold R_YearStart at h
  refine WC.seq ?_
  refine WC.region ?_
  refine WR.step (Ex.assign rfl) (Wn.none rfl) rfl rfl ?_
  refine WR.nil ?_
  refine WQ.then ?_
  refine WC.seq ?_
  obtain ⟨n1, hxn1, h⟩ := bnd h
  obtain ⟨n2, hxn2, h⟩ := bnd h
  refine WC.region ?_
  refine WR.step (Ex.move rfl) (Wn.none rfl) rfl rfl ?_
  refine WR.step (Ex.subC rfl rfl hxn1) (Wn.none rfl) rfl rfl ?_
  refine WR.step (Ex.mulC rfl rfl hxn2) (Wn.none rfl) rfl rfl ?_
  refine WR.step (Ex.assign rfl) (Wn.none rfl) rfl rfl ?_
  refine WR.nil ?_
  refine WQ.then ?_
  refine WC.seq ?_
  refine WC.seq ?_
  refine WC.region ?_
  refine WR.step (Ex.assign rfl) (Wn.none rfl) rfl rfl ?_
  refine WR.nil ?_
  refine WQ.then ?_
  obtain ⟨o3, e4, h⟩ := bnd h
  refine WC.cutX (fun e w => ∃ (n5 : Int) (M : Mem), e = [(0, I p0), (3, I n5)] ∧ St w0 M0 M [] w ∧ some n5 = some o3) [] ?_ ?_ (trivial)
  ·
   refine WC.block ?_
   refine WC.loopP (fun m e w => ∃ (n6 : Int) (n7 : Int) (M : Mem), e = [(0, I p0), (3, I n6), (4, I n7)] ∧ St w0 M0 M [] w ∧ R_YearStart_L1 p0 m n6 n7 = some o3) FU [(0, _), (3, _), (4, _)] ⟨rfl, rfl, rfl, trivial⟩ ⟨_, _, _, rfl, H, e4⟩ ?_
   rintro m8 e w ⟨n6, n7, M, rfl, H, e4⟩
   rcases m8 with _ | m8
   · rw [R_YearStart_L1] at e4; cases e4
   rw [R_YearStart_L1] at e4
   refine WC.seq ?_
   refine WC.seq ?_
   refine WC.region ?_
   refine WR.step (Ex.move rfl) (Wn.none rfl) rfl rfl ?_
   refine WR.step (Ex.move rfl) (Wn.none rfl) rfl rfl ?_
   refine WR.step (Ex.lss rfl rfl) (Wn.none rfl) rfl rfl ?_
   refine WR.nil ?_
   refine WQ.then ?_
   refine WC.condB rfl (fun hk9 => ?_) (fun hk9 => ?_)
   ·
    replace hk9 : n7 < p0 := of_decide_eq_true hk9
    rw [if_pos hk9] at e4
    refine WC.skip ?_
    refine WQ.then ?_
    refine WC.seq ?_
    refine WC.block ?_
    refine WC.seq ?_
    obtain ⟨b10, hx11, e4⟩ := bnd e4
    refine WC.region ?_
    refine WR.step (Ex.move rfl) (Wn.none rfl) rfl rfl ?_
    refine WR.call H (R_Leap_ct hx11) rfl trivial (Wn.none rfl) rfl ?_
    intro v15 M w H hle hR
    obtain rfl := hR
    refine WR.nil ?_
    refine WQ.then ?_
    refine WC.condB rfl (fun hk12 => ?_) (fun hk12 => ?_)
    ·
     subst hk12
     rw [if_pos rfl] at e4
     obtain ⟨n13, hxn13, e4⟩ := bnd e4
     refine WC.region ?_
     refine WR.step (Ex.move rfl) (Wn.none rfl) rfl rfl ?_
     refine WR.step (Ex.addC rfl rfl hxn13) (Wn.none rfl) rfl rfl ?_
     refine WR.step (Ex.assign rfl) (Wn.none rfl) rfl rfl ?_
     refine WR.nil ?_
     refine WQ.inBlock ?_
     refine WQ.then ?_
     obtain ⟨n14, hxn14, e4⟩ := bnd e4
     refine WC.region ?_
     refine WR.step (Ex.move rfl) (Wn.none rfl) rfl rfl ?_
     refine WR.step (Ex.addC rfl rfl hxn14) (Wn.none rfl) rfl rfl ?_
     refine WR.step (Ex.assign rfl) (Wn.none rfl) rfl rfl ?_
     refine WR.nil ?_
     exact WQ.againP m8 [(0, _), (3, _), (4, _)] ⟨rfl, rfl, rfl, trivial⟩ ⟨_, _, _, rfl, H, e4⟩ (Nat.lt_succ_self _)
    ·
     subst hk12
     rw [if_neg Bool.false_ne_true] at e4
     refine WC.skip ?_
     refine WQ.inBlock ?_
     refine WQ.then ?_
     obtain ⟨n15, hxn15, e4⟩ := bnd e4
     refine WC.region ?_
     refine WR.step (Ex.move rfl) (Wn.none rfl) rfl rfl ?_
     refine WR.step (Ex.addC rfl rfl hxn15) (Wn.none rfl) rfl rfl ?_
     refine WR.step (Ex.assign rfl) (Wn.none rfl) rfl rfl ?_
     refine WR.nil ?_
     exact WQ.againP m8 [(0, _), (3, _), (4, _)] ⟨rfl, rfl, rfl, trivial⟩ ⟨_, _, _, rfl, H, e4⟩ (Nat.lt_succ_self _)
   ·
    replace hk9 : ¬ (n7 < p0) := of_decide_eq_false hk9
    rw [if_neg hk9] at e4
    refine WC.exit ?_
    refine WQ.thenExit ?_
    refine WQ.thenExit ?_
    refine WQ.exitHere ?_
    exact WQ.meetN [(0, _), (3, _)] ⟨rfl, rfl, trivial⟩ ⟨_, _, rfl, H, e4⟩
  ·
   rintro e w ⟨n5, M, rfl, H, q16⟩
   obtain rfl := Option.some.inj q16
   refine WQ.then ?_
   refine WC.seq ?_
   refine WC.seq ?_
   refine WC.region ?_
   refine WR.step (Ex.move rfl) (Wn.none rfl) rfl rfl ?_
   refine WR.step (Ex.assign rfl) (Wn.none rfl) rfl rfl ?_
   refine WR.nil ?_
   refine WQ.then ?_
   obtain ⟨o17, e18, h⟩ := bnd h
   refine WC.cutX (fun e w => ∃ (n19 : Int) (M : Mem), e = [(3, I n19)] ∧ St w0 M0 M [] w ∧ some n19 = some o17) [] ?_ ?_ (trivial)
   ·
    refine WC.block ?_
    refine WC.loopP (fun m e w => ∃ (n20 : Int) (n21 : Int) (M : Mem), e = [(3, I n20), (5, I n21)] ∧ St w0 M0 M [] w ∧ R_YearStart_L2  m n20 n21 = some o17) FU [(3, _), (5, _)] ⟨rfl, rfl, trivial⟩ ⟨_, _, _, rfl, H, e18⟩ ?_
    rintro m22 e w ⟨n20, n21, M, rfl, H, e18⟩
    rcases m22 with _ | m22
    · rw [R_YearStart_L2] at e18; cases e18
    rw [R_YearStart_L2] at e18
    refine WC.seq ?_
    refine WC.seq ?_
    refine WC.region ?_
    refine WR.step (Ex.move rfl) (Wn.none rfl) rfl rfl ?_
    refine WR.step (Ex.lss rfl rfl) (Wn.none rfl) rfl rfl ?_
    refine WR.nil ?_
    refine WQ.then ?_
    refine WC.condB rfl (fun hk23 => ?_) (fun hk23 => ?_)
    ·
     replace hk23 : n21 < (1970 : Int) := of_decide_eq_true hk23
     rw [if_pos hk23] at e18
     refine WC.skip ?_
     refine WQ.then ?_
     refine WC.seq ?_
     refine WC.block ?_
     refine WC.seq ?_
     obtain ⟨b24, hx25, e18⟩ := bnd e18
     refine WC.region ?_
     refine WR.step (Ex.move rfl) (Wn.none rfl) rfl rfl ?_
     refine WR.call H (R_Leap_ct hx25) rfl trivial (Wn.none rfl) rfl ?_
     intro v24 M w H hle hR
     obtain rfl := hR
     refine WR.nil ?_
     refine WQ.then ?_
     refine WC.condB rfl (fun hk26 => ?_) (fun hk26 => ?_)
     ·
      subst hk26
      rw [if_pos rfl] at e18
      obtain ⟨n27, hxn27, e18⟩ := bnd e18
      refine WC.region ?_
      refine WR.step (Ex.move rfl) (Wn.none rfl) rfl rfl ?_
      refine WR.step (Ex.subC rfl rfl hxn27) (Wn.none rfl) rfl rfl ?_
      refine WR.step (Ex.assign rfl) (Wn.none rfl) rfl rfl ?_
      refine WR.nil ?_
      refine WQ.inBlock ?_
      refine WQ.then ?_
      obtain ⟨n28, hxn28, e18⟩ := bnd e18
      refine WC.region ?_
      refine WR.step (Ex.move rfl) (Wn.none rfl) rfl rfl ?_
      refine WR.step (Ex.addC rfl rfl hxn28) (Wn.none rfl) rfl rfl ?_
      refine WR.step (Ex.assign rfl) (Wn.none rfl) rfl rfl ?_
      refine WR.nil ?_
      exact WQ.againP m22 [(3, _), (5, _)] ⟨rfl, rfl, trivial⟩ ⟨_, _, _, rfl, H, e18⟩ (Nat.lt_succ_self _)
     ·
      subst hk26
      rw [if_neg Bool.false_ne_true] at e18
      refine WC.skip ?_
      refine WQ.inBlock ?_
      refine WQ.then ?_
      obtain ⟨n29, hxn29, e18⟩ := bnd e18
      refine WC.region ?_
      refine WR.step (Ex.move rfl) (Wn.none rfl) rfl rfl ?_
      refine WR.step (Ex.addC rfl rfl hxn29) (Wn.none rfl) rfl rfl ?_
      refine WR.step (Ex.assign rfl) (Wn.none rfl) rfl rfl ?_
      refine WR.nil ?_
      exact WQ.againP m22 [(3, _), (5, _)] ⟨rfl, rfl, trivial⟩ ⟨_, _, _, rfl, H, e18⟩ (Nat.lt_succ_self _)
    ·
     replace hk23 : ¬ (n21 < (1970 : Int)) := of_decide_eq_false hk23
     rw [if_neg hk23] at e18
     refine WC.exit ?_
     refine WQ.thenExit ?_
     refine WQ.thenExit ?_
     refine WQ.exitHere ?_
     exact WQ.meetN [(3, _)] ⟨rfl, trivial⟩ ⟨_, _, rfl, H, e18⟩
   ·
    rintro e w ⟨n19, M, rfl, H, q30⟩
    obtain rfl := Option.some.inj q30
    refine WQ.then ?_
    refine WC.seq ?_
    refine WC.region ?_
    refine WR.step (Ex.move rfl) (Wn.none rfl) rfl rfl ?_
    refine WR.step (Ex.assign rfl) (Wn.none rfl) rfl rfl ?_
    refine WR.nil ?_
    refine WQ.then ?_
    refine WC.ret ?_
    (repeat (first | refine WQ.thenRet ?_ | refine WQ.inBlockRet ?_ | refine WQ.cutRet ?_ | refine WQ.scRet ?_))
    obtain rfl := Option.some.inj h
    exact WQ.ret1 rfl rfl H.ext rfl
theorem R_DayNumber_ct {p0 : Int} {p1 : Int} {p2 : Int} {r : Int} (h : R_DayNumber p0 p1 p2 = some r) : Ct Tryz.prog 30 [I p0, I p1, I p2] (fun M => True) (fun v M => v = I r) := by
  refine Ct.of Tryz.func30 (enters Tryz.func30 (by kernel_rfl) rfl) rfl rfl rfl ?_
  intro w0 M0 H hp
  unfold R_DayNumber at h
  refine WC.seq ?_
  refine WC.region ?_
  refine WR.step (Ex.assign rfl) (Wn.none rfl) rfl rfl ?_
  refine WR.nil ?_
  refine WQ.then ?_
  refine WC.seq ?_
  obtain ⟨n1, hx2, h⟩ := bnd h
  obtain ⟨n3, hxn3, h⟩ := bnd h
  obtain ⟨n4, hxn4, h⟩ := bnd h
  refine WC.region ?_
  refine WR.step (Ex.move rfl) (Wn.none rfl) rfl rfl ?_
  refine WR.call H (R_YearStart_ct hx2) rfl trivial (Wn.none rfl) rfl ?_
  intro v10 M w H hle hR
  obtain rfl := hR
  refine WR.step (Ex.move rfl) (Wn.none rfl) rfl rfl ?_
  refine WR.step (Ex.addC rfl rfl hxn3) (Wn.none rfl) rfl rfl ?_
  refine WR.step (Ex.subC rfl rfl hxn4) (Wn.none rfl) rfl rfl ?_
  refine WR.step (Ex.assign rfl) (Wn.none rfl) rfl rfl ?_
  refine WR.nil ?_
  refine WQ.then ?_
  refine WC.seq ?_
  refine WC.seq ?_
  refine WC.region ?_
  refine WR.step (Ex.assign rfl) (Wn.none rfl) rfl rfl ?_
  refine WR.nil ?_
  refine WQ.then ?_
  obtain ⟨o5, e6, h⟩ := bnd h
  refine WC.cutX (fun e w => ∃ (n7 : Int) (M : Mem), e = [(7, I n7)] ∧ St w0 M0 M [] w ∧ some n7 = some o5) [] ?_ ?_ (trivial)
  ·
   refine WC.block ?_
   refine WC.loopP (fun m e w => ∃ (n8 : Int) (n9 : Int) (M : Mem), e = [(0, I p0), (1, I p1), (7, I n8), (8, I n9)] ∧ St w0 M0 M [] w ∧ R_DayNumber_L1 p0 p1 m n8 n9 = some o5) FU [(0, _), (1, _), (7, _), (8, _)] ⟨rfl, rfl, rfl, rfl, trivial⟩ ⟨_, _, _, rfl, H, e6⟩ ?_
   rintro m10 e w ⟨n8, n9, M, rfl, H, e6⟩
   rcases m10 with _ | m10
   · rw [R_DayNumber_L1] at e6; cases e6
   rw [R_DayNumber_L1] at e6
   refine WC.seq ?_
   refine WC.seq ?_
   refine WC.region ?_
   refine WR.step (Ex.move rfl) (Wn.none rfl) rfl rfl ?_
   refine WR.step (Ex.move rfl) (Wn.none rfl) rfl rfl ?_
   refine WR.step (Ex.lss rfl rfl) (Wn.none rfl) rfl rfl ?_
   refine WR.nil ?_
   refine WQ.then ?_
   refine WC.condB rfl (fun hk11 => ?_) (fun hk11 => ?_)
   ·
    replace hk11 : n9 < p1 := of_decide_eq_true hk11
    rw [if_pos hk11] at e6
    refine WC.skip ?_
    refine WQ.then ?_
    refine WC.seq ?_
    refine WC.block ?_
    obtain ⟨n12, hx13, e6⟩ := bnd e6
    obtain ⟨n14, hxn14, e6⟩ := bnd e6
    refine WC.region ?_
    refine WR.step (Ex.move rfl) (Wn.none rfl) rfl rfl ?_
    refine WR.step (Ex.move rfl) (Wn.none rfl) rfl rfl ?_
    refine WR.step (Ex.move rfl) (Wn.none rfl) rfl rfl ?_
    refine WR.call H (R_MonthDays_ct hx13) rfl trivial (Wn.none rfl) rfl ?_
    intro v22 M w H hle hR
    obtain rfl := hR
    refine WR.step (Ex.addC rfl rfl hxn14) (Wn.none rfl) rfl rfl ?_
    refine WR.step (Ex.assign rfl) (Wn.none rfl) rfl rfl ?_
    refine WR.nil ?_
    refine WQ.inBlock ?_
    refine WQ.then ?_
    obtain ⟨n15, hxn15, e6⟩ := bnd e6
    refine WC.region ?_
    refine WR.step (Ex.move rfl) (Wn.none rfl) rfl rfl ?_
    refine WR.step (Ex.addC rfl rfl hxn15) (Wn.none rfl) rfl rfl ?_
    refine WR.step (Ex.assign rfl) (Wn.none rfl) rfl rfl ?_
    refine WR.nil ?_
    exact WQ.againP m10 [(0, _), (1, _), (7, _), (8, _)] ⟨rfl, rfl, rfl, rfl, trivial⟩ ⟨_, _, _, rfl, H, e6⟩ (Nat.lt_succ_self _)
   ·
    replace hk11 : ¬ (n9 < p1) := of_decide_eq_false hk11
    rw [if_neg hk11] at e6
    refine WC.exit ?_
    refine WQ.thenExit ?_
    refine WQ.thenExit ?_
    refine WQ.exitHere ?_
    exact WQ.meetN [(7, _)] ⟨rfl, trivial⟩ ⟨_, _, rfl, H, e6⟩
  ·
   rintro e w ⟨n7, M, rfl, H, q16⟩
   obtain rfl := Option.some.inj q16
   refine WQ.then ?_
   refine WC.seq ?_
   refine WC.region ?_
   refine WR.step (Ex.move rfl) (Wn.none rfl) rfl rfl ?_
   refine WR.step (Ex.assign rfl) (Wn.none rfl) rfl rfl ?_
   refine WR.nil ?_
   refine WQ.then ?_
   refine WC.ret ?_
   (repeat (first | refine WQ.thenRet ?_ | refine WQ.inBlockRet ?_ | refine WQ.cutRet ?_ | refine WQ.scRet ?_))
   obtain rfl := Option.some.inj h
   exact WQ.ret1 rfl rfl H.ext rfl
theorem R_WeekdayOf_ct {p0 : Int} {p1 : Int} {p2 : Int} {r : Int} (h : R_WeekdayOf p0 p1 p2 = some r) : Ct Tryz.prog 13 [I p0, I p1, I p2] (fun M => True) (fun v M => v = I r) := by
  refine Ct.of Tryz.func13 (enters Tryz.func13 (by kernel_rfl) rfl) rfl rfl rfl ?_
  intro w0 M0 H hp
  unfold R_WeekdayOf at h
  refine WC.seq ?_
  refine WC.region ?_
  refine WR.step (Ex.assign rfl) (Wn.none rfl) rfl rfl ?_
  refine WR.nil ?_
  refine WQ.then ?_
  refine WC.seq ?_
  obtain ⟨n1, hx2, h⟩ := bnd h
  obtain ⟨n3, hxn3, h⟩ := bnd h
  obtain ⟨n4, hxn4, h⟩ := bnd h
  refine WC.region ?_
  refine WR.step (Ex.move rfl) (Wn.none rfl) rfl rfl ?_
  refine WR.step (Ex.move rfl) (Wn.none rfl) rfl rfl ?_
  refine WR.step (Ex.move rfl) (Wn.none rfl) rfl rfl ?_
  refine WR.call H (R_DayNumber_ct hx2) rfl trivial (Wn.none rfl) rfl ?_
  intro v11 M w H hle hR
  obtain rfl := hR
  refine WR.step (Ex.addC rfl rfl hxn3) (Wn.none rfl) rfl rfl ?_
  refine WR.step (Ex.remC rfl rfl hxn4) (Wn.none rfl) rfl rfl ?_
  refine WR.step (Ex.assign rfl) (Wn.none rfl) rfl rfl ?_
  refine WR.nil ?_
  refine WQ.then ?_
  refine WC.seq ?_
  refine WC.seq ?_
  refine WC.region ?_
  refine WR.step (Ex.move rfl) (Wn.none rfl) rfl rfl ?_
  refine WR.step (Ex.lss rfl rfl) (Wn.none rfl) rfl rfl ?_
  refine WR.nil ?_
  refine WQ.then ?_
  refine WC.condB rfl (fun hk5 => ?_) (fun hk5 => ?_)
  ·
   replace hk5 : n4 < (0 : Int) := of_decide_eq_true hk5
   rw [if_pos hk5] at h
   obtain ⟨n6, hxn6, h⟩ := bnd h
   refine WC.region ?_
   refine WR.step (Ex.move rfl) (Wn.none rfl) rfl rfl ?_
   refine WR.step (Ex.addC rfl rfl hxn6) (Wn.none rfl) rfl rfl ?_
   refine WR.step (Ex.assign rfl) (Wn.none rfl) rfl rfl ?_
   refine WR.nil ?_
   refine WQ.then ?_
   refine WC.seq ?_
   refine WC.region ?_
   refine WR.step (Ex.move rfl) (Wn.none rfl) rfl rfl ?_
   refine WR.step (Ex.assign rfl) (Wn.none rfl) rfl rfl ?_
   refine WR.nil ?_
   refine WQ.then ?_
   refine WC.ret ?_
   (repeat (first | refine WQ.thenRet ?_ | refine WQ.inBlockRet ?_ | refine WQ.cutRet ?_ | refine WQ.scRet ?_))
   obtain rfl := Option.some.inj h
   exact WQ.ret1 rfl rfl H.ext rfl
  ·
   replace hk5 : ¬ (n4 < (0 : Int)) := of_decide_eq_false hk5
   rw [if_neg hk5] at h
   refine WC.skip ?_
   refine WQ.then ?_
   refine WC.seq ?_
   refine WC.region ?_
   refine WR.step (Ex.move rfl) (Wn.none rfl) rfl rfl ?_
   refine WR.step (Ex.assign rfl) (Wn.none rfl) rfl rfl ?_
   refine WR.nil ?_
   refine WQ.then ?_
   refine WC.ret ?_
   (repeat (first | refine WQ.thenRet ?_ | refine WQ.inBlockRet ?_ | refine WQ.cutRet ?_ | refine WQ.scRet ?_))
   obtain rfl := Option.some.inj h
   exact WQ.ret1 rfl rfl H.ext rfl
theorem R_DayName_ct {p0 : Int} {r : List UInt8} (h : R_DayName p0 = some r) : Ct Tryz.prog 41 [I p0] (fun M => True) (fun v M => v = S r) := by
  refine Ct.of Tryz.func41 (enters Tryz.func41 (by kernel_rfl) rfl) rfl rfl rfl ?_
  intro w0 M0 H hp
  unfold R_DayName at h
  refine WC.seq ?_
  refine WC.region ?_
  refine WR.step (Ex.assign rfl) (Wn.none rfl) rfl rfl ?_
  refine WR.nil ?_
  refine WQ.then ?_
  refine WC.seq ?_
  obtain ⟨n1, hxn1, h⟩ := bnd h
  obtain ⟨n2, hxn2, h⟩ := bnd h
  obtain ⟨n3, hxn3, h⟩ := bnd h
  obtain ⟨s4, hxs4, h⟩ := bnd h
  refine WC.region ?_
  refine WR.step (Ex.move rfl) (Wn.none rfl) rfl rfl ?_
  refine WR.step (Ex.mulC rfl rfl hxn1) (Wn.none rfl) rfl rfl ?_
  refine WR.step (Ex.move rfl) (Wn.none rfl) rfl rfl ?_
  refine WR.step (Ex.mulC rfl rfl hxn2) (Wn.none rfl) rfl rfl ?_
  refine WR.step (Ex.addC rfl rfl hxn3) (Wn.none rfl) rfl rfl ?_
  refine WR.step (Ex.sliceC Tryz.underlying9 rfl rfl rfl hxs4) (Wn.none rfl) rfl rfl ?_
  refine WR.step (Ex.assign rfl) (Wn.none rfl) rfl rfl ?_
  refine WR.nil ?_
  refine WQ.then ?_
  refine WC.ret ?_
  (repeat (first | refine WQ.thenRet ?_ | refine WQ.inBlockRet ?_ | refine WQ.cutRet ?_ | refine WQ.scRet ?_))
  obtain rfl := Option.some.inj h
  exact WQ.ret1 rfl rfl H.ext rfl
theorem R_MonthName_ct {p0 : Int} {r : List UInt8} (h : R_MonthName p0 = some r) : Ct Tryz.prog 42 [I p0] (fun M => True) (fun v M => v = S r) := by
  refine Ct.of Tryz.func42 (enters Tryz.func42 (by kernel_rfl) rfl) rfl rfl rfl ?_
  intro w0 M0 H hp
  unfold R_MonthName at h
  refine WC.seq ?_
  refine WC.region ?_
  refine WR.step (Ex.assign rfl) (Wn.none rfl) rfl rfl ?_
  refine WR.nil ?_
  refine WQ.then ?_
  refine WC.seq ?_
  obtain ⟨n1, hxn1, h⟩ := bnd h
  obtain ⟨n2, hxn2, h⟩ := bnd h
  obtain ⟨n3, hxn3, h⟩ := bnd h
  obtain ⟨s4, hxs4, h⟩ := bnd h
  refine WC.region ?_
  refine WR.step (Ex.move rfl) (Wn.none rfl) rfl rfl ?_
  refine WR.step (Ex.mulC rfl rfl hxn1) (Wn.none rfl) rfl rfl ?_
  refine WR.step (Ex.subC rfl rfl hxn2) (Wn.none rfl) rfl rfl ?_
  refine WR.step (Ex.move rfl) (Wn.none rfl) rfl rfl ?_
  refine WR.step (Ex.mulC rfl rfl hxn3) (Wn.none rfl) rfl rfl ?_
  refine WR.step (Ex.sliceC Tryz.underlying9 rfl rfl rfl hxs4) (Wn.none rfl) rfl rfl ?_
  refine WR.step (Ex.assign rfl) (Wn.none rfl) rfl rfl ?_
  refine WR.nil ?_
  refine WQ.then ?_
  refine WC.ret ?_
  (repeat (first | refine WQ.thenRet ?_ | refine WQ.inBlockRet ?_ | refine WQ.cutRet ?_ | refine WQ.scRet ?_))
  obtain rfl := Option.some.inj h
  exact WQ.ret1 rfl rfl H.ext rfl
theorem R_DateText_ct {p0 : (Int × Int × Int × Int × Int × Int × Int)} {r : List UInt8} (h : R_DateText p0 = some r) : Ct Tryz.prog 20 [Value.agg #[I p0.1, I p0.2.1, I p0.2.2.1, I p0.2.2.2.1, I p0.2.2.2.2.1, I p0.2.2.2.2.2.1, I p0.2.2.2.2.2.2]] (fun M => True) (fun v M => v = S r) := by
  refine Ct.of Tryz.func20 (enters Tryz.func20 (by kernel_rfl) rfl) rfl rfl rfl ?_
  intro w0 M0 H hp
  unfold R_DateText at h
  refine WC.seq ?_
  refine WC.region ?_
  refine WR.box [_, _, _, _, _, _, _] H rfl rfl (Wn.none rfl) rfl ?_
  intro b1 w H
  refine WR.step (Ex.assign rfl) (Wn.none rfl) rfl rfl ?_
  refine WR.nil ?_
  refine WQ.then ?_
  refine WC.seq ?_
  refine WC.region ?_
  refine WR.step (Ex.assign rfl) (Wn.none rfl) rfl rfl ?_
  refine WR.nil ?_
  refine WQ.then ?_
  refine WC.seq ?_
  refine WC.region ?_
  refine WR.step (Ex.fieldAddr Tryz.underlying23 rfl Tryz.sizeOf3 (by decide) rfl) (Wn.none rfl) rfl rfl ?_
  refine WR.step (Ex.load1 H rfl (by repeat (first | exact List.Mem.head _ | apply List.Mem.tail)) Tryz.isAgg3 (by rfl)) (Wn.none rfl) rfl rfl ?_
  refine WR.step (Ex.assign rfl) (Wn.none rfl) rfl rfl ?_
  refine WR.nil ?_
  refine WQ.then ?_
  refine WC.seq ?_
  refine WC.seq ?_
  refine WC.region ?_
  refine WR.step (Ex.move rfl) (Wn.none rfl) rfl rfl ?_
  refine WR.step (Ex.lss rfl rfl) (Wn.none rfl) rfl rfl ?_
  refine WR.nil ?_
  refine WQ.then ?_
  obtain ⟨o1, e2, h⟩ := bnd h
  refine WC.cutX (fun e w => ∃ (s3 : List UInt8) (n4 : Int) (M : Mem), e = [(1, ptr b1 0), (3, S s3), (4, I n4)] ∧ St w0 M0 M [.blk b1 (.cells #[I p0.1, I p0.2.1, I p0.2.2.1, I p0.2.2.2.1, I p0.2.2.2.2.1, I p0.2.2.2.2.2.1, I p0.2.2.2.2.2.2] 23)] w ∧ some (s3, n4) = some o1) [] ?_ ?_ (trivial)
  ·
   refine WC.condB rfl (fun hk5 => ?_) (fun hk5 => ?_)
   ·
    replace hk5 : p0.2.2.2.2.2.2 < (0 : Int) := of_decide_eq_true hk5
    rw [if_pos hk5] at e2
    refine WC.seq ?_
    refine WC.region ?_
    refine WR.step (Ex.assign rfl) (Wn.none rfl) rfl rfl ?_
    refine WR.nil ?_
    refine WQ.then ?_
    obtain ⟨n6, hxn6, e2⟩ := bnd e2
    refine WC.region ?_
    refine WR.step (Ex.move rfl) (Wn.none rfl) rfl rfl ?_
    refine WR.step (Ex.negC rfl hxn6) (Wn.none rfl) rfl rfl ?_
    refine WR.step (Ex.assign rfl) (Wn.none rfl) rfl rfl ?_
    refine WR.nil ?_
    exact WQ.meetN [(1, _), (3, _), (4, _)] ⟨rfl, rfl, rfl, trivial⟩ ⟨_, _, _, rfl, H, e2⟩
   ·
    replace hk5 : ¬ (p0.2.2.2.2.2.2 < (0 : Int)) := of_decide_eq_false hk5
    rw [if_neg hk5] at e2
    refine WC.skip ?_
    exact WQ.meetN [(1, _), (3, _), (4, _)] ⟨rfl, rfl, rfl, trivial⟩ ⟨_, _, _, rfl, H, e2⟩
  ·
   rintro e w ⟨s3, n4, M, rfl, H, q7⟩
   obtain rfl := Option.some.inj q7
   try dsimp only at h
   refine WQ.then ?_
   refine WC.seq ?_
   obtain ⟨n8, hxn8, h⟩ := bnd h
   obtain ⟨s9, hx10, h⟩ := bnd h
   obtain ⟨s11, hxs11, h⟩ := bnd h
   obtain ⟨n12, hxn12, h⟩ := bnd h
   obtain ⟨s13, hx14, h⟩ := bnd h
   obtain ⟨s15, hxs15, h⟩ := bnd h
   refine WC.region ?_
   refine WR.step (Ex.move rfl) (Wn.none rfl) rfl rfl ?_
   refine WR.step (Ex.move rfl) (Wn.none rfl) rfl rfl ?_
   refine WR.step (Ex.quoC rfl rfl hxn8) (Wn.none rfl) rfl rfl ?_
   refine WR.call H (R_Padded_ct hx10) rfl trivial (Wn.none rfl) rfl ?_
   intro v14 M w H hle hR
   obtain rfl := hR
   refine WR.step (Ex.strAddC rfl rfl hxs11) (Wn.none rfl) rfl rfl ?_
   refine WR.step (Ex.move rfl) (Wn.none rfl) rfl rfl ?_
   refine WR.step (Ex.remC rfl rfl hxn12) (Wn.none rfl) rfl rfl ?_
   refine WR.call H (R_Padded_ct hx14) rfl trivial (Wn.none rfl) rfl ?_
   intro v18 M w H hle hR
   obtain rfl := hR
   refine WR.step (Ex.strAddC rfl rfl hxs15) (Wn.none rfl) rfl rfl ?_
   refine WR.step (Ex.assign rfl) (Wn.none rfl) rfl rfl ?_
   refine WR.nil ?_
   refine WQ.then ?_
   refine WC.seq ?_
   obtain ⟨n16, hx17, h⟩ := bnd h
   obtain ⟨s18, hx19, h⟩ := bnd h
   obtain ⟨s20, hxs20, h⟩ := bnd h
   obtain ⟨s21, hx22, h⟩ := bnd h
   obtain ⟨s23, hxs23, h⟩ := bnd h
   obtain ⟨s24, hxs24, h⟩ := bnd h
   obtain ⟨s25, hx26, h⟩ := bnd h
   obtain ⟨s27, hxs27, h⟩ := bnd h
   obtain ⟨s28, hxs28, h⟩ := bnd h
   obtain ⟨s29, hx30, h⟩ := bnd h
   obtain ⟨s31, hxs31, h⟩ := bnd h
   obtain ⟨s32, hxs32, h⟩ := bnd h
   obtain ⟨s33, hx34, h⟩ := bnd h
   obtain ⟨s35, hxs35, h⟩ := bnd h
   obtain ⟨s36, hxs36, h⟩ := bnd h
   obtain ⟨s37, hx38, h⟩ := bnd h
   obtain ⟨s39, hxs39, h⟩ := bnd h
   obtain ⟨s40, hxs40, h⟩ := bnd h
   obtain ⟨s41, hx42, h⟩ := bnd h
   obtain ⟨s43, hxs43, h⟩ := bnd h
   obtain ⟨s44, hxs44, h⟩ := bnd h
   obtain ⟨s45, hxs45, h⟩ := bnd h
   refine WC.sub (e' := [(1, _), (3, _)]) ⟨rfl, rfl, trivial⟩ ?_
   refine WC.draw (m := 42) rfl rfl H ?_
   intro w H
   refine WA.conf (c := 42) [(20, ptr b1 0, []), (21, I p0.1, [0]), (22, ptr b1 1, []), (23, I p0.2.1, [2]), (24, ptr b1 2, []), (25, I p0.2.2.1, [4]), (26, I n16, [1, 3, 5]), (27, S s18, [6]), (28, S s20, [7]), (29, ptr b1 2, []), (30, I p0.2.2.1, [9]), (31, S s21, [10]), (32, S s23, [8, 11]), (33, S s24, [12]), (34, ptr b1 1, []), (35, I p0.2.1, [14]), (36, S s25, [15]), (37, S s27, [13, 16]), (38, S s28, [17]), (39, ptr b1 0, []), (40, I p0.1, [19]), (41, S s29, [20]), (42, S s31, [18, 21]), (43, S s32, [22]), (44, ptr b1 3, []), (45, I p0.2.2.2.1, [24]), (46, S s33, [25]), (47, S s35, [23, 26]), (48, S s36, [27]), (49, ptr b1 4, []), (50, I p0.2.2.2.2.1, [29]), (51, S s37, [30]), (52, S s39, [28, 31]), (53, S s40, [32]), (54, ptr b1 5, []), (55, I p0.2.2.2.2.2.1, [34]), (56, S s41, [35]), (57, S s43, [33, 36]), (58, S s44, [37]), (59, S s15, []), (60, S s45, [38, 39]), (2, S s45, [40])] rfl rfl (by kernel_rfl) rfl rfl H ⟨⟨_, rfl, fun E w M H hle Qk kk => ?_⟩, ⟨_, rfl, fun E w M H hle Qk kk => ?_⟩, ⟨_, rfl, fun E w M H hle Qk kk => ?_⟩, ⟨_, rfl, fun E w M H hle Qk kk => ?_⟩, ⟨_, rfl, fun E w M H hle Qk kk => ?_⟩, ⟨_, rfl, fun E w M H hle Qk kk => ?_⟩, ⟨_, rfl, fun E w M H hle Qk kk => ?_⟩, ⟨_, rfl, fun E w M H hle Qk kk => ?_⟩, ⟨_, rfl, fun E w M H hle Qk kk => ?_⟩, ⟨_, rfl, fun E w M H hle Qk kk => ?_⟩, ⟨_, rfl, fun E w M H hle Qk kk => ?_⟩, ⟨_, rfl, fun E w M H hle Qk kk => ?_⟩, ⟨_, rfl, fun E w M H hle Qk kk => ?_⟩, ⟨_, rfl, fun E w M H hle Qk kk => ?_⟩, ⟨_, rfl, fun E w M H hle Qk kk => ?_⟩, ⟨_, rfl, fun E w M H hle Qk kk => ?_⟩, ⟨_, rfl, fun E w M H hle Qk kk => ?_⟩, ⟨_, rfl, fun E w M H hle Qk kk => ?_⟩, ⟨_, rfl, fun E w M H hle Qk kk => ?_⟩, ⟨_, rfl, fun E w M H hle Qk kk => ?_⟩, ⟨_, rfl, fun E w M H hle Qk kk => ?_⟩, ⟨_, rfl, fun E w M H hle Qk kk => ?_⟩, ⟨_, rfl, fun E w M H hle Qk kk => ?_⟩, ⟨_, rfl, fun E w M H hle Qk kk => ?_⟩, ⟨_, rfl, fun E w M H hle Qk kk => ?_⟩, ⟨_, rfl, fun E w M H hle Qk kk => ?_⟩, ⟨_, rfl, fun E w M H hle Qk kk => ?_⟩, ⟨_, rfl, fun E w M H hle Qk kk => ?_⟩, ⟨_, rfl, fun E w M H hle Qk kk => ?_⟩, ⟨_, rfl, fun E w M H hle Qk kk => ?_⟩, ⟨_, rfl, fun E w M H hle Qk kk => ?_⟩, ⟨_, rfl, fun E w M H hle Qk kk => ?_⟩, ⟨_, rfl, fun E w M H hle Qk kk => ?_⟩, ⟨_, rfl, fun E w M H hle Qk kk => ?_⟩, ⟨_, rfl, fun E w M H hle Qk kk => ?_⟩, ⟨_, rfl, fun E w M H hle Qk kk => ?_⟩, ⟨_, rfl, fun E w M H hle Qk kk => ?_⟩, ⟨_, rfl, fun E w M H hle Qk kk => ?_⟩, ⟨_, rfl, fun E w M H hle Qk kk => ?_⟩, ⟨_, rfl, fun E w M H hle Qk kk => ?_⟩, ⟨_, rfl, fun E w M H hle Qk kk => ?_⟩, ⟨_, rfl, fun E w M H hle Qk kk => ?_⟩, trivial⟩ ?_
   ·
    refine WR.step (Ex.fieldAddr Tryz.underlying23 rfl Tryz.sizeOf3 (by decide) rfl) (Wn.none rfl) rfl rfl ?_
    exact WR.nil (kk _ _ H (Mem.le.refl _))
   ·
    refine WR.step (Ex.load1 H rfl (by repeat (first | exact List.Mem.head _ | apply List.Mem.tail)) Tryz.isAgg3 (by rfl)) (Wn.none rfl) rfl rfl ?_
    exact WR.nil (kk _ _ H (Mem.le.refl _))
   ·
    refine WR.step (Ex.fieldAddr Tryz.underlying23 rfl Tryz.sizeOf3 (by decide) rfl) (Wn.none rfl) rfl rfl ?_
    exact WR.nil (kk _ _ H (Mem.le.refl _))
   ·
    refine WR.step (Ex.load1 H rfl (by repeat (first | exact List.Mem.head _ | apply List.Mem.tail)) Tryz.isAgg3 (by rfl)) (Wn.none rfl) rfl rfl ?_
    exact WR.nil (kk _ _ H (Mem.le.refl _))
   ·
    refine WR.step (Ex.fieldAddr Tryz.underlying23 rfl Tryz.sizeOf3 (by decide) rfl) (Wn.none rfl) rfl rfl ?_
    exact WR.nil (kk _ _ H (Mem.le.refl _))
   ·
    refine WR.step (Ex.load1 H rfl (by repeat (first | exact List.Mem.head _ | apply List.Mem.tail)) Tryz.isAgg3 (by rfl)) (Wn.none rfl) rfl rfl ?_
    exact WR.nil (kk _ _ H (Mem.le.refl _))
   ·
    refine WR.call H (R_WeekdayOf_ct hx17) rfl trivial (Wn.none rfl) rfl ?_
    intro v26 M w H hle hR
    obtain rfl := hR
    exact WR.nil (kk _ _ H hle)
   ·
    refine WR.call H (R_DayName_ct hx19) rfl trivial (Wn.none rfl) rfl ?_
    intro v27 M w H hle hR
    obtain rfl := hR
    exact WR.nil (kk _ _ H hle)
   ·
    refine WR.step (Ex.strAddC rfl rfl hxs20) (Wn.none rfl) rfl rfl ?_
    exact WR.nil (kk _ _ H (Mem.le.refl _))
   ·
    refine WR.step (Ex.fieldAddr Tryz.underlying23 rfl Tryz.sizeOf3 (by decide) rfl) (Wn.none rfl) rfl rfl ?_
    exact WR.nil (kk _ _ H (Mem.le.refl _))
   ·
    refine WR.step (Ex.load1 H rfl (by repeat (first | exact List.Mem.head _ | apply List.Mem.tail)) Tryz.isAgg3 (by rfl)) (Wn.none rfl) rfl rfl ?_
    exact WR.nil (kk _ _ H (Mem.le.refl _))
   ·
    refine WR.call H (R_Padded_ct hx22) rfl trivial (Wn.none rfl) rfl ?_
    intro v31 M w H hle hR
    obtain rfl := hR
    exact WR.nil (kk _ _ H hle)
   ·
    refine WR.step (Ex.strAddC rfl rfl hxs23) (Wn.none rfl) rfl rfl ?_
    exact WR.nil (kk _ _ H (Mem.le.refl _))
   ·
    refine WR.step (Ex.strAddC rfl rfl hxs24) (Wn.none rfl) rfl rfl ?_
    exact WR.nil (kk _ _ H (Mem.le.refl _))
   ·
    refine WR.step (Ex.fieldAddr Tryz.underlying23 rfl Tryz.sizeOf3 (by decide) rfl) (Wn.none rfl) rfl rfl ?_
    exact WR.nil (kk _ _ H (Mem.le.refl _))
   ·
    refine WR.step (Ex.load1 H rfl (by repeat (first | exact List.Mem.head _ | apply List.Mem.tail)) Tryz.isAgg3 (by rfl)) (Wn.none rfl) rfl rfl ?_
    exact WR.nil (kk _ _ H (Mem.le.refl _))
   ·
    refine WR.call H (R_MonthName_ct hx26) rfl trivial (Wn.none rfl) rfl ?_
    intro v36 M w H hle hR
    obtain rfl := hR
    exact WR.nil (kk _ _ H hle)
   ·
    refine WR.step (Ex.strAddC rfl rfl hxs27) (Wn.none rfl) rfl rfl ?_
    exact WR.nil (kk _ _ H (Mem.le.refl _))
   ·
    refine WR.step (Ex.strAddC rfl rfl hxs28) (Wn.none rfl) rfl rfl ?_
    exact WR.nil (kk _ _ H (Mem.le.refl _))
   ·
    refine WR.step (Ex.fieldAddr Tryz.underlying23 rfl Tryz.sizeOf3 (by decide) rfl) (Wn.none rfl) rfl rfl ?_
    exact WR.nil (kk _ _ H (Mem.le.refl _))
   ·
    refine WR.step (Ex.load1 H rfl (by repeat (first | exact List.Mem.head _ | apply List.Mem.tail)) Tryz.isAgg3 (by rfl)) (Wn.none rfl) rfl rfl ?_
    exact WR.nil (kk _ _ H (Mem.le.refl _))
   ·
    refine WR.call H (R_Padded_ct hx30) rfl trivial (Wn.none rfl) rfl ?_
    intro v41 M w H hle hR
    obtain rfl := hR
    exact WR.nil (kk _ _ H hle)
   ·
    refine WR.step (Ex.strAddC rfl rfl hxs31) (Wn.none rfl) rfl rfl ?_
    exact WR.nil (kk _ _ H (Mem.le.refl _))
   ·
    refine WR.step (Ex.strAddC rfl rfl hxs32) (Wn.none rfl) rfl rfl ?_
    exact WR.nil (kk _ _ H (Mem.le.refl _))
   ·
    refine WR.step (Ex.fieldAddr Tryz.underlying23 rfl Tryz.sizeOf3 (by decide) rfl) (Wn.none rfl) rfl rfl ?_
    exact WR.nil (kk _ _ H (Mem.le.refl _))
   ·
    refine WR.step (Ex.load1 H rfl (by repeat (first | exact List.Mem.head _ | apply List.Mem.tail)) Tryz.isAgg3 (by rfl)) (Wn.none rfl) rfl rfl ?_
    exact WR.nil (kk _ _ H (Mem.le.refl _))
   ·
    refine WR.call H (R_Padded_ct hx34) rfl trivial (Wn.none rfl) rfl ?_
    intro v46 M w H hle hR
    obtain rfl := hR
    exact WR.nil (kk _ _ H hle)
   ·
    refine WR.step (Ex.strAddC rfl rfl hxs35) (Wn.none rfl) rfl rfl ?_
    exact WR.nil (kk _ _ H (Mem.le.refl _))
   ·
    refine WR.step (Ex.strAddC rfl rfl hxs36) (Wn.none rfl) rfl rfl ?_
    exact WR.nil (kk _ _ H (Mem.le.refl _))
   ·
    refine WR.step (Ex.fieldAddr Tryz.underlying23 rfl Tryz.sizeOf3 (by decide) rfl) (Wn.none rfl) rfl rfl ?_
    exact WR.nil (kk _ _ H (Mem.le.refl _))
   ·
    refine WR.step (Ex.load1 H rfl (by repeat (first | exact List.Mem.head _ | apply List.Mem.tail)) Tryz.isAgg3 (by rfl)) (Wn.none rfl) rfl rfl ?_
    exact WR.nil (kk _ _ H (Mem.le.refl _))
   ·
    refine WR.call H (R_Padded_ct hx38) rfl trivial (Wn.none rfl) rfl ?_
    intro v51 M w H hle hR
    obtain rfl := hR
    exact WR.nil (kk _ _ H hle)
   ·
    refine WR.step (Ex.strAddC rfl rfl hxs39) (Wn.none rfl) rfl rfl ?_
    exact WR.nil (kk _ _ H (Mem.le.refl _))
   ·
    refine WR.step (Ex.strAddC rfl rfl hxs40) (Wn.none rfl) rfl rfl ?_
    exact WR.nil (kk _ _ H (Mem.le.refl _))
   ·
    refine WR.step (Ex.fieldAddr Tryz.underlying23 rfl Tryz.sizeOf3 (by decide) rfl) (Wn.none rfl) rfl rfl ?_
    exact WR.nil (kk _ _ H (Mem.le.refl _))
   ·
    refine WR.step (Ex.load1 H rfl (by repeat (first | exact List.Mem.head _ | apply List.Mem.tail)) Tryz.isAgg3 (by rfl)) (Wn.none rfl) rfl rfl ?_
    exact WR.nil (kk _ _ H (Mem.le.refl _))
   ·
    refine WR.call H (R_Padded_ct hx42) rfl trivial (Wn.none rfl) rfl ?_
    intro v56 M w H hle hR
    obtain rfl := hR
    exact WR.nil (kk _ _ H hle)
   ·
    refine WR.step (Ex.strAddC rfl rfl hxs43) (Wn.none rfl) rfl rfl ?_
    exact WR.nil (kk _ _ H (Mem.le.refl _))
   ·
    refine WR.step (Ex.strAddC rfl rfl hxs44) (Wn.none rfl) rfl rfl ?_
    exact WR.nil (kk _ _ H (Mem.le.refl _))
   ·
    refine WR.step (Ex.move rfl) (Wn.none rfl) rfl rfl ?_
    exact WR.nil (kk _ _ H (Mem.le.refl _))
   ·
    refine WR.step (Ex.strAddC rfl rfl hxs45) (Wn.none rfl) rfl rfl ?_
    exact WR.nil (kk _ _ H (Mem.le.refl _))
   ·
    refine WR.step (Ex.assign rfl) (Wn.none rfl) rfl rfl ?_
    exact WR.nil (kk _ _ H (Mem.le.refl _))
   ·
    intro w M H hle
    refine WA.done (by kernel_rfl) ?_
    refine WQ.then ?_
    refine WC.ret ?_
    (repeat (first | refine WQ.thenRet ?_ | refine WQ.inBlockRet ?_ | refine WQ.cutRet ?_ | refine WQ.scRet ?_))
    obtain rfl := Option.some.inj h
    exact WQ.ret1 rfl rfl H.ext rfl
theorem L_DatesTextMatchesSpec_ct {p0 : (Int × Int × Int × Int × Int × Int × Int)} {r : Bool} (h : L_DatesTextMatchesSpec p0 = some r) : Ct Tryz.prog 5 [Value.agg #[I p0.1, I p0.2.1, I p0.2.2.1, I p0.2.2.2.1, I p0.2.2.2.2.1, I p0.2.2.2.2.2.1, I p0.2.2.2.2.2.2]] (fun M => GlF (fun w => ∃ tp p, w.var? Tryz.prog "strconv.ErrRange" = some #[.iface tp p]) M ∧ GlF (fun w => ∃ tp p, w.var? Tryz.prog "strconv.ErrSyntax" = some #[.iface tp p]) M ∧ GlF (fun w => ∃ m, w.cell? ⟨0, 0, none⟩ = some (.int .i64 m)) M ∧ GlF (fun w => Lib.TabIs Tryz.prog w "internal/strconv.uint64pow10" .u64 Lib.pow10Tab) M) (fun v M => v = Value.bool r) := by
  refine Ct.of Tryz.func5 (enters Tryz.func5 (by kernel_rfl) rfl) rfl rfl rfl ?_
  intro w0 M0 H hp
  obtain ⟨hg_errR, hg_errS, hg_maxl, hg_pow10⟩ := hp
  unfold L_DatesTextMatchesSpec at h
  refine WC.seq ?_
  refine WC.region ?_
  refine WR.box [_, _, _, _, _, _, _] H rfl rfl (Wn.none rfl) rfl ?_
  intro b1 w H
  refine WR.step (Ex.assign rfl) (Wn.none rfl) rfl rfl ?_
  refine WR.nil ?_
  refine WQ.then ?_
  refine WC.seq ?_
  refine WC.seq ?_
  obtain ⟨b1, hx2, h⟩ := bnd h
  refine WC.region ?_
  refine WR.call H (L_datesExample_ct hx2) rfl ⟨hg_errR, hg_errS, hg_maxl, hg_pow10⟩ (Wn.none rfl) rfl ?_
  intro v7 M w H hle hR
  replace hg_errR := hg_errR.mono hle
  replace hg_errS := hg_errS.mono hle
  replace hg_maxl := hg_maxl.mono hle
  replace hg_pow10 := hg_pow10.mono hle
  obtain rfl := hR
  refine WR.step (Ex.not rfl) (Wn.none rfl) rfl rfl ?_
  refine WR.nil ?_
  refine WQ.then ?_
  refine WC.condB rfl (fun hk3 => ?_) (fun hk3 => ?_)
  ·
   replace hk3 : b1 = false := by simpa using hk3
   subst hk3
   rw [if_neg Bool.false_ne_true] at h
   refine WC.seq ?_
   refine WC.region ?_
   refine WR.step (Ex.assign rfl) (Wn.none rfl) rfl rfl ?_
   refine WR.nil ?_
   refine WQ.then ?_
   refine WC.ret ?_
   (repeat (first | refine WQ.thenRet ?_ | refine WQ.inBlockRet ?_ | refine WQ.cutRet ?_ | refine WQ.scRet ?_))
   obtain rfl := Option.some.inj h
   exact WQ.ret1 rfl rfl H.ext rfl
  ·
   replace hk3 : b1 = true := by simpa using hk3
   subst hk3
   rw [if_pos rfl] at h
   refine WC.skip ?_
   refine WQ.then ?_
   refine WC.seq ?_
   obtain ⟨⟨s4, ⟨n5, n6⟩⟩, hx7, h⟩ := bnd h
   try dsimp only at h
   refine WC.region ?_
   refine WR.step (Ex.loadAgg H rfl (by repeat (first | exact List.Mem.head _ | apply List.Mem.tail)) Tryz.isAgg23 Tryz.sizeOf23 (by rfl)) (Wn.none rfl) rfl rfl ?_
   refine WR.call H (dates_Print_ct hx7) rfl (hg_pow10) (Wn.none rfl) rfl ?_
   intro v11 M w H hle hR
   replace hg_errR := hg_errR.mono hle
   replace hg_errS := hg_errS.mono hle
   replace hg_maxl := hg_maxl.mono hle
   replace hg_pow10 := hg_pow10.mono hle
   try dsimp only at hR
   obtain rfl := hR
   refine WR.step (Ex.move rfl) (Wn.none rfl) rfl rfl ?_
   refine WR.step (Ex.extract rfl rfl) (Wn.none rfl) rfl rfl ?_
   refine WR.step (Ex.extract rfl rfl) (Wn.none rfl) rfl rfl ?_
   refine WR.alloc [_, _] H Tryz.zeroValue26 rfl (Wn.none rfl) rfl ?_
   intro b4 w H
   refine WR.step (Ex.assign rfl) (Wn.none rfl) rfl rfl ?_
   refine WR.store [_, _] H rfl rfl rfl (by repeat (first | exact Upd.head | apply Upd.tail)) Tryz.sizeOf26 rfl (by rfl) (by rfl) (Wn.none rfl) ?_
   intro w H
   refine WR.nil ?_
   refine WQ.then ?_
   refine WC.seq ?_
   refine WC.seq ?_
   obtain ⟨⟨n8, n9⟩, hx10, h⟩ := bnd h
   try dsimp only at h
   refine WC.region ?_
   refine WR.step (Ex.loadAgg H rfl (by repeat (first | exact List.Mem.head _ | apply List.Mem.tail)) Tryz.isAgg23 Tryz.sizeOf23 (by rfl)) (Wn.none rfl) rfl rfl ?_
   refine WR.call H (R_DateFault_ct hx10) rfl trivial (Wn.none rfl) rfl ?_
   intro v15 M w H hle hR
   replace hg_errR := hg_errR.mono hle
   replace hg_errS := hg_errS.mono hle
   replace hg_maxl := hg_maxl.mono hle
   replace hg_pow10 := hg_pow10.mono hle
   try dsimp only at hR
   obtain rfl := hR
   refine WR.step (Ex.field Tryz.underlying26 rfl Tryz.isAgg3 rfl rfl) (Wn.none rfl) rfl rfl ?_
   refine WR.step (Ex.neqC rfl rfl) (Wn.none rfl) rfl rfl ?_
   refine WR.nil ?_
   refine WQ.then ?_
   refine WC.condB rfl (fun hk11 => ?_) (fun hk11 => ?_)
   ·
    replace hk11 : ¬ (n8 = (0 : Int)) := of_not_decide hk11
    rw [if_neg hk11] at h
    refine WC.seq ?_
    obtain ⟨o12, e13, h⟩ := bnd h
    refine WC.cutX (fun e w => ∃ (b14 : Bool) (M : Mem), e = [(2, Value.bool b14)] ∧ St w0 M0 M [] w ∧ GlF (fun w => ∃ tp p, w.var? Tryz.prog "strconv.ErrRange" = some #[.iface tp p]) M ∧ GlF (fun w => ∃ tp p, w.var? Tryz.prog "strconv.ErrSyntax" = some #[.iface tp p]) M ∧ GlF (fun w => ∃ m, w.cell? ⟨0, 0, none⟩ = some (.int .i64 m)) M ∧ GlF (fun w => Lib.TabIs Tryz.prog w "internal/strconv.uint64pow10" .u64 Lib.pow10Tab) M ∧ some b14 = some o12) [] ?_ ?_ (trivial)
    ·
     obtain ⟨⟨n15, n16⟩, hx17, e13⟩ := bnd e13
     try dsimp only at e13
     refine WC.draw (m := 9) rfl rfl H ?_
     intro w H
     refine WA.takeM (i := 1) [0] rfl (by kernel_rfl) (by kernel_rfl) (by kernel_rfl) (Ex.loadAgg H rfl (by repeat (first | exact List.Mem.head _ | apply List.Mem.tail)) Tryz.isAgg23 Tryz.sizeOf23 (by rfl)) (Wn.none rfl) rfl rfl (fun _ _ => rfl) ?_
     by_cases hk18 : n5 = n15 ∧ n6 = n16
     ·
      rw [if_pos hk18] at e13
      refine WA.two (i := 0) (j := 2) (by kernel_rfl) rfl rfl ?_ ?_
      ·
       refine WR.step (Ex.loadAgg H rfl (by repeat (first | exact List.Mem.head _ | apply List.Mem.tail)) Tryz.isAgg26 Tryz.sizeOf26 (by rfl)) (Wn.none rfl) rfl rfl ?_
       refine WR.nil (WQ.any ?_)
       refine WA.seq (fuel := 0) [2, 3, 4, 5, 6, 7, 8] rfl (by kernel_rfl) ?_
       refine WR.call H (R_DateFault_ct hx17) rfl trivial (Wn.none rfl) rfl ?_
       intro v20 M w H hle hR
       replace hg_errR := hg_errR.mono hle
       replace hg_errS := hg_errS.mono hle
       replace hg_maxl := hg_maxl.mono hle
       replace hg_pow10 := hg_pow10.mono hle
       try dsimp only at hR
       obtain rfl := hR
       refine WR.stepE (v' := .bool true) (Ex.eqlAgg rfl rfl (by kernel_rfl) (xeq26 n5 n15 n6 n16)) (congrArg Value.bool (decide_eq_true hk18)) (Wn.none rfl) rfl rfl ?_
       refine WR.step (Ex.move rfl) (Wn.none rfl) rfl rfl ?_
       refine WR.step (Ex.move rfl) (Wn.some rfl rfl rfl) rfl rfl ?_
       refine WR.step (Ex.strEql rfl rfl) (Wn.some rfl rfl rfl) rfl rfl ?_
       refine WR.step (Ex.pickT rfl rfl) (Wn.none rfl) rfl rfl ?_
       refine WR.step (Ex.assign rfl) (Wn.none rfl) rfl rfl ?_
       refine WR.nil (WQ.any ?_)
       refine WA.done (by kernel_rfl) ?_
       exact WQ.meetN [(2, _)] ⟨rfl, trivial⟩ ⟨_, _, rfl, (H.pick (L' := []) (by repeat (first | exact Pick.nil | refine Pick.cons (by repeat (first | exact Rem.head | apply Rem.tail)) ?_))), hg_errR, hg_errS, hg_maxl, hg_pow10, e13⟩
      ·
       refine WR.call H (R_DateFault_ct hx17) rfl trivial (Wn.none rfl) rfl ?_
       intro v20 M w H hle hR
       replace hg_errR := hg_errR.mono hle
       replace hg_errS := hg_errS.mono hle
       replace hg_maxl := hg_maxl.mono hle
       replace hg_pow10 := hg_pow10.mono hle
       try dsimp only at hR
       obtain rfl := hR
       refine WR.nil (WQ.any ?_)
       refine WA.seq (fuel := 0) [0, 3, 4, 5, 6, 7, 8] rfl (by kernel_rfl) ?_
       refine WR.step (Ex.loadAgg H rfl (by repeat (first | exact List.Mem.head _ | apply List.Mem.tail)) Tryz.isAgg26 Tryz.sizeOf26 (by rfl)) (Wn.none rfl) rfl rfl ?_
       refine WR.stepE (v' := .bool true) (Ex.eqlAgg rfl rfl (by kernel_rfl) (xeq26 n5 n15 n6 n16)) (congrArg Value.bool (decide_eq_true hk18)) (Wn.none rfl) rfl rfl ?_
       refine WR.step (Ex.move rfl) (Wn.none rfl) rfl rfl ?_
       refine WR.step (Ex.move rfl) (Wn.some rfl rfl rfl) rfl rfl ?_
       refine WR.step (Ex.strEql rfl rfl) (Wn.some rfl rfl rfl) rfl rfl ?_
       refine WR.step (Ex.pickT rfl rfl) (Wn.none rfl) rfl rfl ?_
       refine WR.step (Ex.assign rfl) (Wn.none rfl) rfl rfl ?_
       refine WR.nil (WQ.any ?_)
       refine WA.done (by kernel_rfl) ?_
       exact WQ.meetN [(2, _)] ⟨rfl, trivial⟩ ⟨_, _, rfl, (H.pick (L' := []) (by repeat (first | exact Pick.nil | refine Pick.cons (by repeat (first | exact Rem.head | apply Rem.tail)) ?_))), hg_errR, hg_errS, hg_maxl, hg_pow10, e13⟩
     ·
      rw [if_neg hk18] at e13
      refine WA.two (i := 0) (j := 2) (by kernel_rfl) rfl rfl ?_ ?_
      ·
       refine WR.step (Ex.loadAgg H rfl (by repeat (first | exact List.Mem.head _ | apply List.Mem.tail)) Tryz.isAgg26 Tryz.sizeOf26 (by rfl)) (Wn.none rfl) rfl rfl ?_
       refine WR.nil (WQ.any ?_)
       refine WA.seq (fuel := 0) [2, 3, 4, 5, 6, 7, 8] rfl (by kernel_rfl) ?_
       refine WR.call H (R_DateFault_ct hx17) rfl trivial (Wn.none rfl) rfl ?_
       intro v20 M w H hle hR
       replace hg_errR := hg_errR.mono hle
       replace hg_errS := hg_errS.mono hle
       replace hg_maxl := hg_maxl.mono hle
       replace hg_pow10 := hg_pow10.mono hle
       try dsimp only at hR
       obtain rfl := hR
       refine WR.stepE (v' := .bool false) (Ex.eqlAgg rfl rfl (by kernel_rfl) (xeq26 n5 n15 n6 n16)) (congrArg Value.bool (decide_eq_false hk18)) (Wn.none rfl) rfl rfl ?_
       refine WR.step (Ex.move rfl) (Wn.none rfl) rfl rfl ?_
       refine WR.skipG (b := false) rfl rfl rfl rfl rfl ?_
       refine WR.skipG (b := false) rfl rfl rfl rfl rfl ?_
       refine WR.step (Ex.pickF rfl rfl) (Wn.none rfl) rfl rfl ?_
       refine WR.step (Ex.assign rfl) (Wn.none rfl) rfl rfl ?_
       refine WR.nil (WQ.any ?_)
       refine WA.done (by kernel_rfl) ?_
       exact WQ.meetN [(2, _)] ⟨rfl, trivial⟩ ⟨_, _, rfl, (H.pick (L' := []) (by repeat (first | exact Pick.nil | refine Pick.cons (by repeat (first | exact Rem.head | apply Rem.tail)) ?_))), hg_errR, hg_errS, hg_maxl, hg_pow10, e13⟩
      ·
       refine WR.call H (R_DateFault_ct hx17) rfl trivial (Wn.none rfl) rfl ?_
       intro v20 M w H hle hR
       replace hg_errR := hg_errR.mono hle
       replace hg_errS := hg_errS.mono hle
       replace hg_maxl := hg_maxl.mono hle
       replace hg_pow10 := hg_pow10.mono hle
       try dsimp only at hR
       obtain rfl := hR
       refine WR.nil (WQ.any ?_)
       refine WA.seq (fuel := 0) [0, 3, 4, 5, 6, 7, 8] rfl (by kernel_rfl) ?_
       refine WR.step (Ex.loadAgg H rfl (by repeat (first | exact List.Mem.head _ | apply List.Mem.tail)) Tryz.isAgg26 Tryz.sizeOf26 (by rfl)) (Wn.none rfl) rfl rfl ?_
       refine WR.stepE (v' := .bool false) (Ex.eqlAgg rfl rfl (by kernel_rfl) (xeq26 n5 n15 n6 n16)) (congrArg Value.bool (decide_eq_false hk18)) (Wn.none rfl) rfl rfl ?_
       refine WR.step (Ex.move rfl) (Wn.none rfl) rfl rfl ?_
       refine WR.skipG (b := false) rfl rfl rfl rfl rfl ?_
       refine WR.skipG (b := false) rfl rfl rfl rfl rfl ?_
       refine WR.step (Ex.pickF rfl rfl) (Wn.none rfl) rfl rfl ?_
       refine WR.step (Ex.assign rfl) (Wn.none rfl) rfl rfl ?_
       refine WR.nil (WQ.any ?_)
       refine WA.done (by kernel_rfl) ?_
       exact WQ.meetN [(2, _)] ⟨rfl, trivial⟩ ⟨_, _, rfl, (H.pick (L' := []) (by repeat (first | exact Pick.nil | refine Pick.cons (by repeat (first | exact Rem.head | apply Rem.tail)) ?_))), hg_errR, hg_errS, hg_maxl, hg_pow10, e13⟩
    ·
     rintro e w ⟨b14, M, rfl, H, hg_errR, hg_errS, hg_maxl, hg_pow10, q19⟩
     obtain rfl := Option.some.inj q19
     refine WQ.then ?_
     refine WC.ret ?_
     (repeat (first | refine WQ.thenRet ?_ | refine WQ.inBlockRet ?_ | refine WQ.cutRet ?_ | refine WQ.scRet ?_))
     obtain rfl := Option.some.inj h
     exact WQ.ret1 rfl rfl H.ext rfl
   ·
    replace hk11 : n8 = (0 : Int) := of_not_decide' hk11
    rw [if_pos hk11] at h
    refine WC.skip ?_
    refine WQ.then ?_
    refine WC.seq ?_
    obtain ⟨⟨⟨n20, n21, n22, n23, n24, n25, n26⟩, ⟨n27, n28⟩⟩, hx29, h⟩ := bnd h
    try dsimp only at h
    refine WC.region ?_
    refine WR.step (Ex.move rfl) (Wn.none rfl) rfl rfl ?_
    refine WR.call H (dates_Parse_ct hx29) rfl ⟨hg_errR, hg_errS, hg_maxl⟩ (Wn.none rfl) rfl ?_
    intro v28 M w H hle hR
    replace hg_errR := hg_errR.mono hle
    replace hg_errS := hg_errS.mono hle
    replace hg_maxl := hg_maxl.mono hle
    replace hg_pow10 := hg_pow10.mono hle
    try dsimp only at hR
    obtain rfl := hR
    refine WR.step (Ex.move rfl) (Wn.none rfl) rfl rfl ?_
    refine WR.step (Ex.extract rfl rfl) (Wn.none rfl) rfl rfl ?_
    refine WR.step (Ex.extract rfl rfl) (Wn.none rfl) rfl rfl ?_
    refine WR.alloc [_, _, _, _, _, _, _] H Tryz.zeroValue23 rfl (Wn.none rfl) rfl ?_
    intro b5 w H
    refine WR.alloc [_, _] H Tryz.zeroValue26 rfl (Wn.none rfl) rfl ?_
    intro b6 w H
    refine WR.store [_, _, _, _, _, _, _] H rfl rfl rfl (by repeat (first | exact Upd.head | apply Upd.tail)) Tryz.sizeOf23 rfl (by rfl) (by rfl) (Wn.none rfl) ?_
    intro w H
    refine WR.store [_, _] H rfl rfl rfl (by repeat (first | exact Upd.head | apply Upd.tail)) Tryz.sizeOf26 rfl (by rfl) (by rfl) (Wn.none rfl) ?_
    intro w H
    refine WR.nil ?_
    refine WQ.then ?_
    refine WC.seq ?_
    obtain ⟨o30, e31, h⟩ := bnd h
    refine WC.cutX (fun e w => ∃ (b32 : Bool) (M : Mem), e = [(2, Value.bool b32)] ∧ St w0 M0 M [] w ∧ GlF (fun w => ∃ tp p, w.var? Tryz.prog "strconv.ErrRange" = some #[.iface tp p]) M ∧ GlF (fun w => ∃ tp p, w.var? Tryz.prog "strconv.ErrSyntax" = some #[.iface tp p]) M ∧ GlF (fun w => ∃ m, w.cell? ⟨0, 0, none⟩ = some (.int .i64 m)) M ∧ GlF (fun w => Lib.TabIs Tryz.prog w "internal/strconv.uint64pow10" .u64 Lib.pow10Tab) M ∧ some b32 = some o30) [] ?_ ?_ (trivial)
    ·
     refine WC.region ?_
     refine WR.step (Ex.fieldAddr Tryz.underlying26 rfl Tryz.sizeOf3 (by decide) rfl) (Wn.none rfl) rfl rfl ?_
     refine WR.step (Ex.load1 H rfl (by repeat (first | exact List.Mem.head _ | apply List.Mem.tail)) Tryz.isAgg3 (by rfl)) (Wn.none rfl) rfl rfl ?_
     by_cases hk33 : n5 = (0 : Int)
     ·
      rw [if_pos hk33] at e31
      by_cases hk34 : n27 = (0 : Int)
      ·
       rw [if_pos hk34] at e31
       obtain ⟨s35, hx36, e31⟩ := bnd e31
       by_cases hk37 : s4 = s35
       ·
        rw [if_pos hk37] at e31
        refine WR.stepE (v' := .bool true) (Ex.eql rfl rfl) (congrArg Value.bool (decide_eq_true hk33)) (Wn.none rfl) rfl rfl ?_
        refine WR.step (Ex.move rfl) (Wn.none rfl) rfl rfl ?_
        refine WR.step (Ex.fieldAddr Tryz.underlying26 rfl Tryz.sizeOf3 (by decide) rfl) (Wn.some rfl rfl rfl) rfl rfl ?_
        refine WR.step (Ex.load1 H rfl (by repeat (first | exact List.Mem.head _ | apply List.Mem.tail)) Tryz.isAgg3 (by rfl)) (Wn.some rfl rfl rfl) rfl rfl ?_
        refine WR.stepE (v' := .bool true) (Ex.eql rfl rfl) (congrArg Value.bool (decide_eq_true hk34)) (Wn.some rfl rfl rfl) rfl rfl ?_
        refine WR.step (Ex.pickT rfl rfl) (Wn.none rfl) rfl rfl ?_
        refine WR.step (Ex.move rfl) (Wn.none rfl) rfl rfl ?_
        refine WR.step (Ex.move rfl) (Wn.some rfl rfl rfl) rfl rfl ?_
        refine WR.step (Ex.loadAgg H rfl (by repeat (first | exact List.Mem.head _ | apply List.Mem.tail)) Tryz.isAgg23 Tryz.sizeOf23 (by rfl)) (Wn.some rfl rfl rfl) rfl rfl ?_
        refine WR.call H (R_DateText_ct hx36) rfl trivial (Wn.some rfl rfl rfl) rfl ?_
        intro v42 M w H hle hR
        replace hg_errR := hg_errR.mono hle
        replace hg_errS := hg_errS.mono hle
        replace hg_maxl := hg_maxl.mono hle
        replace hg_pow10 := hg_pow10.mono hle
        obtain rfl := hR
        refine WR.stepE (v' := .bool true) (Ex.strEql rfl rfl) (congrArg Value.bool (decide_eq_true hk37)) (Wn.some rfl rfl rfl) rfl rfl ?_
        refine WR.step (Ex.pickT rfl rfl) (Wn.none rfl) rfl rfl ?_
        refine WR.step (Ex.move rfl) (Wn.none rfl) rfl rfl ?_
        refine WR.step (Ex.loadAgg H rfl (by repeat (first | exact List.Mem.head _ | apply List.Mem.tail)) Tryz.isAgg23 Tryz.sizeOf23 (by rfl)) (Wn.some rfl rfl rfl) rfl rfl ?_
        refine WR.step (Ex.loadAgg H rfl (by repeat (first | exact List.Mem.head _ | apply List.Mem.tail)) Tryz.isAgg23 Tryz.sizeOf23 (by rfl)) (Wn.some rfl rfl rfl) rfl rfl ?_
        refine WR.step (Ex.eqlAgg rfl rfl (by kernel_rfl) (xeq23 n20 p0.1 n21 p0.2.1 n22 p0.2.2.1 n23 p0.2.2.2.1 n24 p0.2.2.2.2.1 n25 p0.2.2.2.2.2.1 n26 p0.2.2.2.2.2.2)) (Wn.some rfl rfl rfl) rfl rfl ?_
        refine WR.step (Ex.pickT rfl rfl) (Wn.none rfl) rfl rfl ?_
        refine WR.step (Ex.assign rfl) (Wn.none rfl) rfl rfl ?_
        refine WR.nil ?_
        exact WQ.meetN [(2, _)] ⟨rfl, trivial⟩ ⟨_, _, rfl, (H.pick (L' := []) (by repeat (first | exact Pick.nil | refine Pick.cons (by repeat (first | exact Rem.head | apply Rem.tail)) ?_))), hg_errR, hg_errS, hg_maxl, hg_pow10, e31⟩
       ·
        rw [if_neg hk37] at e31
        refine WR.stepE (v' := .bool true) (Ex.eql rfl rfl) (congrArg Value.bool (decide_eq_true hk33)) (Wn.none rfl) rfl rfl ?_
        refine WR.step (Ex.move rfl) (Wn.none rfl) rfl rfl ?_
        refine WR.step (Ex.fieldAddr Tryz.underlying26 rfl Tryz.sizeOf3 (by decide) rfl) (Wn.some rfl rfl rfl) rfl rfl ?_
        refine WR.step (Ex.load1 H rfl (by repeat (first | exact List.Mem.head _ | apply List.Mem.tail)) Tryz.isAgg3 (by rfl)) (Wn.some rfl rfl rfl) rfl rfl ?_
        refine WR.stepE (v' := .bool true) (Ex.eql rfl rfl) (congrArg Value.bool (decide_eq_true hk34)) (Wn.some rfl rfl rfl) rfl rfl ?_
        refine WR.step (Ex.pickT rfl rfl) (Wn.none rfl) rfl rfl ?_
        refine WR.step (Ex.move rfl) (Wn.none rfl) rfl rfl ?_
        refine WR.step (Ex.move rfl) (Wn.some rfl rfl rfl) rfl rfl ?_
        refine WR.step (Ex.loadAgg H rfl (by repeat (first | exact List.Mem.head _ | apply List.Mem.tail)) Tryz.isAgg23 Tryz.sizeOf23 (by rfl)) (Wn.some rfl rfl rfl) rfl rfl ?_
        refine WR.call H (R_DateText_ct hx36) rfl trivial (Wn.some rfl rfl rfl) rfl ?_
        intro v42 M w H hle hR
        replace hg_errR := hg_errR.mono hle
        replace hg_errS := hg_errS.mono hle
        replace hg_maxl := hg_maxl.mono hle
        replace hg_pow10 := hg_pow10.mono hle
        obtain rfl := hR
        refine WR.stepE (v' := .bool false) (Ex.strEql rfl rfl) (congrArg Value.bool (decide_eq_false hk37)) (Wn.some rfl rfl rfl) rfl rfl ?_
        refine WR.step (Ex.pickT rfl rfl) (Wn.none rfl) rfl rfl ?_
        refine WR.step (Ex.move rfl) (Wn.none rfl) rfl rfl ?_
        refine WR.skipN 3 rfl rfl ?_
        refine WR.step (Ex.pickF rfl rfl) (Wn.none rfl) rfl rfl ?_
        refine WR.step (Ex.assign rfl) (Wn.none rfl) rfl rfl ?_
        refine WR.nil ?_
        exact WQ.meetN [(2, _)] ⟨rfl, trivial⟩ ⟨_, _, rfl, (H.pick (L' := []) (by repeat (first | exact Pick.nil | refine Pick.cons (by repeat (first | exact Rem.head | apply Rem.tail)) ?_))), hg_errR, hg_errS, hg_maxl, hg_pow10, e31⟩
      ·
       rw [if_neg hk34] at e31
       refine WR.stepE (v' := .bool true) (Ex.eql rfl rfl) (congrArg Value.bool (decide_eq_true hk33)) (Wn.none rfl) rfl rfl ?_
       refine WR.step (Ex.move rfl) (Wn.none rfl) rfl rfl ?_
       refine WR.step (Ex.fieldAddr Tryz.underlying26 rfl Tryz.sizeOf3 (by decide) rfl) (Wn.some rfl rfl rfl) rfl rfl ?_
       refine WR.step (Ex.load1 H rfl (by repeat (first | exact List.Mem.head _ | apply List.Mem.tail)) Tryz.isAgg3 (by rfl)) (Wn.some rfl rfl rfl) rfl rfl ?_
       refine WR.stepE (v' := .bool false) (Ex.eql rfl rfl) (congrArg Value.bool (decide_eq_false hk34)) (Wn.some rfl rfl rfl) rfl rfl ?_
       refine WR.step (Ex.pickT rfl rfl) (Wn.none rfl) rfl rfl ?_
       refine WR.step (Ex.move rfl) (Wn.none rfl) rfl rfl ?_
       refine WR.skipN 4 rfl rfl ?_
       refine WR.step (Ex.pickF rfl rfl) (Wn.none rfl) rfl rfl ?_
       refine WR.step (Ex.move rfl) (Wn.none rfl) rfl rfl ?_
       refine WR.skipN 3 rfl rfl ?_
       refine WR.step (Ex.pickF rfl rfl) (Wn.none rfl) rfl rfl ?_
       refine WR.step (Ex.assign rfl) (Wn.none rfl) rfl rfl ?_
       refine WR.nil ?_
       exact WQ.meetN [(2, _)] ⟨rfl, trivial⟩ ⟨_, _, rfl, (H.pick (L' := []) (by repeat (first | exact Pick.nil | refine Pick.cons (by repeat (first | exact Rem.head | apply Rem.tail)) ?_))), hg_errR, hg_errS, hg_maxl, hg_pow10, e31⟩
     ·
      rw [if_neg hk33] at e31
      refine WR.stepE (v' := .bool false) (Ex.eql rfl rfl) (congrArg Value.bool (decide_eq_false hk33)) (Wn.none rfl) rfl rfl ?_
      refine WR.step (Ex.move rfl) (Wn.none rfl) rfl rfl ?_
      refine WR.skipN 3 rfl rfl ?_
      refine WR.step (Ex.pickF rfl rfl) (Wn.none rfl) rfl rfl ?_
      refine WR.step (Ex.move rfl) (Wn.none rfl) rfl rfl ?_
      refine WR.skipN 4 rfl rfl ?_
      refine WR.step (Ex.pickF rfl rfl) (Wn.none rfl) rfl rfl ?_
      refine WR.step (Ex.move rfl) (Wn.none rfl) rfl rfl ?_
      refine WR.skipN 3 rfl rfl ?_
      refine WR.step (Ex.pickF rfl rfl) (Wn.none rfl) rfl rfl ?_
      refine WR.step (Ex.assign rfl) (Wn.none rfl) rfl rfl ?_
      refine WR.nil ?_
      exact WQ.meetN [(2, _)] ⟨rfl, trivial⟩ ⟨_, _, rfl, (H.pick (L' := []) (by repeat (first | exact Pick.nil | refine Pick.cons (by repeat (first | exact Rem.head | apply Rem.tail)) ?_))), hg_errR, hg_errS, hg_maxl, hg_pow10, e31⟩
    ·
     rintro e w ⟨b32, M, rfl, H, hg_errR, hg_errS, hg_maxl, hg_pow10, q38⟩
     obtain rfl := Option.some.inj q38
     refine WQ.then ?_
     refine WC.ret ?_
     (repeat (first | refine WQ.thenRet ?_ | refine WQ.inBlockRet ?_ | refine WQ.cutRet ?_ | refine WQ.scRet ?_))
     obtain rfl := Option.some.inj h
     exact WQ.ret1 rfl rfl H.ext rfl
end Go.Proofs.YtlopnlagpdchiaaGreatDoor
