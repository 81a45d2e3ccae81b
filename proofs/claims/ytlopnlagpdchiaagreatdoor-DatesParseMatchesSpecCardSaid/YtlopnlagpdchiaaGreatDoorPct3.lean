/-
  Dates: contracts of the program's functions over their plain forms, written by wip/tools/ext.py.
-/
import Derived.Test.YtlopnlagpdchiaaGreatDoorPct2
import Derived.KernelRfl
set_option maxRecDepth 100000
set_option linter.unusedVariables false
set_option linter.unusedSimpArgs false
namespace Go.Proofs.YtlopnlagpdchiaaGreatDoor
open Go Go.RowKit Go.Ph Go.Ph.Pl Go.Ph.Pf
theorem R_Leap_ct {p0 : Int} {r : Bool} (h : R_Leap p0 = some r) : Ct Tryz.prog 46 [I p0] (fun M => True) (fun v M => v = Value.bool r) := by
  refine Ct.of Tryz.func46 (enters Tryz.func46 (by kernel_rfl) rfl) rfl rfl rfl ?_
  intro w0 M0 H hp
  unfold R_Leap at h
  refine WC.seq ?_
  refine WC.region ?_
  refine WR.step (Ex.assign rfl) (Wn.none rfl) rfl rfl ?_
  refine WR.nil ?_
  refine WQ.then ?_
  refine WC.seq ?_
  obtain ⟨o1, e2, h⟩ := bnd h
  refine WC.cutX (fun e w => ∃ (b3 : Bool) (M : Mem), e = [(2, Value.bool b3)] ∧ St w0 M0 M [] w ∧ some b3 = some o1) [] ?_ ?_ (trivial)
  ·
   obtain ⟨n4, hxn4, e2⟩ := bnd e2
   refine WC.region ?_
   refine WR.step (Ex.move rfl) (Wn.none rfl) rfl rfl ?_
   refine WR.step (Ex.remC rfl rfl hxn4) (Wn.none rfl) rfl rfl ?_
   by_cases hk5 : n4 = (0 : Int)
   ·
    rw [if_pos hk5] at e2
    obtain ⟨n6, hxn6, e2⟩ := bnd e2
    by_cases hk7 : n6 = (0 : Int)
    ·
     rw [if_pos hk7] at e2
     obtain ⟨n8, hxn8, e2⟩ := bnd e2
     refine WR.stepE (v' := .bool true) (Ex.eql rfl rfl) (congrArg Value.bool (decide_eq_true hk5)) (Wn.none rfl) rfl rfl ?_
     refine WR.step (Ex.move rfl) (Wn.none rfl) rfl rfl ?_
     refine WR.step (Ex.move rfl) (Wn.some rfl rfl rfl) rfl rfl ?_
     refine WR.step (Ex.remC rfl rfl hxn6) (Wn.some rfl rfl rfl) rfl rfl ?_
     refine WR.stepE (v' := .bool false) (Ex.neqC rfl rfl) (congrArg Value.bool (by rw [decide_eq_true hk7]; rfl)) (Wn.some rfl rfl rfl) rfl rfl ?_
     refine WR.step (Ex.pickT rfl rfl) (Wn.none rfl) rfl rfl ?_
     refine WR.step (Ex.move rfl) (Wn.none rfl) rfl rfl ?_
     refine WR.step (Ex.move rfl) (Wn.some rfl rfl rfl) rfl rfl ?_
     refine WR.step (Ex.remC rfl rfl hxn8) (Wn.some rfl rfl rfl) rfl rfl ?_
     refine WR.step (Ex.eql rfl rfl) (Wn.some rfl rfl rfl) rfl rfl ?_
     refine WR.step (Ex.pickF rfl rfl) (Wn.none rfl) rfl rfl ?_
     refine WR.step (Ex.assign rfl) (Wn.none rfl) rfl rfl ?_
     refine WR.nil ?_
     exact WQ.meetN [(2, _)] ⟨rfl, trivial⟩ ⟨_, _, rfl, H, e2⟩
    ·
     rw [if_neg hk7] at e2
     refine WR.stepE (v' := .bool true) (Ex.eql rfl rfl) (congrArg Value.bool (decide_eq_true hk5)) (Wn.none rfl) rfl rfl ?_
     refine WR.step (Ex.move rfl) (Wn.none rfl) rfl rfl ?_
     refine WR.step (Ex.move rfl) (Wn.some rfl rfl rfl) rfl rfl ?_
     refine WR.step (Ex.remC rfl rfl hxn6) (Wn.some rfl rfl rfl) rfl rfl ?_
     refine WR.stepE (v' := .bool true) (Ex.neqC rfl rfl) (congrArg Value.bool (by rw [decide_eq_false hk7]; rfl)) (Wn.some rfl rfl rfl) rfl rfl ?_
     refine WR.step (Ex.pickT rfl rfl) (Wn.none rfl) rfl rfl ?_
     refine WR.step (Ex.move rfl) (Wn.none rfl) rfl rfl ?_
     refine WR.skipN 3 rfl rfl ?_
     refine WR.step (Ex.pickT rfl rfl) (Wn.none rfl) rfl rfl ?_
     refine WR.step (Ex.assign rfl) (Wn.none rfl) rfl rfl ?_
     refine WR.nil ?_
     exact WQ.meetN [(2, _)] ⟨rfl, trivial⟩ ⟨_, _, rfl, H, e2⟩
   ·
    rw [if_neg hk5] at e2
    obtain ⟨n9, hxn9, e2⟩ := bnd e2
    refine WR.stepE (v' := .bool false) (Ex.eql rfl rfl) (congrArg Value.bool (decide_eq_false hk5)) (Wn.none rfl) rfl rfl ?_
    refine WR.step (Ex.move rfl) (Wn.none rfl) rfl rfl ?_
    refine WR.skipN 3 rfl rfl ?_
    refine WR.step (Ex.pickF rfl rfl) (Wn.none rfl) rfl rfl ?_
    refine WR.step (Ex.move rfl) (Wn.none rfl) rfl rfl ?_
    refine WR.step (Ex.move rfl) (Wn.some rfl rfl rfl) rfl rfl ?_
    refine WR.step (Ex.remC rfl rfl hxn9) (Wn.some rfl rfl rfl) rfl rfl ?_
    refine WR.step (Ex.eql rfl rfl) (Wn.some rfl rfl rfl) rfl rfl ?_
    refine WR.step (Ex.pickF rfl rfl) (Wn.none rfl) rfl rfl ?_
    refine WR.step (Ex.assign rfl) (Wn.none rfl) rfl rfl ?_
    refine WR.nil ?_
    exact WQ.meetN [(2, _)] ⟨rfl, trivial⟩ ⟨_, _, rfl, H, e2⟩
  ·
   rintro e w ⟨b3, M, rfl, H, q10⟩
   obtain rfl := Option.some.inj q10
   refine WQ.then ?_
   refine WC.ret ?_
   (repeat (first | refine WQ.thenRet ?_ | refine WQ.inBlockRet ?_ | refine WQ.cutRet ?_ | refine WQ.scRet ?_))
   obtain rfl := Option.some.inj h
   exact WQ.ret1 rfl rfl H.ext rfl
theorem R_MonthDays_ct {p0 : Int} {p1 : Int} {r : Int} (h : R_MonthDays p0 p1 = some r) : Ct Tryz.prog 26 [I p0, I p1] (fun M => True) (fun v M => v = I r) := by
  refine Ct.of Tryz.func26 (enters Tryz.func26 (by kernel_rfl) rfl) rfl rfl rfl ?_
  intro w0 M0 H hp
  unfold R_MonthDays at h
  refine WC.seq ?_
  refine WC.region ?_
  refine WR.step (Ex.assign rfl) (Wn.none rfl) rfl rfl ?_
  refine WR.nil ?_
  refine WQ.then ?_
  refine WC.seq ?_
  refine WC.region ?_
  refine WR.lit (enc := encI) xty67 ([31, 28, 31, 30, 31, 30, 31, 31, 30, 31, 30, 31] : List Int) H rfl (by rfl) (fun _ => rfl) rfl rfl (Wn.none rfl) rfl ?_
  intro v6 M w H hle hs6
  refine WR.step (Ex.assign rfl) (Wn.none rfl) rfl rfl ?_
  refine WR.nil ?_
  refine WQ.then ?_
  refine WC.seq ?_
  refine WC.seq ?_
  obtain ⟨o1, e2, h⟩ := bnd h
  refine WC.cutX (fun e w => ∃ (b3 : Bool) (M : Mem), e = [(1, I p1), (5, v6), (12, Value.bool b3)] ∧ St w0 M0 M [] w ∧ Sl M encI v6 ([31, 28, 31, 30, 31, 30, 31, 31, 30, 31, 30, 31] : List Int) ∧ some b3 = some o1) [] ?_ ?_ (trivial)
  ·
   by_cases hk4 : p1 = (2 : Int)
   ·
    rw [if_pos hk4] at e2
    obtain ⟨b5, hx6, e2⟩ := bnd e2
    refine WC.region ?_
    refine WR.step (Ex.move rfl) (Wn.none rfl) rfl rfl ?_
    refine WR.stepE (v' := .bool true) (Ex.eql rfl rfl) (congrArg Value.bool (decide_eq_true hk4)) (Wn.none rfl) rfl rfl ?_
    refine WR.step (Ex.move rfl) (Wn.none rfl) rfl rfl ?_
    refine WR.step (Ex.move rfl) (Wn.some rfl rfl rfl) rfl rfl ?_
    refine WR.call H (R_Leap_ct hx6) rfl trivial (Wn.some rfl rfl rfl) rfl ?_
    intro v11 M w H hle hR
    replace hs6 := hs6.mono hle
    obtain rfl := hR
    refine WR.step (Ex.pickT rfl rfl) (Wn.none rfl) rfl rfl ?_
    refine WR.nil ?_
    exact WQ.meetN [(1, _), (5, _), (12, _)] ⟨rfl, rfl, rfl, trivial⟩ ⟨_, _, rfl, H, hs6, e2⟩
   ·
    rw [if_neg hk4] at e2
    refine WC.region ?_
    refine WR.step (Ex.move rfl) (Wn.none rfl) rfl rfl ?_
    refine WR.stepE (v' := .bool false) (Ex.eql rfl rfl) (congrArg Value.bool (decide_eq_false hk4)) (Wn.none rfl) rfl rfl ?_
    refine WR.step (Ex.move rfl) (Wn.none rfl) rfl rfl ?_
    refine WR.skipG (b := false) rfl rfl rfl rfl rfl ?_
    refine WR.skipG (b := false) rfl rfl rfl rfl rfl ?_
    refine WR.step (Ex.pickF rfl rfl) (Wn.none rfl) rfl rfl ?_
    refine WR.nil ?_
    exact WQ.meetN [(1, _), (5, _), (12, _)] ⟨rfl, rfl, rfl, trivial⟩ ⟨_, _, rfl, H, hs6, e2⟩
  ·
   rintro e w ⟨b3, M, rfl, H, hs6, q7⟩
   obtain rfl := Option.some.inj q7
   refine WQ.then ?_
   refine WC.condB rfl (fun hk8 => ?_) (fun hk8 => ?_)
   ·
    subst hk8
    rw [if_pos rfl] at h
    refine WC.seq ?_
    refine WC.region ?_
    refine WR.step (Ex.assign rfl) (Wn.none rfl) rfl rfl ?_
    refine WR.nil ?_
    refine WQ.then ?_
    refine WC.ret ?_
    (repeat (first | refine WQ.thenRet ?_ | refine WQ.inBlockRet ?_ | refine WQ.cutRet ?_ | refine WQ.scRet ?_))
    obtain rfl := Option.some.inj h
    exact WQ.ret1 rfl rfl H.ext rfl
   ·
    subst hk8
    rw [if_neg Bool.false_ne_true] at h
    refine WC.skip ?_
    refine WQ.then ?_
    refine WC.seq ?_
    obtain ⟨n9, hxn9, h⟩ := bnd h
    obtain ⟨a10, hxa10, h⟩ := bnd h
    refine WC.region ?_
    refine WR.step (Ex.move rfl) (Wn.none rfl) rfl rfl ?_
    refine WR.step (Ex.move rfl) (Wn.none rfl) rfl rfl ?_
    refine WR.step (Ex.subC rfl rfl hxn9) (Wn.none rfl) rfl rfl ?_
    refine WR.idxC Tryz.underlying67 Tryz.sizeOf3 (hs6) rfl rfl hxa10 (Wn.none rfl) rfl ?_
    intro p16 hc16
    refine WR.step (Ex.loadM H rfl hc16 Tryz.isAgg3) (Wn.none rfl) rfl rfl ?_
    refine WR.step (Ex.assign rfl) (Wn.none rfl) rfl rfl ?_
    refine WR.nil ?_
    refine WQ.then ?_
    refine WC.ret ?_
    (repeat (first | refine WQ.thenRet ?_ | refine WQ.inBlockRet ?_ | refine WQ.cutRet ?_ | refine WQ.scRet ?_))
    obtain rfl := Option.some.inj h
    exact WQ.ret1 rfl rfl H.ext rfl
theorem R_DateFault_ct {p0 : (Int × Int × Int × Int × Int × Int × Int)} {r : (Int × Int)} (h : R_DateFault p0 = some r) : Ct Tryz.prog 9 [Value.agg #[I p0.1, I p0.2.1, I p0.2.2.1, I p0.2.2.2.1, I p0.2.2.2.2.1, I p0.2.2.2.2.2.1, I p0.2.2.2.2.2.2]] (fun M => True) (fun v M => v = Value.agg #[I r.1, I r.2]) := by
  refine Ct.of Tryz.func9 (enters Tryz.func9 (by kernel_rfl) rfl) rfl rfl rfl ?_
  intro w0 M0 H hp
  unfold R_DateFault at h
  refine WC.seq ?_
  refine WC.region ?_
  refine WR.box [_, _, _, _, _, _, _] H rfl rfl (Wn.none rfl) rfl ?_
  intro b1 w H
  refine WR.alloc [_, _] H Tryz.zeroValue26 rfl (Wn.none rfl) rfl ?_
  intro b2 w H
  refine WR.nil ?_
  refine WQ.then ?_
  refine WC.seq ?_
  refine WC.seq ?_
  obtain ⟨o1, e2, h⟩ := bnd h
  refine WC.cutX (fun e w => ∃ (b3 : Bool) (M : Mem), e = [(2, ptr b2 0), (47, Value.bool b3)] ∧ St w0 M0 M [.blk b2 (.cells #[I 0, I 0] 26)] w ∧ some b3 = some o1) [] ?_ ?_ (trivial)
  ·
   obtain ⟨b4, hx5, e2⟩ := bnd e2
   refine WC.draw (m := 45) rfl rfl H ?_
   intro w H
   refine WA.seq (fuel := 40) [0, 1, 2, 3, 4] rfl (by kernel_rfl) ?_
   refine WR.step (Ex.fieldAddr Tryz.underlying23 rfl Tryz.sizeOf3 (by decide) rfl) (Wn.none rfl) rfl rfl ?_
   refine WR.step (Ex.load1 H rfl (by repeat (first | exact List.Mem.head _ | apply List.Mem.tail)) Tryz.isAgg3 (by rfl)) (Wn.none rfl) rfl rfl ?_
   refine WR.call H (R_In_ct hx5) rfl trivial (Wn.none rfl) rfl ?_
   intro v5 M w H hle hR
   obtain rfl := hR
   refine WR.step (Ex.not rfl) (Wn.none rfl) rfl rfl ?_
   refine WR.step (Ex.move rfl) (Wn.none rfl) rfl rfl ?_
   refine WR.nil (WQ.any ?_)
   rcases b4 with _ | _
   ·
    rw [if_neg Bool.false_ne_true] at e2
    refine WA.seq (fuel := 34) [5, 6, 7, 8, 9, 10] rfl (by kernel_rfl) ?_
    refine WR.skipN 4 rfl rfl ?_
    refine WR.step (Ex.pickT rfl rfl) (Wn.none rfl) rfl rfl ?_
    refine WR.step (Ex.move rfl) (Wn.none rfl) rfl rfl ?_
    refine WR.nil (WQ.any ?_)
    refine WA.takes (fuel := 30) [11, 12, 13, 14] rfl (by kernel_rfl) (by kernel_rfl) rfl ?_
    refine WA.seq (fuel := 0) [15, 16, 17, 18, 19, 20, 21, 22, 23, 24, 25, 26, 27, 28, 29, 30, 31, 32, 33, 34, 35, 36, 37, 38, 39, 40, 41, 42, 43, 44] rfl (by kernel_rfl) ?_
    refine WR.skipN 5 rfl rfl ?_
    refine WR.step (Ex.pickT rfl rfl) (Wn.none rfl) rfl rfl ?_
    refine WR.step (Ex.move rfl) (Wn.none rfl) rfl rfl ?_
    refine WR.skipN 4 rfl rfl ?_
    refine WR.step (Ex.pickT rfl rfl) (Wn.none rfl) rfl rfl ?_
    refine WR.step (Ex.move rfl) (Wn.none rfl) rfl rfl ?_
    refine WR.skipN 4 rfl rfl ?_
    refine WR.step (Ex.pickT rfl rfl) (Wn.none rfl) rfl rfl ?_
    refine WR.step (Ex.move rfl) (Wn.none rfl) rfl rfl ?_
    refine WR.skipN 4 rfl rfl ?_
    refine WR.step (Ex.pickT rfl rfl) (Wn.none rfl) rfl rfl ?_
    refine WR.step (Ex.move rfl) (Wn.none rfl) rfl rfl ?_
    refine WR.skipN 4 rfl rfl ?_
    refine WR.step (Ex.pickT rfl rfl) (Wn.none rfl) rfl rfl ?_
    refine WR.nil (WQ.any ?_)
    refine WA.done (by kernel_rfl) ?_
    exact WQ.meetN [(2, _), (47, _)] ⟨rfl, rfl, trivial⟩ ⟨_, _, rfl, (H.pick (L' := [.blk b2 (.cells #[I 0, I 0] 26)]) (by repeat (first | exact Pick.nil | refine Pick.cons (by repeat (first | exact Rem.head | apply Rem.tail)) ?_))), e2⟩
   ·
    rw [if_pos rfl] at e2
    obtain ⟨b6, hx7, e2⟩ := bnd e2
    refine WA.seq (fuel := 34) [5, 6, 7, 8, 9, 10] rfl (by kernel_rfl) ?_
    refine WR.step (Ex.fieldAddr Tryz.underlying23 rfl Tryz.sizeOf3 (by decide) rfl) (Wn.some rfl rfl rfl) rfl rfl ?_
    refine WR.step (Ex.load1 H rfl (by repeat (first | exact List.Mem.head _ | apply List.Mem.tail)) Tryz.isAgg3 (by rfl)) (Wn.some rfl rfl rfl) rfl rfl ?_
    refine WR.call H (R_In_ct hx7) rfl trivial (Wn.some rfl rfl rfl) rfl ?_
    intro v10 M w H hle hR
    obtain rfl := hR
    refine WR.step (Ex.not rfl) (Wn.some rfl rfl rfl) rfl rfl ?_
    refine WR.step (Ex.pickF rfl rfl) (Wn.none rfl) rfl rfl ?_
    refine WR.step (Ex.move rfl) (Wn.none rfl) rfl rfl ?_
    refine WR.nil (WQ.any ?_)
    rcases b6 with _ | _
    ·
     rw [if_neg Bool.false_ne_true] at e2
     refine WA.takes (fuel := 30) [11, 12, 13, 14] rfl (by kernel_rfl) (by kernel_rfl) rfl ?_
     refine WA.seq (fuel := 0) [15, 16, 17, 18, 19, 20, 21, 22, 23, 24, 25, 26, 27, 28, 29, 30, 31, 32, 33, 34, 35, 36, 37, 38, 39, 40, 41, 42, 43, 44] rfl (by kernel_rfl) ?_
     refine WR.skipN 5 rfl rfl ?_
     refine WR.step (Ex.pickT rfl rfl) (Wn.none rfl) rfl rfl ?_
     refine WR.step (Ex.move rfl) (Wn.none rfl) rfl rfl ?_
     refine WR.skipN 4 rfl rfl ?_
     refine WR.step (Ex.pickT rfl rfl) (Wn.none rfl) rfl rfl ?_
     refine WR.step (Ex.move rfl) (Wn.none rfl) rfl rfl ?_
     refine WR.skipN 4 rfl rfl ?_
     refine WR.step (Ex.pickT rfl rfl) (Wn.none rfl) rfl rfl ?_
     refine WR.step (Ex.move rfl) (Wn.none rfl) rfl rfl ?_
     refine WR.skipN 4 rfl rfl ?_
     refine WR.step (Ex.pickT rfl rfl) (Wn.none rfl) rfl rfl ?_
     refine WR.step (Ex.move rfl) (Wn.none rfl) rfl rfl ?_
     refine WR.skipN 4 rfl rfl ?_
     refine WR.step (Ex.pickT rfl rfl) (Wn.none rfl) rfl rfl ?_
     refine WR.nil (WQ.any ?_)
     refine WA.done (by kernel_rfl) ?_
     exact WQ.meetN [(2, _), (47, _)] ⟨rfl, rfl, trivial⟩ ⟨_, _, rfl, (H.pick (L' := [.blk b2 (.cells #[I 0, I 0] 26)]) (by repeat (first | exact Pick.nil | refine Pick.cons (by repeat (first | exact Rem.head | apply Rem.tail)) ?_))), e2⟩
    ·
     rw [if_pos rfl] at e2
     obtain ⟨n8, hx9, e2⟩ := bnd e2
     obtain ⟨b10, hx11, e2⟩ := bnd e2
     refine WA.take (i := 11) rfl (by kernel_rfl) (by kernel_rfl) (by kernel_rfl) (fun _ => Ex.fieldAddr Tryz.underlying23 rfl Tryz.sizeOf3 (by decide) rfl) (Wn.some rfl rfl rfl) rfl rfl (fun _ _ => rfl) ?_
     refine WA.take (i := 13) rfl (by kernel_rfl) (by kernel_rfl) (by kernel_rfl) (fun _ => Ex.fieldAddr Tryz.underlying23 rfl Tryz.sizeOf3 (by decide) rfl) (Wn.some rfl rfl rfl) rfl rfl (fun _ _ => rfl) ?_
     refine WA.take (i := 15) rfl (by kernel_rfl) (by kernel_rfl) (by kernel_rfl) (fun _ => Ex.fieldAddr Tryz.underlying23 rfl Tryz.sizeOf3 (by decide) rfl) (Wn.some rfl rfl rfl) rfl rfl (fun _ _ => rfl) ?_
     refine WA.takeM (i := 14) [12, 16] rfl (by kernel_rfl) (by kernel_rfl) (by kernel_rfl) (Ex.load1 H rfl (by repeat (first | exact List.Mem.head _ | apply List.Mem.tail)) Tryz.isAgg3 (by rfl)) (Wn.some rfl rfl rfl) rfl rfl (fun _ _ => rfl) ?_
     refine WA.takeM (i := 16) [12] rfl (by kernel_rfl) (by kernel_rfl) (by kernel_rfl) (Ex.load1 H rfl (by repeat (first | exact List.Mem.head _ | apply List.Mem.tail)) Tryz.isAgg3 (by rfl)) (Wn.some rfl rfl rfl) rfl rfl (fun _ _ => rfl) ?_
     rcases b10 with _ | _
     ·
      rw [if_neg Bool.false_ne_true] at e2
      refine WA.two (i := 12) (j := 17) (by kernel_rfl) rfl rfl ?_ ?_
      ·
       refine WR.step (Ex.load1 H rfl (by repeat (first | exact List.Mem.head _ | apply List.Mem.tail)) Tryz.isAgg3 (by rfl)) (Wn.some rfl rfl rfl) rfl rfl ?_
       refine WR.nil (WQ.any ?_)
       refine WA.seq (fuel := 0) [17, 18, 19, 20, 21, 22, 23, 24, 25, 26, 27, 28, 29, 30, 31, 32, 33, 34, 35, 36, 37, 38, 39, 40, 41, 42, 43, 44] rfl (by kernel_rfl) ?_
       refine WR.call H (R_MonthDays_ct hx9) rfl trivial (Wn.some rfl rfl rfl) rfl ?_
       intro v20 M w H hle hR
       obtain rfl := hR
       refine WR.call H (R_In_ct hx11) rfl trivial (Wn.some rfl rfl rfl) rfl ?_
       intro v21 M w H hle hR
       obtain rfl := hR
       refine WR.step (Ex.not rfl) (Wn.some rfl rfl rfl) rfl rfl ?_
       refine WR.step (Ex.pickF rfl rfl) (Wn.none rfl) rfl rfl ?_
       refine WR.step (Ex.move rfl) (Wn.none rfl) rfl rfl ?_
       refine WR.skipN 4 rfl rfl ?_
       refine WR.step (Ex.pickT rfl rfl) (Wn.none rfl) rfl rfl ?_
       refine WR.step (Ex.move rfl) (Wn.none rfl) rfl rfl ?_
       refine WR.skipN 4 rfl rfl ?_
       refine WR.step (Ex.pickT rfl rfl) (Wn.none rfl) rfl rfl ?_
       refine WR.step (Ex.move rfl) (Wn.none rfl) rfl rfl ?_
       refine WR.skipN 4 rfl rfl ?_
       refine WR.step (Ex.pickT rfl rfl) (Wn.none rfl) rfl rfl ?_
       refine WR.step (Ex.move rfl) (Wn.none rfl) rfl rfl ?_
       refine WR.skipN 4 rfl rfl ?_
       refine WR.step (Ex.pickT rfl rfl) (Wn.none rfl) rfl rfl ?_
       refine WR.nil (WQ.any ?_)
       refine WA.done (by kernel_rfl) ?_
       exact WQ.meetN [(2, _), (47, _)] ⟨rfl, rfl, trivial⟩ ⟨_, _, rfl, (H.pick (L' := [.blk b2 (.cells #[I 0, I 0] 26)]) (by repeat (first | exact Pick.nil | refine Pick.cons (by repeat (first | exact Rem.head | apply Rem.tail)) ?_))), e2⟩
      ·
       refine WR.call H (R_MonthDays_ct hx9) rfl trivial (Wn.some rfl rfl rfl) rfl ?_
       intro v20 M w H hle hR
       obtain rfl := hR
       refine WR.nil (WQ.any ?_)
       refine WA.seq (fuel := 0) [12, 18, 19, 20, 21, 22, 23, 24, 25, 26, 27, 28, 29, 30, 31, 32, 33, 34, 35, 36, 37, 38, 39, 40, 41, 42, 43, 44] rfl (by kernel_rfl) ?_
       refine WR.step (Ex.load1 H rfl (by repeat (first | exact List.Mem.head _ | apply List.Mem.tail)) Tryz.isAgg3 (by rfl)) (Wn.some rfl rfl rfl) rfl rfl ?_
       refine WR.call H (R_In_ct hx11) rfl trivial (Wn.some rfl rfl rfl) rfl ?_
       intro v21 M w H hle hR
       obtain rfl := hR
       refine WR.step (Ex.not rfl) (Wn.some rfl rfl rfl) rfl rfl ?_
       refine WR.step (Ex.pickF rfl rfl) (Wn.none rfl) rfl rfl ?_
       refine WR.step (Ex.move rfl) (Wn.none rfl) rfl rfl ?_
       refine WR.skipN 4 rfl rfl ?_
       refine WR.step (Ex.pickT rfl rfl) (Wn.none rfl) rfl rfl ?_
       refine WR.step (Ex.move rfl) (Wn.none rfl) rfl rfl ?_
       refine WR.skipN 4 rfl rfl ?_
       refine WR.step (Ex.pickT rfl rfl) (Wn.none rfl) rfl rfl ?_
       refine WR.step (Ex.move rfl) (Wn.none rfl) rfl rfl ?_
       refine WR.skipN 4 rfl rfl ?_
       refine WR.step (Ex.pickT rfl rfl) (Wn.none rfl) rfl rfl ?_
       refine WR.step (Ex.move rfl) (Wn.none rfl) rfl rfl ?_
       refine WR.skipN 4 rfl rfl ?_
       refine WR.step (Ex.pickT rfl rfl) (Wn.none rfl) rfl rfl ?_
       refine WR.nil (WQ.any ?_)
       refine WA.done (by kernel_rfl) ?_
       exact WQ.meetN [(2, _), (47, _)] ⟨rfl, rfl, trivial⟩ ⟨_, _, rfl, (H.pick (L' := [.blk b2 (.cells #[I 0, I 0] 26)]) (by repeat (first | exact Pick.nil | refine Pick.cons (by repeat (first | exact Rem.head | apply Rem.tail)) ?_))), e2⟩
     ·
      rw [if_pos rfl] at e2
      obtain ⟨b12, hx13, e2⟩ := bnd e2
      rcases b12 with _ | _
      ·
       rw [if_neg Bool.false_ne_true] at e2
       refine WA.two (i := 12) (j := 17) (by kernel_rfl) rfl rfl ?_ ?_
       ·
        refine WR.step (Ex.load1 H rfl (by repeat (first | exact List.Mem.head _ | apply List.Mem.tail)) Tryz.isAgg3 (by rfl)) (Wn.some rfl rfl rfl) rfl rfl ?_
        refine WR.nil (WQ.any ?_)
        refine WA.seq (fuel := 0) [17, 18, 19, 20, 21, 22, 23, 24, 25, 26, 27, 28, 29, 30, 31, 32, 33, 34, 35, 36, 37, 38, 39, 40, 41, 42, 43, 44] rfl (by kernel_rfl) ?_
        refine WR.call H (R_MonthDays_ct hx9) rfl trivial (Wn.some rfl rfl rfl) rfl ?_
        intro v20 M w H hle hR
        obtain rfl := hR
        refine WR.call H (R_In_ct hx11) rfl trivial (Wn.some rfl rfl rfl) rfl ?_
        intro v21 M w H hle hR
        obtain rfl := hR
        refine WR.step (Ex.not rfl) (Wn.some rfl rfl rfl) rfl rfl ?_
        refine WR.step (Ex.pickF rfl rfl) (Wn.none rfl) rfl rfl ?_
        refine WR.step (Ex.move rfl) (Wn.none rfl) rfl rfl ?_
        refine WR.step (Ex.fieldAddr Tryz.underlying23 rfl Tryz.sizeOf3 (by decide) rfl) (Wn.some rfl rfl rfl) rfl rfl ?_
        refine WR.step (Ex.load1 H rfl (by repeat (first | exact List.Mem.head _ | apply List.Mem.tail)) Tryz.isAgg3 (by rfl)) (Wn.some rfl rfl rfl) rfl rfl ?_
        refine WR.call H (R_In_ct hx13) rfl trivial (Wn.some rfl rfl rfl) rfl ?_
        intro v27 M w H hle hR
        obtain rfl := hR
        refine WR.step (Ex.not rfl) (Wn.some rfl rfl rfl) rfl rfl ?_
        refine WR.step (Ex.pickF rfl rfl) (Wn.none rfl) rfl rfl ?_
        refine WR.step (Ex.move rfl) (Wn.none rfl) rfl rfl ?_
        refine WR.skipN 4 rfl rfl ?_
        refine WR.step (Ex.pickT rfl rfl) (Wn.none rfl) rfl rfl ?_
        refine WR.step (Ex.move rfl) (Wn.none rfl) rfl rfl ?_
        refine WR.skipN 4 rfl rfl ?_
        refine WR.step (Ex.pickT rfl rfl) (Wn.none rfl) rfl rfl ?_
        refine WR.step (Ex.move rfl) (Wn.none rfl) rfl rfl ?_
        refine WR.skipN 4 rfl rfl ?_
        refine WR.step (Ex.pickT rfl rfl) (Wn.none rfl) rfl rfl ?_
        refine WR.nil (WQ.any ?_)
        refine WA.done (by kernel_rfl) ?_
        exact WQ.meetN [(2, _), (47, _)] ⟨rfl, rfl, trivial⟩ ⟨_, _, rfl, (H.pick (L' := [.blk b2 (.cells #[I 0, I 0] 26)]) (by repeat (first | exact Pick.nil | refine Pick.cons (by repeat (first | exact Rem.head | apply Rem.tail)) ?_))), e2⟩
       ·
        refine WR.call H (R_MonthDays_ct hx9) rfl trivial (Wn.some rfl rfl rfl) rfl ?_
        intro v20 M w H hle hR
        obtain rfl := hR
        refine WR.nil (WQ.any ?_)
        refine WA.seq (fuel := 0) [12, 18, 19, 20, 21, 22, 23, 24, 25, 26, 27, 28, 29, 30, 31, 32, 33, 34, 35, 36, 37, 38, 39, 40, 41, 42, 43, 44] rfl (by kernel_rfl) ?_
        refine WR.step (Ex.load1 H rfl (by repeat (first | exact List.Mem.head _ | apply List.Mem.tail)) Tryz.isAgg3 (by rfl)) (Wn.some rfl rfl rfl) rfl rfl ?_
        refine WR.call H (R_In_ct hx11) rfl trivial (Wn.some rfl rfl rfl) rfl ?_
        intro v21 M w H hle hR
        obtain rfl := hR
        refine WR.step (Ex.not rfl) (Wn.some rfl rfl rfl) rfl rfl ?_
        refine WR.step (Ex.pickF rfl rfl) (Wn.none rfl) rfl rfl ?_
        refine WR.step (Ex.move rfl) (Wn.none rfl) rfl rfl ?_
        refine WR.step (Ex.fieldAddr Tryz.underlying23 rfl Tryz.sizeOf3 (by decide) rfl) (Wn.some rfl rfl rfl) rfl rfl ?_
        refine WR.step (Ex.load1 H rfl (by repeat (first | exact List.Mem.head _ | apply List.Mem.tail)) Tryz.isAgg3 (by rfl)) (Wn.some rfl rfl rfl) rfl rfl ?_
        refine WR.call H (R_In_ct hx13) rfl trivial (Wn.some rfl rfl rfl) rfl ?_
        intro v27 M w H hle hR
        obtain rfl := hR
        refine WR.step (Ex.not rfl) (Wn.some rfl rfl rfl) rfl rfl ?_
        refine WR.step (Ex.pickF rfl rfl) (Wn.none rfl) rfl rfl ?_
        refine WR.step (Ex.move rfl) (Wn.none rfl) rfl rfl ?_
        refine WR.skipN 4 rfl rfl ?_
        refine WR.step (Ex.pickT rfl rfl) (Wn.none rfl) rfl rfl ?_
        refine WR.step (Ex.move rfl) (Wn.none rfl) rfl rfl ?_
        refine WR.skipN 4 rfl rfl ?_
        refine WR.step (Ex.pickT rfl rfl) (Wn.none rfl) rfl rfl ?_
        refine WR.step (Ex.move rfl) (Wn.none rfl) rfl rfl ?_
        refine WR.skipN 4 rfl rfl ?_
        refine WR.step (Ex.pickT rfl rfl) (Wn.none rfl) rfl rfl ?_
        refine WR.nil (WQ.any ?_)
        refine WA.done (by kernel_rfl) ?_
        exact WQ.meetN [(2, _), (47, _)] ⟨rfl, rfl, trivial⟩ ⟨_, _, rfl, (H.pick (L' := [.blk b2 (.cells #[I 0, I 0] 26)]) (by repeat (first | exact Pick.nil | refine Pick.cons (by repeat (first | exact Rem.head | apply Rem.tail)) ?_))), e2⟩
      ·
       rw [if_pos rfl] at e2
       obtain ⟨b14, hx15, e2⟩ := bnd e2
       rcases b14 with _ | _
       ·
        rw [if_neg Bool.false_ne_true] at e2
        refine WA.two (i := 12) (j := 17) (by kernel_rfl) rfl rfl ?_ ?_
        ·
         refine WR.step (Ex.load1 H rfl (by repeat (first | exact List.Mem.head _ | apply List.Mem.tail)) Tryz.isAgg3 (by rfl)) (Wn.some rfl rfl rfl) rfl rfl ?_
         refine WR.nil (WQ.any ?_)
         refine WA.seq (fuel := 0) [17, 18, 19, 20, 21, 22, 23, 24, 25, 26, 27, 28, 29, 30, 31, 32, 33, 34, 35, 36, 37, 38, 39, 40, 41, 42, 43, 44] rfl (by kernel_rfl) ?_
         refine WR.call H (R_MonthDays_ct hx9) rfl trivial (Wn.some rfl rfl rfl) rfl ?_
         intro v20 M w H hle hR
         obtain rfl := hR
         refine WR.call H (R_In_ct hx11) rfl trivial (Wn.some rfl rfl rfl) rfl ?_
         intro v21 M w H hle hR
         obtain rfl := hR
         refine WR.step (Ex.not rfl) (Wn.some rfl rfl rfl) rfl rfl ?_
         refine WR.step (Ex.pickF rfl rfl) (Wn.none rfl) rfl rfl ?_
         refine WR.step (Ex.move rfl) (Wn.none rfl) rfl rfl ?_
         refine WR.step (Ex.fieldAddr Tryz.underlying23 rfl Tryz.sizeOf3 (by decide) rfl) (Wn.some rfl rfl rfl) rfl rfl ?_
         refine WR.step (Ex.load1 H rfl (by repeat (first | exact List.Mem.head _ | apply List.Mem.tail)) Tryz.isAgg3 (by rfl)) (Wn.some rfl rfl rfl) rfl rfl ?_
         refine WR.call H (R_In_ct hx13) rfl trivial (Wn.some rfl rfl rfl) rfl ?_
         intro v27 M w H hle hR
         obtain rfl := hR
         refine WR.step (Ex.not rfl) (Wn.some rfl rfl rfl) rfl rfl ?_
         refine WR.step (Ex.pickF rfl rfl) (Wn.none rfl) rfl rfl ?_
         refine WR.step (Ex.move rfl) (Wn.none rfl) rfl rfl ?_
         refine WR.step (Ex.fieldAddr Tryz.underlying23 rfl Tryz.sizeOf3 (by decide) rfl) (Wn.some rfl rfl rfl) rfl rfl ?_
         refine WR.step (Ex.load1 H rfl (by repeat (first | exact List.Mem.head _ | apply List.Mem.tail)) Tryz.isAgg3 (by rfl)) (Wn.some rfl rfl rfl) rfl rfl ?_
         refine WR.call H (R_In_ct hx15) rfl trivial (Wn.some rfl rfl rfl) rfl ?_
         intro v33 M w H hle hR
         obtain rfl := hR
         refine WR.step (Ex.not rfl) (Wn.some rfl rfl rfl) rfl rfl ?_
         refine WR.step (Ex.pickF rfl rfl) (Wn.none rfl) rfl rfl ?_
         refine WR.step (Ex.move rfl) (Wn.none rfl) rfl rfl ?_
         refine WR.skipN 4 rfl rfl ?_
         refine WR.step (Ex.pickT rfl rfl) (Wn.none rfl) rfl rfl ?_
         refine WR.step (Ex.move rfl) (Wn.none rfl) rfl rfl ?_
         refine WR.skipN 4 rfl rfl ?_
         refine WR.step (Ex.pickT rfl rfl) (Wn.none rfl) rfl rfl ?_
         refine WR.nil (WQ.any ?_)
         refine WA.done (by kernel_rfl) ?_
         exact WQ.meetN [(2, _), (47, _)] ⟨rfl, rfl, trivial⟩ ⟨_, _, rfl, (H.pick (L' := [.blk b2 (.cells #[I 0, I 0] 26)]) (by repeat (first | exact Pick.nil | refine Pick.cons (by repeat (first | exact Rem.head | apply Rem.tail)) ?_))), e2⟩
        ·
         refine WR.call H (R_MonthDays_ct hx9) rfl trivial (Wn.some rfl rfl rfl) rfl ?_
         intro v20 M w H hle hR
         obtain rfl := hR
         refine WR.nil (WQ.any ?_)
         refine WA.seq (fuel := 0) [12, 18, 19, 20, 21, 22, 23, 24, 25, 26, 27, 28, 29, 30, 31, 32, 33, 34, 35, 36, 37, 38, 39, 40, 41, 42, 43, 44] rfl (by kernel_rfl) ?_
         refine WR.step (Ex.load1 H rfl (by repeat (first | exact List.Mem.head _ | apply List.Mem.tail)) Tryz.isAgg3 (by rfl)) (Wn.some rfl rfl rfl) rfl rfl ?_
         refine WR.call H (R_In_ct hx11) rfl trivial (Wn.some rfl rfl rfl) rfl ?_
         intro v21 M w H hle hR
         obtain rfl := hR
         refine WR.step (Ex.not rfl) (Wn.some rfl rfl rfl) rfl rfl ?_
         refine WR.step (Ex.pickF rfl rfl) (Wn.none rfl) rfl rfl ?_
         refine WR.step (Ex.move rfl) (Wn.none rfl) rfl rfl ?_
         refine WR.step (Ex.fieldAddr Tryz.underlying23 rfl Tryz.sizeOf3 (by decide) rfl) (Wn.some rfl rfl rfl) rfl rfl ?_
         refine WR.step (Ex.load1 H rfl (by repeat (first | exact List.Mem.head _ | apply List.Mem.tail)) Tryz.isAgg3 (by rfl)) (Wn.some rfl rfl rfl) rfl rfl ?_
         refine WR.call H (R_In_ct hx13) rfl trivial (Wn.some rfl rfl rfl) rfl ?_
         intro v27 M w H hle hR
         obtain rfl := hR
         refine WR.step (Ex.not rfl) (Wn.some rfl rfl rfl) rfl rfl ?_
         refine WR.step (Ex.pickF rfl rfl) (Wn.none rfl) rfl rfl ?_
         refine WR.step (Ex.move rfl) (Wn.none rfl) rfl rfl ?_
         refine WR.step (Ex.fieldAddr Tryz.underlying23 rfl Tryz.sizeOf3 (by decide) rfl) (Wn.some rfl rfl rfl) rfl rfl ?_
         refine WR.step (Ex.load1 H rfl (by repeat (first | exact List.Mem.head _ | apply List.Mem.tail)) Tryz.isAgg3 (by rfl)) (Wn.some rfl rfl rfl) rfl rfl ?_
         refine WR.call H (R_In_ct hx15) rfl trivial (Wn.some rfl rfl rfl) rfl ?_
         intro v33 M w H hle hR
         obtain rfl := hR
         refine WR.step (Ex.not rfl) (Wn.some rfl rfl rfl) rfl rfl ?_
         refine WR.step (Ex.pickF rfl rfl) (Wn.none rfl) rfl rfl ?_
         refine WR.step (Ex.move rfl) (Wn.none rfl) rfl rfl ?_
         refine WR.skipN 4 rfl rfl ?_
         refine WR.step (Ex.pickT rfl rfl) (Wn.none rfl) rfl rfl ?_
         refine WR.step (Ex.move rfl) (Wn.none rfl) rfl rfl ?_
         refine WR.skipN 4 rfl rfl ?_
         refine WR.step (Ex.pickT rfl rfl) (Wn.none rfl) rfl rfl ?_
         refine WR.nil (WQ.any ?_)
         refine WA.done (by kernel_rfl) ?_
         exact WQ.meetN [(2, _), (47, _)] ⟨rfl, rfl, trivial⟩ ⟨_, _, rfl, (H.pick (L' := [.blk b2 (.cells #[I 0, I 0] 26)]) (by repeat (first | exact Pick.nil | refine Pick.cons (by repeat (first | exact Rem.head | apply Rem.tail)) ?_))), e2⟩
       ·
        rw [if_pos rfl] at e2
        obtain ⟨b16, hx17, e2⟩ := bnd e2
        rcases b16 with _ | _
        ·
         rw [if_neg Bool.false_ne_true] at e2
         refine WA.two (i := 12) (j := 17) (by kernel_rfl) rfl rfl ?_ ?_
         ·
          refine WR.step (Ex.load1 H rfl (by repeat (first | exact List.Mem.head _ | apply List.Mem.tail)) Tryz.isAgg3 (by rfl)) (Wn.some rfl rfl rfl) rfl rfl ?_
          refine WR.nil (WQ.any ?_)
          refine WA.seq (fuel := 0) [17, 18, 19, 20, 21, 22, 23, 24, 25, 26, 27, 28, 29, 30, 31, 32, 33, 34, 35, 36, 37, 38, 39, 40, 41, 42, 43, 44] rfl (by kernel_rfl) ?_
          refine WR.call H (R_MonthDays_ct hx9) rfl trivial (Wn.some rfl rfl rfl) rfl ?_
          intro v20 M w H hle hR
          obtain rfl := hR
          refine WR.call H (R_In_ct hx11) rfl trivial (Wn.some rfl rfl rfl) rfl ?_
          intro v21 M w H hle hR
          obtain rfl := hR
          refine WR.step (Ex.not rfl) (Wn.some rfl rfl rfl) rfl rfl ?_
          refine WR.step (Ex.pickF rfl rfl) (Wn.none rfl) rfl rfl ?_
          refine WR.step (Ex.move rfl) (Wn.none rfl) rfl rfl ?_
          refine WR.step (Ex.fieldAddr Tryz.underlying23 rfl Tryz.sizeOf3 (by decide) rfl) (Wn.some rfl rfl rfl) rfl rfl ?_
          refine WR.step (Ex.load1 H rfl (by repeat (first | exact List.Mem.head _ | apply List.Mem.tail)) Tryz.isAgg3 (by rfl)) (Wn.some rfl rfl rfl) rfl rfl ?_
          refine WR.call H (R_In_ct hx13) rfl trivial (Wn.some rfl rfl rfl) rfl ?_
          intro v27 M w H hle hR
          obtain rfl := hR
          refine WR.step (Ex.not rfl) (Wn.some rfl rfl rfl) rfl rfl ?_
          refine WR.step (Ex.pickF rfl rfl) (Wn.none rfl) rfl rfl ?_
          refine WR.step (Ex.move rfl) (Wn.none rfl) rfl rfl ?_
          refine WR.step (Ex.fieldAddr Tryz.underlying23 rfl Tryz.sizeOf3 (by decide) rfl) (Wn.some rfl rfl rfl) rfl rfl ?_
          refine WR.step (Ex.load1 H rfl (by repeat (first | exact List.Mem.head _ | apply List.Mem.tail)) Tryz.isAgg3 (by rfl)) (Wn.some rfl rfl rfl) rfl rfl ?_
          refine WR.call H (R_In_ct hx15) rfl trivial (Wn.some rfl rfl rfl) rfl ?_
          intro v33 M w H hle hR
          obtain rfl := hR
          refine WR.step (Ex.not rfl) (Wn.some rfl rfl rfl) rfl rfl ?_
          refine WR.step (Ex.pickF rfl rfl) (Wn.none rfl) rfl rfl ?_
          refine WR.step (Ex.move rfl) (Wn.none rfl) rfl rfl ?_
          refine WR.step (Ex.fieldAddr Tryz.underlying23 rfl Tryz.sizeOf3 (by decide) rfl) (Wn.some rfl rfl rfl) rfl rfl ?_
          refine WR.step (Ex.load1 H rfl (by repeat (first | exact List.Mem.head _ | apply List.Mem.tail)) Tryz.isAgg3 (by rfl)) (Wn.some rfl rfl rfl) rfl rfl ?_
          refine WR.call H (R_In_ct hx17) rfl trivial (Wn.some rfl rfl rfl) rfl ?_
          intro v39 M w H hle hR
          obtain rfl := hR
          refine WR.step (Ex.not rfl) (Wn.some rfl rfl rfl) rfl rfl ?_
          refine WR.step (Ex.pickF rfl rfl) (Wn.none rfl) rfl rfl ?_
          refine WR.step (Ex.move rfl) (Wn.none rfl) rfl rfl ?_
          refine WR.skipN 4 rfl rfl ?_
          refine WR.step (Ex.pickT rfl rfl) (Wn.none rfl) rfl rfl ?_
          refine WR.nil (WQ.any ?_)
          refine WA.done (by kernel_rfl) ?_
          exact WQ.meetN [(2, _), (47, _)] ⟨rfl, rfl, trivial⟩ ⟨_, _, rfl, (H.pick (L' := [.blk b2 (.cells #[I 0, I 0] 26)]) (by repeat (first | exact Pick.nil | refine Pick.cons (by repeat (first | exact Rem.head | apply Rem.tail)) ?_))), e2⟩
         ·
          refine WR.call H (R_MonthDays_ct hx9) rfl trivial (Wn.some rfl rfl rfl) rfl ?_
          intro v20 M w H hle hR
          obtain rfl := hR
          refine WR.nil (WQ.any ?_)
          refine WA.seq (fuel := 0) [12, 18, 19, 20, 21, 22, 23, 24, 25, 26, 27, 28, 29, 30, 31, 32, 33, 34, 35, 36, 37, 38, 39, 40, 41, 42, 43, 44] rfl (by kernel_rfl) ?_
          refine WR.step (Ex.load1 H rfl (by repeat (first | exact List.Mem.head _ | apply List.Mem.tail)) Tryz.isAgg3 (by rfl)) (Wn.some rfl rfl rfl) rfl rfl ?_
          refine WR.call H (R_In_ct hx11) rfl trivial (Wn.some rfl rfl rfl) rfl ?_
          intro v21 M w H hle hR
          obtain rfl := hR
          refine WR.step (Ex.not rfl) (Wn.some rfl rfl rfl) rfl rfl ?_
          refine WR.step (Ex.pickF rfl rfl) (Wn.none rfl) rfl rfl ?_
          refine WR.step (Ex.move rfl) (Wn.none rfl) rfl rfl ?_
          refine WR.step (Ex.fieldAddr Tryz.underlying23 rfl Tryz.sizeOf3 (by decide) rfl) (Wn.some rfl rfl rfl) rfl rfl ?_
          refine WR.step (Ex.load1 H rfl (by repeat (first | exact List.Mem.head _ | apply List.Mem.tail)) Tryz.isAgg3 (by rfl)) (Wn.some rfl rfl rfl) rfl rfl ?_
          refine WR.call H (R_In_ct hx13) rfl trivial (Wn.some rfl rfl rfl) rfl ?_
          intro v27 M w H hle hR
          obtain rfl := hR
          refine WR.step (Ex.not rfl) (Wn.some rfl rfl rfl) rfl rfl ?_
          refine WR.step (Ex.pickF rfl rfl) (Wn.none rfl) rfl rfl ?_
          refine WR.step (Ex.move rfl) (Wn.none rfl) rfl rfl ?_
          refine WR.step (Ex.fieldAddr Tryz.underlying23 rfl Tryz.sizeOf3 (by decide) rfl) (Wn.some rfl rfl rfl) rfl rfl ?_
          refine WR.step (Ex.load1 H rfl (by repeat (first | exact List.Mem.head _ | apply List.Mem.tail)) Tryz.isAgg3 (by rfl)) (Wn.some rfl rfl rfl) rfl rfl ?_
          refine WR.call H (R_In_ct hx15) rfl trivial (Wn.some rfl rfl rfl) rfl ?_
          intro v33 M w H hle hR
          obtain rfl := hR
          refine WR.step (Ex.not rfl) (Wn.some rfl rfl rfl) rfl rfl ?_
          refine WR.step (Ex.pickF rfl rfl) (Wn.none rfl) rfl rfl ?_
          refine WR.step (Ex.move rfl) (Wn.none rfl) rfl rfl ?_
          refine WR.step (Ex.fieldAddr Tryz.underlying23 rfl Tryz.sizeOf3 (by decide) rfl) (Wn.some rfl rfl rfl) rfl rfl ?_
          refine WR.step (Ex.load1 H rfl (by repeat (first | exact List.Mem.head _ | apply List.Mem.tail)) Tryz.isAgg3 (by rfl)) (Wn.some rfl rfl rfl) rfl rfl ?_
          refine WR.call H (R_In_ct hx17) rfl trivial (Wn.some rfl rfl rfl) rfl ?_
          intro v39 M w H hle hR
          obtain rfl := hR
          refine WR.step (Ex.not rfl) (Wn.some rfl rfl rfl) rfl rfl ?_
          refine WR.step (Ex.pickF rfl rfl) (Wn.none rfl) rfl rfl ?_
          refine WR.step (Ex.move rfl) (Wn.none rfl) rfl rfl ?_
          refine WR.skipN 4 rfl rfl ?_
          refine WR.step (Ex.pickT rfl rfl) (Wn.none rfl) rfl rfl ?_
          refine WR.nil (WQ.any ?_)
          refine WA.done (by kernel_rfl) ?_
          exact WQ.meetN [(2, _), (47, _)] ⟨rfl, rfl, trivial⟩ ⟨_, _, rfl, (H.pick (L' := [.blk b2 (.cells #[I 0, I 0] 26)]) (by repeat (first | exact Pick.nil | refine Pick.cons (by repeat (first | exact Rem.head | apply Rem.tail)) ?_))), e2⟩
        ·
         rw [if_pos rfl] at e2
         obtain ⟨b18, hx19, e2⟩ := bnd e2
         refine WA.two (i := 12) (j := 17) (by kernel_rfl) rfl rfl ?_ ?_
         ·
          refine WR.step (Ex.load1 H rfl (by repeat (first | exact List.Mem.head _ | apply List.Mem.tail)) Tryz.isAgg3 (by rfl)) (Wn.some rfl rfl rfl) rfl rfl ?_
          refine WR.nil (WQ.any ?_)
          refine WA.seq (fuel := 0) [17, 18, 19, 20, 21, 22, 23, 24, 25, 26, 27, 28, 29, 30, 31, 32, 33, 34, 35, 36, 37, 38, 39, 40, 41, 42, 43, 44] rfl (by kernel_rfl) ?_
          refine WR.call H (R_MonthDays_ct hx9) rfl trivial (Wn.some rfl rfl rfl) rfl ?_
          intro v20 M w H hle hR
          obtain rfl := hR
          refine WR.call H (R_In_ct hx11) rfl trivial (Wn.some rfl rfl rfl) rfl ?_
          intro v21 M w H hle hR
          obtain rfl := hR
          refine WR.step (Ex.not rfl) (Wn.some rfl rfl rfl) rfl rfl ?_
          refine WR.step (Ex.pickF rfl rfl) (Wn.none rfl) rfl rfl ?_
          refine WR.step (Ex.move rfl) (Wn.none rfl) rfl rfl ?_
          refine WR.step (Ex.fieldAddr Tryz.underlying23 rfl Tryz.sizeOf3 (by decide) rfl) (Wn.some rfl rfl rfl) rfl rfl ?_
          refine WR.step (Ex.load1 H rfl (by repeat (first | exact List.Mem.head _ | apply List.Mem.tail)) Tryz.isAgg3 (by rfl)) (Wn.some rfl rfl rfl) rfl rfl ?_
          refine WR.call H (R_In_ct hx13) rfl trivial (Wn.some rfl rfl rfl) rfl ?_
          intro v27 M w H hle hR
          obtain rfl := hR
          refine WR.step (Ex.not rfl) (Wn.some rfl rfl rfl) rfl rfl ?_
          refine WR.step (Ex.pickF rfl rfl) (Wn.none rfl) rfl rfl ?_
          refine WR.step (Ex.move rfl) (Wn.none rfl) rfl rfl ?_
          refine WR.step (Ex.fieldAddr Tryz.underlying23 rfl Tryz.sizeOf3 (by decide) rfl) (Wn.some rfl rfl rfl) rfl rfl ?_
          refine WR.step (Ex.load1 H rfl (by repeat (first | exact List.Mem.head _ | apply List.Mem.tail)) Tryz.isAgg3 (by rfl)) (Wn.some rfl rfl rfl) rfl rfl ?_
          refine WR.call H (R_In_ct hx15) rfl trivial (Wn.some rfl rfl rfl) rfl ?_
          intro v33 M w H hle hR
          obtain rfl := hR
          refine WR.step (Ex.not rfl) (Wn.some rfl rfl rfl) rfl rfl ?_
          refine WR.step (Ex.pickF rfl rfl) (Wn.none rfl) rfl rfl ?_
          refine WR.step (Ex.move rfl) (Wn.none rfl) rfl rfl ?_
          refine WR.step (Ex.fieldAddr Tryz.underlying23 rfl Tryz.sizeOf3 (by decide) rfl) (Wn.some rfl rfl rfl) rfl rfl ?_
          refine WR.step (Ex.load1 H rfl (by repeat (first | exact List.Mem.head _ | apply List.Mem.tail)) Tryz.isAgg3 (by rfl)) (Wn.some rfl rfl rfl) rfl rfl ?_
          refine WR.call H (R_In_ct hx17) rfl trivial (Wn.some rfl rfl rfl) rfl ?_
          intro v39 M w H hle hR
          obtain rfl := hR
          refine WR.step (Ex.not rfl) (Wn.some rfl rfl rfl) rfl rfl ?_
          refine WR.step (Ex.pickF rfl rfl) (Wn.none rfl) rfl rfl ?_
          refine WR.step (Ex.move rfl) (Wn.none rfl) rfl rfl ?_
          refine WR.step (Ex.fieldAddr Tryz.underlying23 rfl Tryz.sizeOf3 (by decide) rfl) (Wn.some rfl rfl rfl) rfl rfl ?_
          refine WR.step (Ex.load1 H rfl (by repeat (first | exact List.Mem.head _ | apply List.Mem.tail)) Tryz.isAgg3 (by rfl)) (Wn.some rfl rfl rfl) rfl rfl ?_
          refine WR.call H (R_In_ct hx19) rfl trivial (Wn.some rfl rfl rfl) rfl ?_
          intro v45 M w H hle hR
          obtain rfl := hR
          refine WR.step (Ex.not rfl) (Wn.some rfl rfl rfl) rfl rfl ?_
          refine WR.step (Ex.pickF rfl rfl) (Wn.none rfl) rfl rfl ?_
          refine WR.nil (WQ.any ?_)
          refine WA.done (by kernel_rfl) ?_
          exact WQ.meetN [(2, _), (47, _)] ⟨rfl, rfl, trivial⟩ ⟨_, _, rfl, (H.pick (L' := [.blk b2 (.cells #[I 0, I 0] 26)]) (by repeat (first | exact Pick.nil | refine Pick.cons (by repeat (first | exact Rem.head | apply Rem.tail)) ?_))), e2⟩
         ·
          refine WR.call H (R_MonthDays_ct hx9) rfl trivial (Wn.some rfl rfl rfl) rfl ?_
          intro v20 M w H hle hR
          obtain rfl := hR
          refine WR.nil (WQ.any ?_)
          refine WA.seq (fuel := 0) [12, 18, 19, 20, 21, 22, 23, 24, 25, 26, 27, 28, 29, 30, 31, 32, 33, 34, 35, 36, 37, 38, 39, 40, 41, 42, 43, 44] rfl (by kernel_rfl) ?_
          refine WR.step (Ex.load1 H rfl (by repeat (first | exact List.Mem.head _ | apply List.Mem.tail)) Tryz.isAgg3 (by rfl)) (Wn.some rfl rfl rfl) rfl rfl ?_
          refine WR.call H (R_In_ct hx11) rfl trivial (Wn.some rfl rfl rfl) rfl ?_
          intro v21 M w H hle hR
          obtain rfl := hR
          refine WR.step (Ex.not rfl) (Wn.some rfl rfl rfl) rfl rfl ?_
          refine WR.step (Ex.pickF rfl rfl) (Wn.none rfl) rfl rfl ?_
          refine WR.step (Ex.move rfl) (Wn.none rfl) rfl rfl ?_
          refine WR.step (Ex.fieldAddr Tryz.underlying23 rfl Tryz.sizeOf3 (by decide) rfl) (Wn.some rfl rfl rfl) rfl rfl ?_
          refine WR.step (Ex.load1 H rfl (by repeat (first | exact List.Mem.head _ | apply List.Mem.tail)) Tryz.isAgg3 (by rfl)) (Wn.some rfl rfl rfl) rfl rfl ?_
          refine WR.call H (R_In_ct hx13) rfl trivial (Wn.some rfl rfl rfl) rfl ?_
          intro v27 M w H hle hR
          obtain rfl := hR
          refine WR.step (Ex.not rfl) (Wn.some rfl rfl rfl) rfl rfl ?_
          refine WR.step (Ex.pickF rfl rfl) (Wn.none rfl) rfl rfl ?_
          refine WR.step (Ex.move rfl) (Wn.none rfl) rfl rfl ?_
          refine WR.step (Ex.fieldAddr Tryz.underlying23 rfl Tryz.sizeOf3 (by decide) rfl) (Wn.some rfl rfl rfl) rfl rfl ?_
          refine WR.step (Ex.load1 H rfl (by repeat (first | exact List.Mem.head _ | apply List.Mem.tail)) Tryz.isAgg3 (by rfl)) (Wn.some rfl rfl rfl) rfl rfl ?_
          refine WR.call H (R_In_ct hx15) rfl trivial (Wn.some rfl rfl rfl) rfl ?_
          intro v33 M w H hle hR
          obtain rfl := hR
          refine WR.step (Ex.not rfl) (Wn.some rfl rfl rfl) rfl rfl ?_
          refine WR.step (Ex.pickF rfl rfl) (Wn.none rfl) rfl rfl ?_
          refine WR.step (Ex.move rfl) (Wn.none rfl) rfl rfl ?_
          refine WR.step (Ex.fieldAddr Tryz.underlying23 rfl Tryz.sizeOf3 (by decide) rfl) (Wn.some rfl rfl rfl) rfl rfl ?_
          refine WR.step (Ex.load1 H rfl (by repeat (first | exact List.Mem.head _ | apply List.Mem.tail)) Tryz.isAgg3 (by rfl)) (Wn.some rfl rfl rfl) rfl rfl ?_
          refine WR.call H (R_In_ct hx17) rfl trivial (Wn.some rfl rfl rfl) rfl ?_
          intro v39 M w H hle hR
          obtain rfl := hR
          refine WR.step (Ex.not rfl) (Wn.some rfl rfl rfl) rfl rfl ?_
          refine WR.step (Ex.pickF rfl rfl) (Wn.none rfl) rfl rfl ?_
          refine WR.step (Ex.move rfl) (Wn.none rfl) rfl rfl ?_
          refine WR.step (Ex.fieldAddr Tryz.underlying23 rfl Tryz.sizeOf3 (by decide) rfl) (Wn.some rfl rfl rfl) rfl rfl ?_
          refine WR.step (Ex.load1 H rfl (by repeat (first | exact List.Mem.head _ | apply List.Mem.tail)) Tryz.isAgg3 (by rfl)) (Wn.some rfl rfl rfl) rfl rfl ?_
          refine WR.call H (R_In_ct hx19) rfl trivial (Wn.some rfl rfl rfl) rfl ?_
          intro v45 M w H hle hR
          obtain rfl := hR
          refine WR.step (Ex.not rfl) (Wn.some rfl rfl rfl) rfl rfl ?_
          refine WR.step (Ex.pickF rfl rfl) (Wn.none rfl) rfl rfl ?_
          refine WR.nil (WQ.any ?_)
          refine WA.done (by kernel_rfl) ?_
          exact WQ.meetN [(2, _), (47, _)] ⟨rfl, rfl, trivial⟩ ⟨_, _, rfl, (H.pick (L' := [.blk b2 (.cells #[I 0, I 0] 26)]) (by repeat (first | exact Pick.nil | refine Pick.cons (by repeat (first | exact Rem.head | apply Rem.tail)) ?_))), e2⟩
  ·
   rintro e w ⟨b3, M, rfl, H, q20⟩
   obtain rfl := Option.some.inj q20
   refine WQ.then ?_
   refine WC.condB rfl (fun hk21 => ?_) (fun hk21 => ?_)
   ·
    subst hk21
    rw [if_pos rfl] at h
    refine WC.seq ?_
    obtain ⟨⟨n22, n23⟩, hx24, h⟩ := bnd h
    try dsimp only at h
    refine WC.region ?_
    refine WR.call H (R_At_ct hx24) rfl trivial (Wn.none rfl) rfl ?_
    intro v48 M w H hle hR
    try dsimp only at hR
    obtain rfl := hR
    refine WR.store [_, _] H rfl rfl rfl (by repeat (first | exact Upd.head | apply Upd.tail)) Tryz.sizeOf26 rfl (by rfl) (by rfl) (Wn.none rfl) ?_
    intro w H
    refine WR.nil ?_
    refine WQ.then ?_
    refine WC.ret ?_
    (repeat (first | refine WQ.thenRet ?_ | refine WQ.inBlockRet ?_ | refine WQ.cutRet ?_ | refine WQ.scRet ?_))
    obtain rfl := Option.some.inj h
    exact WQ.ret1 rfl ⟨_, rfl, H.loadAgg (by repeat (first | exact List.Mem.head _ | apply List.Mem.tail)) Tryz.isAgg26 Tryz.sizeOf26 (by rfl)⟩ H.ext rfl
   ·
    subst hk21
    rw [if_neg Bool.false_ne_true] at h
    refine WC.skip ?_
    refine WQ.then ?_
    refine WC.seq ?_
    refine WC.region ?_
    refine WR.step (Ex.build [I 0, I 0] Tryz.underlying26 Tryz.zeroValue26 (xplaces26 Tryz.underlying26) rfl rfl) (Wn.none rfl) rfl rfl ?_
    refine WR.store [_, _] H rfl rfl rfl (by repeat (first | exact Upd.head | apply Upd.tail)) Tryz.sizeOf26 rfl (by rfl) (by rfl) (Wn.none rfl) ?_
    intro w H
    refine WR.nil ?_
    refine WQ.then ?_
    refine WC.ret ?_
    (repeat (first | refine WQ.thenRet ?_ | refine WQ.inBlockRet ?_ | refine WQ.cutRet ?_ | refine WQ.scRet ?_))
    obtain rfl := Option.some.inj h
    exact WQ.ret1 rfl ⟨_, rfl, H.loadAgg (by repeat (first | exact List.Mem.head _ | apply List.Mem.tail)) Tryz.isAgg26 Tryz.sizeOf26 (by rfl)⟩ H.ext rfl
theorem L_DatesParseMatchesSpec_ct {p0 : List UInt8} {r : Bool} (h : L_DatesParseMatchesSpec p0 = some r) : Ct Tryz.prog 6 [S p0] (fun M => GlF (fun w => ∃ tp p, w.var? Tryz.prog "strconv.ErrRange" = some #[.iface tp p]) M ∧ GlF (fun w => ∃ tp p, w.var? Tryz.prog "strconv.ErrSyntax" = some #[.iface tp p]) M ∧ GlF (fun w => ∃ m, w.cell? ⟨0, 0, none⟩ = some (.int .i64 m)) M ∧ GlF (fun w => Lib.TabIs Tryz.prog w "internal/strconv.uint64pow10" .u64 Lib.pow10Tab) M) (fun v M => v = Value.bool r) := by
  refine Ct.of Tryz.func6 (enters Tryz.func6 (by kernel_rfl) rfl) rfl rfl rfl ?_
  intro w0 M0 H hp
  obtain ⟨hg_errR, hg_errS, hg_maxl, hg_pow10⟩ := hp
  unfold L_DatesParseMatchesSpec at h
  refine WC.seq ?_
  refine WC.region ?_
  refine WR.step (Ex.assign rfl) (Wn.none rfl) rfl rfl ?_
  refine WR.nil ?_
  refine WQ.then ?_
  refine WC.seq ?_
  refine WC.seq ?_
  obtain ⟨b1, hx2, h⟩ := bnd h
  refine WC.region ?_
  refine WR.call H (L_datesExample_ct hx2) rfl ⟨hg_errR, hg_errS, hg_maxl, hg_pow10⟩ (Wn.none rfl) rfl ?_
  intro v8 M w H hle hR
  replace hg_errR := hg_errR.mono hle
  replace hg_errS := hg_errS.mono hle
  replace hg_maxl := hg_maxl.mono hle
  replace hg_pow10 := hg_pow10.mono hle
  obtain rfl := hR
  refine WR.step (Ex.not rfl) (Wn.none rfl) rfl rfl ?_
  refine WR.nil ?_
  refine WQ.then ?_
  refine WC.condB rfl (fun hk3 => ?_) (fun hk3 => ?_)
  ·
   replace hk3 : b1 = false := by simpa using hk3
   subst hk3
   rw [if_neg Bool.false_ne_true] at h
   refine WC.seq ?_
   refine WC.region ?_
   refine WR.step (Ex.assign rfl) (Wn.none rfl) rfl rfl ?_
   refine WR.nil ?_
   refine WQ.then ?_
   refine WC.ret ?_
   (repeat (first | refine WQ.thenRet ?_ | refine WQ.inBlockRet ?_ | refine WQ.cutRet ?_ | refine WQ.scRet ?_))
   obtain rfl := Option.some.inj h
   exact WQ.ret1 rfl rfl H.ext rfl
  ·
   replace hk3 : b1 = true := by simpa using hk3
   subst hk3
   rw [if_pos rfl] at h
   refine WC.skip ?_
   refine WQ.then ?_
   refine WC.seq ?_
   obtain ⟨⟨⟨n4, n5, n6, n7, n8, n9, n10⟩, ⟨n11, n12⟩⟩, hx13, h⟩ := bnd h
   try dsimp only at h
   refine WC.region ?_
   refine WR.step (Ex.move rfl) (Wn.none rfl) rfl rfl ?_
   refine WR.call H (dates_Parse_ct hx13) rfl ⟨hg_errR, hg_errS, hg_maxl⟩ (Wn.none rfl) rfl ?_
   intro v12 M w H hle hR
   replace hg_errR := hg_errR.mono hle
   replace hg_errS := hg_errS.mono hle
   replace hg_maxl := hg_maxl.mono hle
   replace hg_pow10 := hg_pow10.mono hle
   try dsimp only at hR
   obtain rfl := hR
   refine WR.step (Ex.move rfl) (Wn.none rfl) rfl rfl ?_
   refine WR.step (Ex.extract rfl rfl) (Wn.none rfl) rfl rfl ?_
   refine WR.step (Ex.extract rfl rfl) (Wn.none rfl) rfl rfl ?_
   refine WR.alloc [_, _, _, _, _, _, _] H Tryz.zeroValue23 rfl (Wn.none rfl) rfl ?_
   intro b3 w H
   refine WR.alloc [_, _] H Tryz.zeroValue26 rfl (Wn.none rfl) rfl ?_
   intro b4 w H
   refine WR.store [_, _, _, _, _, _, _] H rfl rfl rfl (by repeat (first | exact Upd.head | apply Upd.tail)) Tryz.sizeOf23 rfl (by rfl) (by rfl) (Wn.none rfl) ?_
   intro w H
   refine WR.store [_, _] H rfl rfl rfl (by repeat (first | exact Upd.head | apply Upd.tail)) Tryz.sizeOf26 rfl (by rfl) (by rfl) (Wn.none rfl) ?_
   intro w H
   refine WR.nil ?_
   refine WQ.then ?_
   refine WC.seq ?_
   refine WC.seq ?_
   refine WC.region ?_
   refine WR.step (Ex.move rfl) (Wn.none rfl) rfl rfl ?_
   refine WR.step (Ex.lenStr Tryz.underlying9 rfl) (Wn.none rfl) rfl rfl ?_
   refine WR.step (Ex.gtr rfl rfl) (Wn.none rfl) rfl rfl ?_
   refine WR.nil ?_
   refine WQ.then ?_
   refine WC.condB rfl (fun hk14 => ?_) (fun hk14 => ?_)
   ·
    replace hk14 : (4000 : Int) < (p0.length : Int) := of_decide_eq_true hk14
    rw [if_pos hk14] at h
    refine WC.seq ?_
    obtain ⟨o15, e16, h⟩ := bnd h
    refine WC.cutX (fun e w => ∃ (b17 : Bool) (M : Mem), e = [(2, Value.bool b17)] ∧ St w0 M0 M [] w ∧ GlF (fun w => ∃ tp p, w.var? Tryz.prog "strconv.ErrRange" = some #[.iface tp p]) M ∧ GlF (fun w => ∃ tp p, w.var? Tryz.prog "strconv.ErrSyntax" = some #[.iface tp p]) M ∧ GlF (fun w => ∃ m, w.cell? ⟨0, 0, none⟩ = some (.int .i64 m)) M ∧ GlF (fun w => Lib.TabIs Tryz.prog w "internal/strconv.uint64pow10" .u64 Lib.pow10Tab) M ∧ some b17 = some o15) [] ?_ ?_ (trivial)
    ·
     obtain ⟨⟨n18, n19⟩, hx20, e16⟩ := bnd e16
     try dsimp only at e16
     refine WC.draw (m := 9) rfl rfl H ?_
     intro w H
     by_cases hk21 : n11 = n18 ∧ n12 = n19
     ·
      rw [if_pos hk21] at e16
      refine WA.two (i := 0) (j := 1) (by kernel_rfl) rfl rfl ?_ ?_
      ·
       refine WR.step (Ex.loadAgg H rfl (by repeat (first | exact List.Mem.head _ | apply List.Mem.tail)) Tryz.isAgg26 Tryz.sizeOf26 (by rfl)) (Wn.none rfl) rfl rfl ?_
       refine WR.nil (WQ.any ?_)
       refine WA.seq (fuel := 5) [1, 2, 3] rfl (by kernel_rfl) ?_
       refine WR.call H (R_At_ct hx20) rfl trivial (Wn.none rfl) rfl ?_
       intro v19 M w H hle hR
       replace hg_errR := hg_errR.mono hle
       replace hg_errS := hg_errS.mono hle
       replace hg_maxl := hg_maxl.mono hle
       replace hg_pow10 := hg_pow10.mono hle
       try dsimp only at hR
       obtain rfl := hR
       refine WR.stepE (v' := .bool true) (Ex.eqlAgg rfl rfl (by kernel_rfl) (xeq26 n11 n18 n12 n19)) (congrArg Value.bool (decide_eq_true hk21)) (Wn.none rfl) rfl rfl ?_
       refine WR.step (Ex.move rfl) (Wn.none rfl) rfl rfl ?_
       refine WR.nil (WQ.any ?_)
       refine WA.take (i := 5) rfl (by kernel_rfl) (by kernel_rfl) (by kernel_rfl) (fun _ => Ex.build [I 0, I 0, I 0, I 0, I 0, I 0, I 0] Tryz.underlying23 Tryz.zeroValue23 (xplaces23 Tryz.underlying23) rfl (by kernel_rfl)) (Wn.some rfl rfl rfl) rfl rfl (fun _ _ => rfl) ?_
       refine WA.seq (fuel := 0) [4, 6, 7, 8] rfl (by kernel_rfl) ?_
       refine WR.step (Ex.loadAgg H rfl (by repeat (first | exact List.Mem.head _ | apply List.Mem.tail)) Tryz.isAgg23 Tryz.sizeOf23 (by rfl)) (Wn.some rfl rfl rfl) rfl rfl ?_
       refine WR.step (Ex.eqlAgg rfl rfl (by kernel_rfl) (xeq23 n4 0 n5 0 n6 0 n7 0 n8 0 n9 0 n10 0)) (Wn.some rfl rfl rfl) rfl rfl ?_
       refine WR.step (Ex.pickT rfl rfl) (Wn.none rfl) rfl rfl ?_
       refine WR.step (Ex.assign rfl) (Wn.none rfl) rfl rfl ?_
       refine WR.nil (WQ.any ?_)
       refine WA.done (by kernel_rfl) ?_
       exact WQ.meetN [(2, _)] ⟨rfl, trivial⟩ ⟨_, _, rfl, (H.pick (L' := []) (by repeat (first | exact Pick.nil | refine Pick.cons (by repeat (first | exact Rem.head | apply Rem.tail)) ?_))), hg_errR, hg_errS, hg_maxl, hg_pow10, e16⟩
      ·
       refine WR.call H (R_At_ct hx20) rfl trivial (Wn.none rfl) rfl ?_
       intro v19 M w H hle hR
       replace hg_errR := hg_errR.mono hle
       replace hg_errS := hg_errS.mono hle
       replace hg_maxl := hg_maxl.mono hle
       replace hg_pow10 := hg_pow10.mono hle
       try dsimp only at hR
       obtain rfl := hR
       refine WR.nil (WQ.any ?_)
       refine WA.seq (fuel := 5) [0, 2, 3] rfl (by kernel_rfl) ?_
       refine WR.step (Ex.loadAgg H rfl (by repeat (first | exact List.Mem.head _ | apply List.Mem.tail)) Tryz.isAgg26 Tryz.sizeOf26 (by rfl)) (Wn.none rfl) rfl rfl ?_
       refine WR.stepE (v' := .bool true) (Ex.eqlAgg rfl rfl (by kernel_rfl) (xeq26 n11 n18 n12 n19)) (congrArg Value.bool (decide_eq_true hk21)) (Wn.none rfl) rfl rfl ?_
       refine WR.step (Ex.move rfl) (Wn.none rfl) rfl rfl ?_
       refine WR.nil (WQ.any ?_)
       refine WA.take (i := 5) rfl (by kernel_rfl) (by kernel_rfl) (by kernel_rfl) (fun _ => Ex.build [I 0, I 0, I 0, I 0, I 0, I 0, I 0] Tryz.underlying23 Tryz.zeroValue23 (xplaces23 Tryz.underlying23) rfl (by kernel_rfl)) (Wn.some rfl rfl rfl) rfl rfl (fun _ _ => rfl) ?_
       refine WA.seq (fuel := 0) [4, 6, 7, 8] rfl (by kernel_rfl) ?_
       refine WR.step (Ex.loadAgg H rfl (by repeat (first | exact List.Mem.head _ | apply List.Mem.tail)) Tryz.isAgg23 Tryz.sizeOf23 (by rfl)) (Wn.some rfl rfl rfl) rfl rfl ?_
       refine WR.step (Ex.eqlAgg rfl rfl (by kernel_rfl) (xeq23 n4 0 n5 0 n6 0 n7 0 n8 0 n9 0 n10 0)) (Wn.some rfl rfl rfl) rfl rfl ?_
       refine WR.step (Ex.pickT rfl rfl) (Wn.none rfl) rfl rfl ?_
       refine WR.step (Ex.assign rfl) (Wn.none rfl) rfl rfl ?_
       refine WR.nil (WQ.any ?_)
       refine WA.done (by kernel_rfl) ?_
       exact WQ.meetN [(2, _)] ⟨rfl, trivial⟩ ⟨_, _, rfl, (H.pick (L' := []) (by repeat (first | exact Pick.nil | refine Pick.cons (by repeat (first | exact Rem.head | apply Rem.tail)) ?_))), hg_errR, hg_errS, hg_maxl, hg_pow10, e16⟩
     ·
      rw [if_neg hk21] at e16
      refine WA.two (i := 0) (j := 1) (by kernel_rfl) rfl rfl ?_ ?_
      ·
       refine WR.step (Ex.loadAgg H rfl (by repeat (first | exact List.Mem.head _ | apply List.Mem.tail)) Tryz.isAgg26 Tryz.sizeOf26 (by rfl)) (Wn.none rfl) rfl rfl ?_
       refine WR.nil (WQ.any ?_)
       refine WA.seq (fuel := 5) [1, 2, 3] rfl (by kernel_rfl) ?_
       refine WR.call H (R_At_ct hx20) rfl trivial (Wn.none rfl) rfl ?_
       intro v19 M w H hle hR
       replace hg_errR := hg_errR.mono hle
       replace hg_errS := hg_errS.mono hle
       replace hg_maxl := hg_maxl.mono hle
       replace hg_pow10 := hg_pow10.mono hle
       try dsimp only at hR
       obtain rfl := hR
       refine WR.stepE (v' := .bool false) (Ex.eqlAgg rfl rfl (by kernel_rfl) (xeq26 n11 n18 n12 n19)) (congrArg Value.bool (decide_eq_false hk21)) (Wn.none rfl) rfl rfl ?_
       refine WR.step (Ex.move rfl) (Wn.none rfl) rfl rfl ?_
       refine WR.nil (WQ.any ?_)
       refine WA.takeN (i := 4) rfl (by kernel_rfl) (by kernel_rfl) (by kernel_rfl) (wanted_g (b := false) rfl rfl rfl) rfl rfl (fun _ _ => rfl) ?_
       refine WA.seq (fuel := 0) [5, 6, 7, 8] rfl (by kernel_rfl) ?_
       refine WR.skipG (b := false) rfl rfl rfl rfl rfl ?_
       refine WR.skipG (b := false) rfl rfl rfl rfl rfl ?_
       refine WR.step (Ex.pickF rfl rfl) (Wn.none rfl) rfl rfl ?_
       refine WR.step (Ex.assign rfl) (Wn.none rfl) rfl rfl ?_
       refine WR.nil (WQ.any ?_)
       refine WA.done (by kernel_rfl) ?_
       exact WQ.meetN [(2, _)] ⟨rfl, trivial⟩ ⟨_, _, rfl, (H.pick (L' := []) (by repeat (first | exact Pick.nil | refine Pick.cons (by repeat (first | exact Rem.head | apply Rem.tail)) ?_))), hg_errR, hg_errS, hg_maxl, hg_pow10, e16⟩
      ·
       refine WR.call H (R_At_ct hx20) rfl trivial (Wn.none rfl) rfl ?_
       intro v19 M w H hle hR
       replace hg_errR := hg_errR.mono hle
       replace hg_errS := hg_errS.mono hle
       replace hg_maxl := hg_maxl.mono hle
       replace hg_pow10 := hg_pow10.mono hle
       try dsimp only at hR
       obtain rfl := hR
       refine WR.nil (WQ.any ?_)
       refine WA.seq (fuel := 5) [0, 2, 3] rfl (by kernel_rfl) ?_
       refine WR.step (Ex.loadAgg H rfl (by repeat (first | exact List.Mem.head _ | apply List.Mem.tail)) Tryz.isAgg26 Tryz.sizeOf26 (by rfl)) (Wn.none rfl) rfl rfl ?_
       refine WR.stepE (v' := .bool false) (Ex.eqlAgg rfl rfl (by kernel_rfl) (xeq26 n11 n18 n12 n19)) (congrArg Value.bool (decide_eq_false hk21)) (Wn.none rfl) rfl rfl ?_
       refine WR.step (Ex.move rfl) (Wn.none rfl) rfl rfl ?_
       refine WR.nil (WQ.any ?_)
       refine WA.takeN (i := 4) rfl (by kernel_rfl) (by kernel_rfl) (by kernel_rfl) (wanted_g (b := false) rfl rfl rfl) rfl rfl (fun _ _ => rfl) ?_
       refine WA.seq (fuel := 0) [5, 6, 7, 8] rfl (by kernel_rfl) ?_
       refine WR.skipG (b := false) rfl rfl rfl rfl rfl ?_
       refine WR.skipG (b := false) rfl rfl rfl rfl rfl ?_
       refine WR.step (Ex.pickF rfl rfl) (Wn.none rfl) rfl rfl ?_
       refine WR.step (Ex.assign rfl) (Wn.none rfl) rfl rfl ?_
       refine WR.nil (WQ.any ?_)
       refine WA.done (by kernel_rfl) ?_
       exact WQ.meetN [(2, _)] ⟨rfl, trivial⟩ ⟨_, _, rfl, (H.pick (L' := []) (by repeat (first | exact Pick.nil | refine Pick.cons (by repeat (first | exact Rem.head | apply Rem.tail)) ?_))), hg_errR, hg_errS, hg_maxl, hg_pow10, e16⟩
    ·
     rintro e w ⟨b17, M, rfl, H, hg_errR, hg_errS, hg_maxl, hg_pow10, q22⟩
     obtain rfl := Option.some.inj q22
     refine WQ.then ?_
     refine WC.ret ?_
     (repeat (first | refine WQ.thenRet ?_ | refine WQ.inBlockRet ?_ | refine WQ.cutRet ?_ | refine WQ.scRet ?_))
     obtain rfl := Option.some.inj h
     exact WQ.ret1 rfl rfl H.ext rfl
   ·
    replace hk14 : ¬ ((4000 : Int) < (p0.length : Int)) := of_decide_eq_false hk14
    rw [if_neg hk14] at h
    refine WC.skip ?_
    refine WQ.then ?_
    refine WC.seq ?_
    obtain ⟨⟨⟨n23, n24, n25, n26, n27, n28, n29⟩, b30⟩, hx31, h⟩ := bnd h
    try dsimp only at h
    refine WC.region ?_
    refine WR.step (Ex.move rfl) (Wn.none rfl) rfl rfl ?_
    refine WR.call H (R_DateRead_ct hx31) rfl trivial (Wn.none rfl) rfl ?_
    intro v28 M w H hle hR
    replace hg_errR := hg_errR.mono hle
    replace hg_errS := hg_errS.mono hle
    replace hg_maxl := hg_maxl.mono hle
    replace hg_pow10 := hg_pow10.mono hle
    try dsimp only at hR
    obtain rfl := hR
    refine WR.step (Ex.move rfl) (Wn.none rfl) rfl rfl ?_
    refine WR.step (Ex.extract rfl rfl) (Wn.none rfl) rfl rfl ?_
    refine WR.step (Ex.extract rfl rfl) (Wn.none rfl) rfl rfl ?_
    refine WR.alloc [_, _, _, _, _, _, _] H Tryz.zeroValue23 rfl (Wn.none rfl) rfl ?_
    intro b5 w H
    refine WR.store [_, _, _, _, _, _, _] H rfl rfl rfl (by repeat (first | exact Upd.head | apply Upd.tail)) Tryz.sizeOf23 rfl (by rfl) (by rfl) (Wn.none rfl) ?_
    intro w H
    refine WR.step (Ex.assign rfl) (Wn.none rfl) rfl rfl ?_
    refine WR.nil ?_
    refine WQ.then ?_
    refine WC.seq ?_
    refine WC.seq ?_
    refine WC.region ?_
    refine WR.step (Ex.move rfl) (Wn.none rfl) rfl rfl ?_
    refine WR.step (Ex.not rfl) (Wn.none rfl) rfl rfl ?_
    refine WR.nil ?_
    refine WQ.then ?_
    refine WC.condB rfl (fun hk32 => ?_) (fun hk32 => ?_)
    ·
     replace hk32 : b30 = false := by simpa using hk32
     subst hk32
     rw [if_neg Bool.false_ne_true] at h
     refine WC.seq ?_
     obtain ⟨o33, e34, h⟩ := bnd h
     refine WC.cutX (fun e w => ∃ (b35 : Bool) (M : Mem), e = [(2, Value.bool b35)] ∧ St w0 M0 M [] w ∧ GlF (fun w => ∃ tp p, w.var? Tryz.prog "strconv.ErrRange" = some #[.iface tp p]) M ∧ GlF (fun w => ∃ tp p, w.var? Tryz.prog "strconv.ErrSyntax" = some #[.iface tp p]) M ∧ GlF (fun w => ∃ m, w.cell? ⟨0, 0, none⟩ = some (.int .i64 m)) M ∧ GlF (fun w => Lib.TabIs Tryz.prog w "internal/strconv.uint64pow10" .u64 Lib.pow10Tab) M ∧ some b35 = some o33) [] ?_ ?_ (trivial)
     ·
      obtain ⟨⟨n36, n37⟩, hx38, e34⟩ := bnd e34
      try dsimp only at e34
      refine WC.draw (m := 9) rfl rfl H ?_
      intro w H
      by_cases hk39 : n11 = n36 ∧ n12 = n37
      ·
       rw [if_pos hk39] at e34
       refine WA.two (i := 0) (j := 1) (by kernel_rfl) rfl rfl ?_ ?_
       ·
        refine WR.step (Ex.loadAgg H rfl (by repeat (first | exact List.Mem.head _ | apply List.Mem.tail)) Tryz.isAgg26 Tryz.sizeOf26 (by rfl)) (Wn.none rfl) rfl rfl ?_
        refine WR.nil (WQ.any ?_)
        refine WA.seq (fuel := 5) [1, 2, 3] rfl (by kernel_rfl) ?_
        refine WR.call H (R_At_ct hx38) rfl trivial (Wn.none rfl) rfl ?_
        intro v34 M w H hle hR
        replace hg_errR := hg_errR.mono hle
        replace hg_errS := hg_errS.mono hle
        replace hg_maxl := hg_maxl.mono hle
        replace hg_pow10 := hg_pow10.mono hle
        try dsimp only at hR
        obtain rfl := hR
        refine WR.stepE (v' := .bool true) (Ex.eqlAgg rfl rfl (by kernel_rfl) (xeq26 n11 n36 n12 n37)) (congrArg Value.bool (decide_eq_true hk39)) (Wn.none rfl) rfl rfl ?_
        refine WR.step (Ex.move rfl) (Wn.none rfl) rfl rfl ?_
        refine WR.nil (WQ.any ?_)
        refine WA.take (i := 5) rfl (by kernel_rfl) (by kernel_rfl) (by kernel_rfl) (fun _ => Ex.build [I 0, I 0, I 0, I 0, I 0, I 0, I 0] Tryz.underlying23 Tryz.zeroValue23 (xplaces23 Tryz.underlying23) rfl (by kernel_rfl)) (Wn.some rfl rfl rfl) rfl rfl (fun _ _ => rfl) ?_
        refine WA.seq (fuel := 0) [4, 6, 7, 8] rfl (by kernel_rfl) ?_
        refine WR.step (Ex.loadAgg H rfl (by repeat (first | exact List.Mem.head _ | apply List.Mem.tail)) Tryz.isAgg23 Tryz.sizeOf23 (by rfl)) (Wn.some rfl rfl rfl) rfl rfl ?_
        refine WR.step (Ex.eqlAgg rfl rfl (by kernel_rfl) (xeq23 n4 0 n5 0 n6 0 n7 0 n8 0 n9 0 n10 0)) (Wn.some rfl rfl rfl) rfl rfl ?_
        refine WR.step (Ex.pickT rfl rfl) (Wn.none rfl) rfl rfl ?_
        refine WR.step (Ex.assign rfl) (Wn.none rfl) rfl rfl ?_
        refine WR.nil (WQ.any ?_)
        refine WA.done (by kernel_rfl) ?_
        exact WQ.meetN [(2, _)] ⟨rfl, trivial⟩ ⟨_, _, rfl, (H.pick (L' := []) (by repeat (first | exact Pick.nil | refine Pick.cons (by repeat (first | exact Rem.head | apply Rem.tail)) ?_))), hg_errR, hg_errS, hg_maxl, hg_pow10, e34⟩
       ·
        refine WR.call H (R_At_ct hx38) rfl trivial (Wn.none rfl) rfl ?_
        intro v34 M w H hle hR
        replace hg_errR := hg_errR.mono hle
        replace hg_errS := hg_errS.mono hle
        replace hg_maxl := hg_maxl.mono hle
        replace hg_pow10 := hg_pow10.mono hle
        try dsimp only at hR
        obtain rfl := hR
        refine WR.nil (WQ.any ?_)
        refine WA.seq (fuel := 5) [0, 2, 3] rfl (by kernel_rfl) ?_
        refine WR.step (Ex.loadAgg H rfl (by repeat (first | exact List.Mem.head _ | apply List.Mem.tail)) Tryz.isAgg26 Tryz.sizeOf26 (by rfl)) (Wn.none rfl) rfl rfl ?_
        refine WR.stepE (v' := .bool true) (Ex.eqlAgg rfl rfl (by kernel_rfl) (xeq26 n11 n36 n12 n37)) (congrArg Value.bool (decide_eq_true hk39)) (Wn.none rfl) rfl rfl ?_
        refine WR.step (Ex.move rfl) (Wn.none rfl) rfl rfl ?_
        refine WR.nil (WQ.any ?_)
        refine WA.take (i := 5) rfl (by kernel_rfl) (by kernel_rfl) (by kernel_rfl) (fun _ => Ex.build [I 0, I 0, I 0, I 0, I 0, I 0, I 0] Tryz.underlying23 Tryz.zeroValue23 (xplaces23 Tryz.underlying23) rfl (by kernel_rfl)) (Wn.some rfl rfl rfl) rfl rfl (fun _ _ => rfl) ?_
        refine WA.seq (fuel := 0) [4, 6, 7, 8] rfl (by kernel_rfl) ?_
        refine WR.step (Ex.loadAgg H rfl (by repeat (first | exact List.Mem.head _ | apply List.Mem.tail)) Tryz.isAgg23 Tryz.sizeOf23 (by rfl)) (Wn.some rfl rfl rfl) rfl rfl ?_
        refine WR.step (Ex.eqlAgg rfl rfl (by kernel_rfl) (xeq23 n4 0 n5 0 n6 0 n7 0 n8 0 n9 0 n10 0)) (Wn.some rfl rfl rfl) rfl rfl ?_
        refine WR.step (Ex.pickT rfl rfl) (Wn.none rfl) rfl rfl ?_
        refine WR.step (Ex.assign rfl) (Wn.none rfl) rfl rfl ?_
        refine WR.nil (WQ.any ?_)
        refine WA.done (by kernel_rfl) ?_
        exact WQ.meetN [(2, _)] ⟨rfl, trivial⟩ ⟨_, _, rfl, (H.pick (L' := []) (by repeat (first | exact Pick.nil | refine Pick.cons (by repeat (first | exact Rem.head | apply Rem.tail)) ?_))), hg_errR, hg_errS, hg_maxl, hg_pow10, e34⟩
      ·
       rw [if_neg hk39] at e34
       refine WA.two (i := 0) (j := 1) (by kernel_rfl) rfl rfl ?_ ?_
       ·
        refine WR.step (Ex.loadAgg H rfl (by repeat (first | exact List.Mem.head _ | apply List.Mem.tail)) Tryz.isAgg26 Tryz.sizeOf26 (by rfl)) (Wn.none rfl) rfl rfl ?_
        refine WR.nil (WQ.any ?_)
        refine WA.seq (fuel := 5) [1, 2, 3] rfl (by kernel_rfl) ?_
        refine WR.call H (R_At_ct hx38) rfl trivial (Wn.none rfl) rfl ?_
        intro v34 M w H hle hR
        replace hg_errR := hg_errR.mono hle
        replace hg_errS := hg_errS.mono hle
        replace hg_maxl := hg_maxl.mono hle
        replace hg_pow10 := hg_pow10.mono hle
        try dsimp only at hR
        obtain rfl := hR
        refine WR.stepE (v' := .bool false) (Ex.eqlAgg rfl rfl (by kernel_rfl) (xeq26 n11 n36 n12 n37)) (congrArg Value.bool (decide_eq_false hk39)) (Wn.none rfl) rfl rfl ?_
        refine WR.step (Ex.move rfl) (Wn.none rfl) rfl rfl ?_
        refine WR.nil (WQ.any ?_)
        refine WA.takeN (i := 4) rfl (by kernel_rfl) (by kernel_rfl) (by kernel_rfl) (wanted_g (b := false) rfl rfl rfl) rfl rfl (fun _ _ => rfl) ?_
        refine WA.seq (fuel := 0) [5, 6, 7, 8] rfl (by kernel_rfl) ?_
        refine WR.skipG (b := false) rfl rfl rfl rfl rfl ?_
        refine WR.skipG (b := false) rfl rfl rfl rfl rfl ?_
        refine WR.step (Ex.pickF rfl rfl) (Wn.none rfl) rfl rfl ?_
        refine WR.step (Ex.assign rfl) (Wn.none rfl) rfl rfl ?_
        refine WR.nil (WQ.any ?_)
        refine WA.done (by kernel_rfl) ?_
        exact WQ.meetN [(2, _)] ⟨rfl, trivial⟩ ⟨_, _, rfl, (H.pick (L' := []) (by repeat (first | exact Pick.nil | refine Pick.cons (by repeat (first | exact Rem.head | apply Rem.tail)) ?_))), hg_errR, hg_errS, hg_maxl, hg_pow10, e34⟩
       ·
        refine WR.call H (R_At_ct hx38) rfl trivial (Wn.none rfl) rfl ?_
        intro v34 M w H hle hR
        replace hg_errR := hg_errR.mono hle
        replace hg_errS := hg_errS.mono hle
        replace hg_maxl := hg_maxl.mono hle
        replace hg_pow10 := hg_pow10.mono hle
        try dsimp only at hR
        obtain rfl := hR
        refine WR.nil (WQ.any ?_)
        refine WA.seq (fuel := 5) [0, 2, 3] rfl (by kernel_rfl) ?_
        refine WR.step (Ex.loadAgg H rfl (by repeat (first | exact List.Mem.head _ | apply List.Mem.tail)) Tryz.isAgg26 Tryz.sizeOf26 (by rfl)) (Wn.none rfl) rfl rfl ?_
        refine WR.stepE (v' := .bool false) (Ex.eqlAgg rfl rfl (by kernel_rfl) (xeq26 n11 n36 n12 n37)) (congrArg Value.bool (decide_eq_false hk39)) (Wn.none rfl) rfl rfl ?_
        refine WR.step (Ex.move rfl) (Wn.none rfl) rfl rfl ?_
        refine WR.nil (WQ.any ?_)
        refine WA.takeN (i := 4) rfl (by kernel_rfl) (by kernel_rfl) (by kernel_rfl) (wanted_g (b := false) rfl rfl rfl) rfl rfl (fun _ _ => rfl) ?_
        refine WA.seq (fuel := 0) [5, 6, 7, 8] rfl (by kernel_rfl) ?_
        refine WR.skipG (b := false) rfl rfl rfl rfl rfl ?_
        refine WR.skipG (b := false) rfl rfl rfl rfl rfl ?_
        refine WR.step (Ex.pickF rfl rfl) (Wn.none rfl) rfl rfl ?_
        refine WR.step (Ex.assign rfl) (Wn.none rfl) rfl rfl ?_
        refine WR.nil (WQ.any ?_)
        refine WA.done (by kernel_rfl) ?_
        exact WQ.meetN [(2, _)] ⟨rfl, trivial⟩ ⟨_, _, rfl, (H.pick (L' := []) (by repeat (first | exact Pick.nil | refine Pick.cons (by repeat (first | exact Rem.head | apply Rem.tail)) ?_))), hg_errR, hg_errS, hg_maxl, hg_pow10, e34⟩
     ·
      rintro e w ⟨b35, M, rfl, H, hg_errR, hg_errS, hg_maxl, hg_pow10, q40⟩
      obtain rfl := Option.some.inj q40
      refine WQ.then ?_
      refine WC.ret ?_
      (repeat (first | refine WQ.thenRet ?_ | refine WQ.inBlockRet ?_ | refine WQ.cutRet ?_ | refine WQ.scRet ?_))
      obtain rfl := Option.some.inj h
      exact WQ.ret1 rfl rfl H.ext rfl
    ·
     replace hk32 : b30 = true := by simpa using hk32
     subst hk32
     rw [if_pos rfl] at h
     refine WC.skip ?_
     refine WQ.then ?_
     refine WC.seq ?_
     refine WC.seq ?_
     obtain ⟨⟨n41, n42⟩, hx43, h⟩ := bnd h
     try dsimp only at h
     refine WC.region ?_
     refine WR.step (Ex.loadAgg H rfl (by repeat (first | exact List.Mem.head _ | apply List.Mem.tail)) Tryz.isAgg23 Tryz.sizeOf23 (by rfl)) (Wn.none rfl) rfl rfl ?_
     refine WR.call H (R_DateFault_ct hx43) rfl trivial (Wn.none rfl) rfl ?_
     intro v42 M w H hle hR
     replace hg_errR := hg_errR.mono hle
     replace hg_errS := hg_errS.mono hle
     replace hg_maxl := hg_maxl.mono hle
     replace hg_pow10 := hg_pow10.mono hle
     try dsimp only at hR
     obtain rfl := hR
     refine WR.alloc [_, _] H Tryz.zeroValue26 rfl (Wn.none rfl) rfl ?_
     intro b7 w H
     refine WR.store [_, _] H rfl rfl rfl (by repeat (first | exact Upd.head | apply Upd.tail)) Tryz.sizeOf26 rfl (by rfl) (by rfl) (Wn.none rfl) ?_
     intro w H
     refine WR.nil ?_
     refine WQ.then ?_
     refine WC.seq ?_
     refine WC.region ?_
     refine WR.step (Ex.fieldAddr Tryz.underlying26 rfl Tryz.sizeOf3 (by decide) rfl) (Wn.none rfl) rfl rfl ?_
     refine WR.step (Ex.load1 H rfl (by repeat (first | exact List.Mem.head _ | apply List.Mem.tail)) Tryz.isAgg3 (by rfl)) (Wn.none rfl) rfl rfl ?_
     refine WR.step (Ex.neqC rfl rfl) (Wn.none rfl) rfl rfl ?_
     refine WR.nil ?_
     refine WQ.then ?_
     refine WC.condB rfl (fun hk44 => ?_) (fun hk44 => ?_)
     ·
      replace hk44 : ¬ (n41 = (0 : Int)) := of_not_decide hk44
      rw [if_neg hk44] at h
      refine WC.seq ?_
      obtain ⟨o45, e46, h⟩ := bnd h
      refine WC.cutX (fun e w => ∃ (b47 : Bool) (M : Mem), e = [(2, Value.bool b47)] ∧ St w0 M0 M [] w ∧ GlF (fun w => ∃ tp p, w.var? Tryz.prog "strconv.ErrRange" = some #[.iface tp p]) M ∧ GlF (fun w => ∃ tp p, w.var? Tryz.prog "strconv.ErrSyntax" = some #[.iface tp p]) M ∧ GlF (fun w => ∃ m, w.cell? ⟨0, 0, none⟩ = some (.int .i64 m)) M ∧ GlF (fun w => Lib.TabIs Tryz.prog w "internal/strconv.uint64pow10" .u64 Lib.pow10Tab) M ∧ some b47 = some o45) [] ?_ ?_ (trivial)
      ·
       refine WC.region ?_
       refine WR.step (Ex.loadAgg H rfl (by repeat (first | exact List.Mem.head _ | apply List.Mem.tail)) Tryz.isAgg26 Tryz.sizeOf26 (by rfl)) (Wn.none rfl) rfl rfl ?_
       refine WR.step (Ex.loadAgg H rfl (by repeat (first | exact List.Mem.head _ | apply List.Mem.tail)) Tryz.isAgg26 Tryz.sizeOf26 (by rfl)) (Wn.none rfl) rfl rfl ?_
       by_cases hk48 : n11 = n41 ∧ n12 = n42
       ·
        rw [if_pos hk48] at e46
        refine WR.stepE (v' := .bool true) (Ex.eqlAgg rfl rfl (by kernel_rfl) (xeq26 n11 n41 n12 n42)) (congrArg Value.bool (decide_eq_true hk48)) (Wn.none rfl) rfl rfl ?_
        refine WR.step (Ex.move rfl) (Wn.none rfl) rfl rfl ?_
        refine WR.step (Ex.loadAgg H rfl (by repeat (first | exact List.Mem.head _ | apply List.Mem.tail)) Tryz.isAgg23 Tryz.sizeOf23 (by rfl)) (Wn.some rfl rfl rfl) rfl rfl ?_
        refine WR.step (Ex.build [I 0, I 0, I 0, I 0, I 0, I 0, I 0] Tryz.underlying23 Tryz.zeroValue23 (xplaces23 Tryz.underlying23) rfl (by kernel_rfl)) (Wn.some rfl rfl rfl) rfl rfl ?_
        refine WR.step (Ex.eqlAgg rfl rfl (by kernel_rfl) (xeq23 n4 0 n5 0 n6 0 n7 0 n8 0 n9 0 n10 0)) (Wn.some rfl rfl rfl) rfl rfl ?_
        refine WR.step (Ex.pickT rfl rfl) (Wn.none rfl) rfl rfl ?_
        refine WR.step (Ex.assign rfl) (Wn.none rfl) rfl rfl ?_
        refine WR.nil ?_
        exact WQ.meetN [(2, _)] ⟨rfl, trivial⟩ ⟨_, _, rfl, (H.pick (L' := []) (by repeat (first | exact Pick.nil | refine Pick.cons (by repeat (first | exact Rem.head | apply Rem.tail)) ?_))), hg_errR, hg_errS, hg_maxl, hg_pow10, e46⟩
       ·
        rw [if_neg hk48] at e46
        refine WR.stepE (v' := .bool false) (Ex.eqlAgg rfl rfl (by kernel_rfl) (xeq26 n11 n41 n12 n42)) (congrArg Value.bool (decide_eq_false hk48)) (Wn.none rfl) rfl rfl ?_
        refine WR.step (Ex.move rfl) (Wn.none rfl) rfl rfl ?_
        refine WR.skipN 3 rfl rfl ?_
        refine WR.step (Ex.pickF rfl rfl) (Wn.none rfl) rfl rfl ?_
        refine WR.step (Ex.assign rfl) (Wn.none rfl) rfl rfl ?_
        refine WR.nil ?_
        exact WQ.meetN [(2, _)] ⟨rfl, trivial⟩ ⟨_, _, rfl, (H.pick (L' := []) (by repeat (first | exact Pick.nil | refine Pick.cons (by repeat (first | exact Rem.head | apply Rem.tail)) ?_))), hg_errR, hg_errS, hg_maxl, hg_pow10, e46⟩
      ·
       rintro e w ⟨b47, M, rfl, H, hg_errR, hg_errS, hg_maxl, hg_pow10, q49⟩
       obtain rfl := Option.some.inj q49
       refine WQ.then ?_
       refine WC.ret ?_
       (repeat (first | refine WQ.thenRet ?_ | refine WQ.inBlockRet ?_ | refine WQ.cutRet ?_ | refine WQ.scRet ?_))
       obtain rfl := Option.some.inj h
       exact WQ.ret1 rfl rfl H.ext rfl
     ·
      replace hk44 : n41 = (0 : Int) := of_not_decide' hk44
      rw [if_pos hk44] at h
      refine WC.skip ?_
      refine WQ.then ?_
      refine WC.seq ?_
      obtain ⟨o50, e51, h⟩ := bnd h
      refine WC.cutX (fun e w => ∃ (b52 : Bool) (M : Mem), e = [(2, Value.bool b52)] ∧ St w0 M0 M [] w ∧ GlF (fun w => ∃ tp p, w.var? Tryz.prog "strconv.ErrRange" = some #[.iface tp p]) M ∧ GlF (fun w => ∃ tp p, w.var? Tryz.prog "strconv.ErrSyntax" = some #[.iface tp p]) M ∧ GlF (fun w => ∃ m, w.cell? ⟨0, 0, none⟩ = some (.int .i64 m)) M ∧ GlF (fun w => Lib.TabIs Tryz.prog w "internal/strconv.uint64pow10" .u64 Lib.pow10Tab) M ∧ some b52 = some o50) [] ?_ ?_ (trivial)
      ·
       refine WC.region ?_
       refine WR.step (Ex.fieldAddr Tryz.underlying26 rfl Tryz.sizeOf3 (by decide) rfl) (Wn.none rfl) rfl rfl ?_
       refine WR.step (Ex.load1 H rfl (by repeat (first | exact List.Mem.head _ | apply List.Mem.tail)) Tryz.isAgg3 (by rfl)) (Wn.none rfl) rfl rfl ?_
       by_cases hk53 : n11 = (0 : Int)
       ·
        rw [if_pos hk53] at e51
        refine WR.stepE (v' := .bool true) (Ex.eql rfl rfl) (congrArg Value.bool (decide_eq_true hk53)) (Wn.none rfl) rfl rfl ?_
        refine WR.step (Ex.move rfl) (Wn.none rfl) rfl rfl ?_
        refine WR.step (Ex.loadAgg H rfl (by repeat (first | exact List.Mem.head _ | apply List.Mem.tail)) Tryz.isAgg23 Tryz.sizeOf23 (by rfl)) (Wn.some rfl rfl rfl) rfl rfl ?_
        refine WR.step (Ex.loadAgg H rfl (by repeat (first | exact List.Mem.head _ | apply List.Mem.tail)) Tryz.isAgg23 Tryz.sizeOf23 (by rfl)) (Wn.some rfl rfl rfl) rfl rfl ?_
        refine WR.step (Ex.eqlAgg rfl rfl (by kernel_rfl) (xeq23 n4 n23 n5 n24 n6 n25 n7 n26 n8 n27 n9 n28 n10 n29)) (Wn.some rfl rfl rfl) rfl rfl ?_
        refine WR.step (Ex.pickT rfl rfl) (Wn.none rfl) rfl rfl ?_
        refine WR.step (Ex.assign rfl) (Wn.none rfl) rfl rfl ?_
        refine WR.nil ?_
        exact WQ.meetN [(2, _)] ⟨rfl, trivial⟩ ⟨_, _, rfl, (H.pick (L' := []) (by repeat (first | exact Pick.nil | refine Pick.cons (by repeat (first | exact Rem.head | apply Rem.tail)) ?_))), hg_errR, hg_errS, hg_maxl, hg_pow10, e51⟩
       ·
        rw [if_neg hk53] at e51
        refine WR.stepE (v' := .bool false) (Ex.eql rfl rfl) (congrArg Value.bool (decide_eq_false hk53)) (Wn.none rfl) rfl rfl ?_
        refine WR.step (Ex.move rfl) (Wn.none rfl) rfl rfl ?_
        refine WR.skipN 3 rfl rfl ?_
        refine WR.step (Ex.pickF rfl rfl) (Wn.none rfl) rfl rfl ?_
        refine WR.step (Ex.assign rfl) (Wn.none rfl) rfl rfl ?_
        refine WR.nil ?_
        exact WQ.meetN [(2, _)] ⟨rfl, trivial⟩ ⟨_, _, rfl, (H.pick (L' := []) (by repeat (first | exact Pick.nil | refine Pick.cons (by repeat (first | exact Rem.head | apply Rem.tail)) ?_))), hg_errR, hg_errS, hg_maxl, hg_pow10, e51⟩
      ·
       rintro e w ⟨b52, M, rfl, H, hg_errR, hg_errS, hg_maxl, hg_pow10, q54⟩
       obtain rfl := Option.some.inj q54
       refine WQ.then ?_
       refine WC.ret ?_
       (repeat (first | refine WQ.thenRet ?_ | refine WQ.inBlockRet ?_ | refine WQ.cutRet ?_ | refine WQ.scRet ?_))
       obtain rfl := Option.some.inj h
       exact WQ.ret1 rfl rfl H.ext rfl
end Go.Proofs.YtlopnlagpdchiaaGreatDoor
