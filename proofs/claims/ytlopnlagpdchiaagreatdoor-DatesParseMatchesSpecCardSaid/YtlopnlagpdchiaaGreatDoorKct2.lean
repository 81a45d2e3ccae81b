/-
  Dates: contracts of the program's functions over their plain forms, written by wip/tools/ext.py.
-/
import Derived.Test.YtlopnlagpdchiaaGreatDoorKct1
import Derived.KernelRfl
set_option maxRecDepth 100000
set_option linter.unusedVariables false
set_option linter.unusedSimpArgs false
namespace Go.Proofs.YtlopnlagpdchiaaGreatDoor
open Go Go.RowKit Go.Ph Go.Ph.Pl Go.Ph.Pf
theorem dates_zone_ct {p0 : List UInt8} {r : (Int × Bool)} (h : dates_zone p0 = some r) : Ct Tryz.prog 59 [S p0] (fun M => GlF (fun w => ∃ tp p, w.var? Tryz.prog "strconv.ErrRange" = some #[.iface tp p]) M ∧ GlF (fun w => ∃ tp p, w.var? Tryz.prog "strconv.ErrSyntax" = some #[.iface tp p]) M) (fun v M => v = Value.tuple #[I r.1, Value.bool r.2]) := by
  refine Ct.of Tryz.func59 (enters Tryz.func59 (by kernel_rfl) rfl) rfl rfl rfl ?_
  intro w0 M0 H hp
  obtain ⟨hg_errR, hg_errS⟩ := hp
  unfold dates_zone at h
  refine WC.seq ?_
  refine WC.region ?_
  refine WR.step (Ex.assign rfl) (Wn.none rfl) rfl rfl ?_
  refine WR.step (Ex.assign rfl) (Wn.none rfl) rfl rfl ?_
  refine WR.nil ?_
  refine WQ.then ?_
  refine WC.seq ?_
  refine WC.seq ?_
  obtain ⟨o1, e2, h⟩ := bnd h
  refine WC.cutX (fun e w => ∃ (b3 : Bool) (M : Mem), e = [(0, S p0), (18, Value.bool b3)] ∧ St w0 M0 M [] w ∧ GlF (fun w => ∃ tp p, w.var? Tryz.prog "strconv.ErrRange" = some #[.iface tp p]) M ∧ GlF (fun w => ∃ tp p, w.var? Tryz.prog "strconv.ErrSyntax" = some #[.iface tp p]) M ∧ some b3 = some o1) [] ?_ ?_ (trivial)
  ·
   by_cases hk4 : p0 = [71, 77, 84]
   ·
    rw [if_pos hk4] at e2
    refine WC.region ?_
    refine WR.step (Ex.move rfl) (Wn.none rfl) rfl rfl ?_
    refine WR.stepE (v' := .bool true) (Ex.strEql rfl rfl) (congrArg Value.bool (decide_eq_true hk4)) (Wn.none rfl) rfl rfl ?_
    refine WR.step (Ex.move rfl) (Wn.none rfl) rfl rfl ?_
    refine WR.skipG (b := true) rfl rfl rfl rfl rfl ?_
    refine WR.skipG (b := true) rfl rfl rfl rfl rfl ?_
    refine WR.step (Ex.pickT rfl rfl) (Wn.none rfl) rfl rfl ?_
    refine WR.step (Ex.move rfl) (Wn.none rfl) rfl rfl ?_
    refine WR.skipG (b := true) rfl rfl rfl rfl rfl ?_
    refine WR.skipG (b := true) rfl rfl rfl rfl rfl ?_
    refine WR.step (Ex.pickT rfl rfl) (Wn.none rfl) rfl rfl ?_
    refine WR.nil ?_
    exact WQ.meetN [(0, _), (18, _)] ⟨rfl, rfl, trivial⟩ ⟨_, _, rfl, H, hg_errR, hg_errS, e2⟩
   ·
    rw [if_neg hk4] at e2
    refine WC.region ?_
    refine WR.step (Ex.move rfl) (Wn.none rfl) rfl rfl ?_
    refine WR.stepE (v' := .bool false) (Ex.strEql rfl rfl) (congrArg Value.bool (decide_eq_false hk4)) (Wn.none rfl) rfl rfl ?_
    by_cases hk5 : p0 = [85, 84]
    ·
     rw [if_pos hk5] at e2
     refine WR.step (Ex.move rfl) (Wn.none rfl) rfl rfl ?_
     refine WR.step (Ex.move rfl) (Wn.some rfl rfl rfl) rfl rfl ?_
     refine WR.stepE (v' := .bool true) (Ex.strEql rfl rfl) (congrArg Value.bool (decide_eq_true hk5)) (Wn.some rfl rfl rfl) rfl rfl ?_
     refine WR.step (Ex.pickF rfl rfl) (Wn.none rfl) rfl rfl ?_
     refine WR.step (Ex.move rfl) (Wn.none rfl) rfl rfl ?_
     refine WR.skipG (b := true) rfl rfl rfl rfl rfl ?_
     refine WR.skipG (b := true) rfl rfl rfl rfl rfl ?_
     refine WR.step (Ex.pickT rfl rfl) (Wn.none rfl) rfl rfl ?_
     refine WR.nil ?_
     exact WQ.meetN [(0, _), (18, _)] ⟨rfl, rfl, trivial⟩ ⟨_, _, rfl, H, hg_errR, hg_errS, e2⟩
    ·
     rw [if_neg hk5] at e2
     refine WR.step (Ex.move rfl) (Wn.none rfl) rfl rfl ?_
     refine WR.step (Ex.move rfl) (Wn.some rfl rfl rfl) rfl rfl ?_
     refine WR.stepE (v' := .bool false) (Ex.strEql rfl rfl) (congrArg Value.bool (decide_eq_false hk5)) (Wn.some rfl rfl rfl) rfl rfl ?_
     refine WR.step (Ex.pickF rfl rfl) (Wn.none rfl) rfl rfl ?_
     refine WR.step (Ex.move rfl) (Wn.none rfl) rfl rfl ?_
     refine WR.step (Ex.move rfl) (Wn.some rfl rfl rfl) rfl rfl ?_
     refine WR.step (Ex.strEql rfl rfl) (Wn.some rfl rfl rfl) rfl rfl ?_
     refine WR.step (Ex.pickF rfl rfl) (Wn.none rfl) rfl rfl ?_
     refine WR.nil ?_
     exact WQ.meetN [(0, _), (18, _)] ⟨rfl, rfl, trivial⟩ ⟨_, _, rfl, H, hg_errR, hg_errS, e2⟩
  ·
   rintro e w ⟨b3, M, rfl, H, hg_errR, hg_errS, q6⟩
   obtain rfl := Option.some.inj q6
   refine WQ.then ?_
   refine WC.condB rfl (fun hk7 => ?_) (fun hk7 => ?_)
   ·
    subst hk7
    rw [if_pos rfl] at h
    refine WC.seq ?_
    refine WC.region ?_
    refine WR.step (Ex.assign rfl) (Wn.none rfl) rfl rfl ?_
    refine WR.step (Ex.assign rfl) (Wn.none rfl) rfl rfl ?_
    refine WR.nil ?_
    refine WQ.then ?_
    refine WC.ret ?_
    (repeat (first | refine WQ.thenRet ?_ | refine WQ.inBlockRet ?_ | refine WQ.cutRet ?_ | refine WQ.scRet ?_))
    obtain rfl := Option.some.inj h
    exact WQ.ret2 rfl rfl rfl H.ext rfl
   ·
    subst hk7
    rw [if_neg Bool.false_ne_true] at h
    refine WC.skip ?_
    refine WQ.then ?_
    refine WC.seq ?_
    refine WC.seq ?_
    obtain ⟨o8, e9, h⟩ := bnd h
    refine WC.cutX (fun e w => ∃ (b10 : Bool) (M : Mem), e = [(0, S p0), (31, Value.bool b10)] ∧ St w0 M0 M [] w ∧ GlF (fun w => ∃ tp p, w.var? Tryz.prog "strconv.ErrRange" = some #[.iface tp p]) M ∧ GlF (fun w => ∃ tp p, w.var? Tryz.prog "strconv.ErrSyntax" = some #[.iface tp p]) M ∧ some b10 = some o8) [] ?_ ?_ (trivial)
    ·
     refine WC.region ?_
     refine WR.step (Ex.move rfl) (Wn.none rfl) rfl rfl ?_
     refine WR.step (Ex.lenStr Tryz.underlying9 rfl) (Wn.none rfl) rfl rfl ?_
     by_cases hk11 : (p0.length : Int) = (5 : Int)
     ·
      rw [if_pos hk11] at e9
      obtain ⟨c12, hxc12, e9⟩ := bnd e9
      by_cases hk13 : c12 = 43
      ·
       rw [if_pos hk13] at e9
       refine WR.stepE (v' := .bool false) (Ex.neqC rfl rfl) (congrArg Value.bool (by rw [decide_eq_true hk11]; rfl)) (Wn.none rfl) rfl rfl ?_
       refine WR.step (Ex.move rfl) (Wn.none rfl) rfl rfl ?_
       refine WR.step (Ex.move rfl) (Wn.some rfl rfl rfl) rfl rfl ?_
       refine WR.step (Ex.idxStrC Tryz.underlying9 rfl rfl hxc12) (Wn.some rfl rfl rfl) rfl rfl ?_
       refine WR.stepE (v' := .bool false) (Ex.neqB (c := c12) (d := 43) rfl rfl) (congrArg Value.bool (by rw [decide_eq_true hk13]; rfl)) (Wn.some rfl rfl rfl) rfl rfl ?_
       refine WR.step (Ex.move rfl) (Wn.some rfl rfl rfl) rfl rfl ?_
       refine WR.skipN 3 rfl rfl ?_
       refine WR.step (Ex.pickF rfl rfl) (Wn.some rfl rfl rfl) rfl rfl ?_
       refine WR.step (Ex.pickF rfl rfl) (Wn.none rfl) rfl rfl ?_
       refine WR.nil ?_
       exact WQ.meetN [(0, _), (31, _)] ⟨rfl, rfl, trivial⟩ ⟨_, _, rfl, H, hg_errR, hg_errS, e9⟩
      ·
       rw [if_neg hk13] at e9
       obtain ⟨c14, hxc14, e9⟩ := bnd e9
       refine WR.stepE (v' := .bool false) (Ex.neqC rfl rfl) (congrArg Value.bool (by rw [decide_eq_true hk11]; rfl)) (Wn.none rfl) rfl rfl ?_
       refine WR.step (Ex.move rfl) (Wn.none rfl) rfl rfl ?_
       refine WR.step (Ex.move rfl) (Wn.some rfl rfl rfl) rfl rfl ?_
       refine WR.step (Ex.idxStrC Tryz.underlying9 rfl rfl hxc12) (Wn.some rfl rfl rfl) rfl rfl ?_
       refine WR.stepE (v' := .bool true) (Ex.neqB (c := c12) (d := 43) rfl rfl) (congrArg Value.bool (by rw [decide_eq_false hk13]; rfl)) (Wn.some rfl rfl rfl) rfl rfl ?_
       refine WR.step (Ex.move rfl) (Wn.some rfl rfl rfl) rfl rfl ?_
       refine WR.step (Ex.move rfl) (Wn.some rfl rfl rfl) rfl rfl ?_
       refine WR.step (Ex.idxStrC Tryz.underlying9 rfl rfl hxc14) (Wn.some rfl rfl rfl) rfl rfl ?_
       refine WR.step (Ex.neqB (c := c14) (d := 45) rfl rfl) (Wn.some rfl rfl rfl) rfl rfl ?_
       refine WR.step (Ex.pickT rfl rfl) (Wn.some rfl rfl rfl) rfl rfl ?_
       refine WR.step (Ex.pickF rfl rfl) (Wn.none rfl) rfl rfl ?_
       refine WR.nil ?_
       exact WQ.meetN [(0, _), (31, _)] ⟨rfl, rfl, trivial⟩ ⟨_, _, rfl, H, hg_errR, hg_errS, e9⟩
     ·
      rw [if_neg hk11] at e9
      refine WR.stepE (v' := .bool true) (Ex.neqC rfl rfl) (congrArg Value.bool (by rw [decide_eq_false hk11]; rfl)) (Wn.none rfl) rfl rfl ?_
      refine WR.step (Ex.move rfl) (Wn.none rfl) rfl rfl ?_
      refine WR.skipN 8 rfl rfl ?_
      refine WR.step (Ex.pickT rfl rfl) (Wn.none rfl) rfl rfl ?_
      refine WR.nil ?_
      exact WQ.meetN [(0, _), (31, _)] ⟨rfl, rfl, trivial⟩ ⟨_, _, rfl, H, hg_errR, hg_errS, e9⟩
    ·
     rintro e w ⟨b10, M, rfl, H, hg_errR, hg_errS, q15⟩
     obtain rfl := Option.some.inj q15
     refine WQ.then ?_
     refine WC.condB rfl (fun hk16 => ?_) (fun hk16 => ?_)
     ·
      subst hk16
      rw [if_pos rfl] at h
      refine WC.seq ?_
      refine WC.region ?_
      refine WR.step (Ex.assign rfl) (Wn.none rfl) rfl rfl ?_
      refine WR.step (Ex.assign rfl) (Wn.none rfl) rfl rfl ?_
      refine WR.nil ?_
      refine WQ.then ?_
      refine WC.ret ?_
      (repeat (first | refine WQ.thenRet ?_ | refine WQ.inBlockRet ?_ | refine WQ.cutRet ?_ | refine WQ.scRet ?_))
      obtain rfl := Option.some.inj h
      exact WQ.ret2 rfl rfl rfl H.ext rfl
     ·
      subst hk16
      rw [if_neg Bool.false_ne_true] at h
      refine WC.skip ?_
      refine WQ.then ?_
      refine WC.seq ?_
      obtain ⟨s17, hxs17, h⟩ := bnd h
      obtain ⟨⟨n18, b19⟩, hx20, h⟩ := bnd h
      try dsimp only at h
      refine WC.region ?_
      refine WR.step (Ex.move rfl) (Wn.none rfl) rfl rfl ?_
      refine WR.step (Ex.sliceC Tryz.underlying9 rfl rfl rfl hxs17) (Wn.none rfl) rfl rfl ?_
      refine WR.call H (dates_number_ct hx20) rfl ⟨hg_errR, hg_errS⟩ (Wn.none rfl) rfl ?_
      intro v35 M w H hle hR
      replace hg_errR := hg_errR.mono hle
      replace hg_errS := hg_errS.mono hle
      try dsimp only at hR
      obtain rfl := hR
      refine WR.step (Ex.move rfl) (Wn.none rfl) rfl rfl ?_
      refine WR.step (Ex.extract rfl rfl) (Wn.none rfl) rfl rfl ?_
      refine WR.step (Ex.extract rfl rfl) (Wn.none rfl) rfl rfl ?_
      refine WR.step (Ex.assign rfl) (Wn.none rfl) rfl rfl ?_
      refine WR.step (Ex.assign rfl) (Wn.none rfl) rfl rfl ?_
      refine WR.nil ?_
      refine WQ.then ?_
      refine WC.seq ?_
      obtain ⟨s21, hxs21, h⟩ := bnd h
      obtain ⟨⟨n22, b23⟩, hx24, h⟩ := bnd h
      try dsimp only at h
      refine WC.region ?_
      refine WR.step (Ex.move rfl) (Wn.none rfl) rfl rfl ?_
      refine WR.step (Ex.sliceL Tryz.underlying9 rfl rfl hxs21) (Wn.none rfl) rfl rfl ?_
      refine WR.call H (dates_number_ct hx24) rfl ⟨hg_errR, hg_errS⟩ (Wn.none rfl) rfl ?_
      intro v41 M w H hle hR
      replace hg_errR := hg_errR.mono hle
      replace hg_errS := hg_errS.mono hle
      try dsimp only at hR
      obtain rfl := hR
      refine WR.step (Ex.move rfl) (Wn.none rfl) rfl rfl ?_
      refine WR.step (Ex.extract rfl rfl) (Wn.none rfl) rfl rfl ?_
      refine WR.step (Ex.extract rfl rfl) (Wn.none rfl) rfl rfl ?_
      refine WR.step (Ex.assign rfl) (Wn.none rfl) rfl rfl ?_
      refine WR.step (Ex.assign rfl) (Wn.none rfl) rfl rfl ?_
      refine WR.nil ?_
      refine WQ.then ?_
      refine WC.seq ?_
      obtain ⟨n25, hxn25, h⟩ := bnd h
      obtain ⟨n26, hxn26, h⟩ := bnd h
      refine WC.region ?_
      refine WR.step (Ex.move rfl) (Wn.none rfl) rfl rfl ?_
      refine WR.step (Ex.mulC rfl rfl hxn25) (Wn.none rfl) rfl rfl ?_
      refine WR.step (Ex.move rfl) (Wn.none rfl) rfl rfl ?_
      refine WR.step (Ex.addC rfl rfl hxn26) (Wn.none rfl) rfl rfl ?_
      refine WR.step (Ex.assign rfl) (Wn.none rfl) rfl rfl ?_
      refine WR.nil ?_
      refine WQ.then ?_
      refine WC.seq ?_
      refine WC.seq ?_
      obtain ⟨c27, hxc27, h⟩ := bnd h
      refine WC.region ?_
      refine WR.step (Ex.move rfl) (Wn.none rfl) rfl rfl ?_
      refine WR.step (Ex.idxStrC Tryz.underlying9 rfl rfl hxc27) (Wn.none rfl) rfl rfl ?_
      refine WR.step (Ex.eqlB (c := c27) (d := 45) rfl rfl) (Wn.none rfl) rfl rfl ?_
      refine WR.nil ?_
      refine WQ.then ?_
      obtain ⟨o28, e29, h⟩ := bnd h
      refine WC.cutX (fun e w => ∃ (n30 : Int) (M : Mem), e = [(5, Value.bool b19), (6, I n22), (7, Value.bool b23), (8, I n30)] ∧ St w0 M0 M [] w ∧ GlF (fun w => ∃ tp p, w.var? Tryz.prog "strconv.ErrRange" = some #[.iface tp p]) M ∧ GlF (fun w => ∃ tp p, w.var? Tryz.prog "strconv.ErrSyntax" = some #[.iface tp p]) M ∧ some n30 = some o28) [] ?_ ?_ (trivial)
      ·
       refine WC.condB rfl (fun hk31 => ?_) (fun hk31 => ?_)
       ·
        replace hk31 : c27 = 45 := of_decide_eq_true hk31
        rw [if_pos hk31] at e29
        obtain ⟨n32, hxn32, e29⟩ := bnd e29
        refine WC.region ?_
        refine WR.step (Ex.move rfl) (Wn.none rfl) rfl rfl ?_
        refine WR.step (Ex.negC rfl hxn32) (Wn.none rfl) rfl rfl ?_
        refine WR.step (Ex.assign rfl) (Wn.none rfl) rfl rfl ?_
        refine WR.nil ?_
        exact WQ.meetN [(5, _), (6, _), (7, _), (8, _)] ⟨rfl, rfl, rfl, rfl, trivial⟩ ⟨_, _, rfl, H, hg_errR, hg_errS, e29⟩
       ·
        replace hk31 : ¬ (c27 = 45) := of_decide_eq_false hk31
        rw [if_neg hk31] at e29
        refine WC.skip ?_
        exact WQ.meetN [(5, _), (6, _), (7, _), (8, _)] ⟨rfl, rfl, rfl, rfl, trivial⟩ ⟨_, _, rfl, H, hg_errR, hg_errS, e29⟩
      ·
       rintro e w ⟨n30, M, rfl, H, hg_errR, hg_errS, q33⟩
       obtain rfl := Option.some.inj q33
       refine WQ.then ?_
       refine WC.seq ?_
       obtain ⟨o34, e35, h⟩ := bnd h
       refine WC.cutX (fun e w => ∃ (n36 : Int) (b37 : Bool) (M : Mem), e = [(2, I n36), (3, Value.bool b37)] ∧ St w0 M0 M [] w ∧ GlF (fun w => ∃ tp p, w.var? Tryz.prog "strconv.ErrRange" = some #[.iface tp p]) M ∧ GlF (fun w => ∃ tp p, w.var? Tryz.prog "strconv.ErrSyntax" = some #[.iface tp p]) M ∧ some (n36, b37) = some o34) [] ?_ ?_ (trivial)
       ·
        refine WC.region ?_
        refine WR.step (Ex.move rfl) (Wn.none rfl) rfl rfl ?_
        refine WR.step (Ex.move rfl) (Wn.none rfl) rfl rfl ?_
        refine WR.step (Ex.move rfl) (Wn.none rfl) rfl rfl ?_
        rcases b19 with _ | _
        ·
         rw [if_neg Bool.false_ne_true] at e35
         refine WR.skipG (b := false) rfl rfl rfl rfl rfl ?_
         refine WR.step (Ex.pickF rfl rfl) (Wn.none rfl) rfl rfl ?_
         refine WR.step (Ex.move rfl) (Wn.none rfl) rfl rfl ?_
         refine WR.skipG (b := false) rfl rfl rfl rfl rfl ?_
         refine WR.skipG (b := false) rfl rfl rfl rfl rfl ?_
         refine WR.step (Ex.pickF rfl rfl) (Wn.none rfl) rfl rfl ?_
         refine WR.step (Ex.assign rfl) (Wn.none rfl) rfl rfl ?_
         refine WR.step (Ex.assign rfl) (Wn.none rfl) rfl rfl ?_
         refine WR.nil ?_
         exact WQ.meetN [(2, _), (3, _)] ⟨rfl, rfl, trivial⟩ ⟨_, _, _, rfl, H, hg_errR, hg_errS, e35⟩
        ·
         rw [if_pos rfl] at e35
         refine WR.step (Ex.move rfl) (Wn.some rfl rfl rfl) rfl rfl ?_
         refine WR.step (Ex.pickT rfl rfl) (Wn.none rfl) rfl rfl ?_
         refine WR.step (Ex.move rfl) (Wn.none rfl) rfl rfl ?_
         rcases b23 with _ | _
         ·
          rw [if_neg Bool.false_ne_true] at e35
          refine WR.skipG (b := false) rfl rfl rfl rfl rfl ?_
          refine WR.skipG (b := false) rfl rfl rfl rfl rfl ?_
          refine WR.step (Ex.pickF rfl rfl) (Wn.none rfl) rfl rfl ?_
          refine WR.step (Ex.assign rfl) (Wn.none rfl) rfl rfl ?_
          refine WR.step (Ex.assign rfl) (Wn.none rfl) rfl rfl ?_
          refine WR.nil ?_
          exact WQ.meetN [(2, _), (3, _)] ⟨rfl, rfl, trivial⟩ ⟨_, _, _, rfl, H, hg_errR, hg_errS, e35⟩
         ·
          rw [if_pos rfl] at e35
          refine WR.step (Ex.move rfl) (Wn.some rfl rfl rfl) rfl rfl ?_
          refine WR.step (Ex.lss rfl rfl) (Wn.some rfl rfl rfl) rfl rfl ?_
          refine WR.step (Ex.pickT rfl rfl) (Wn.none rfl) rfl rfl ?_
          refine WR.step (Ex.assign rfl) (Wn.none rfl) rfl rfl ?_
          refine WR.step (Ex.assign rfl) (Wn.none rfl) rfl rfl ?_
          refine WR.nil ?_
          exact WQ.meetN [(2, _), (3, _)] ⟨rfl, rfl, trivial⟩ ⟨_, _, _, rfl, H, hg_errR, hg_errS, e35⟩
       ·
        rintro e w ⟨n36, b37, M, rfl, H, hg_errR, hg_errS, q38⟩
        obtain rfl := Option.some.inj q38
        try dsimp only at h
        refine WQ.then ?_
        refine WC.ret ?_
        (repeat (first | refine WQ.thenRet ?_ | refine WQ.inBlockRet ?_ | refine WQ.cutRet ?_ | refine WQ.scRet ?_))
        obtain rfl := Option.some.inj h
        exact WQ.ret2 rfl rfl rfl H.ext rfl
set_option maxHeartbeats 4000000 in
theorem dates_read_ct {p0 : List (List UInt8)} {vp0 : Value} {r : ((Int × Int × Int × Int × Int × Int × Int) × Bool)} (h : dates_read p0 = some r) : Ct Tryz.prog 39 [vp0] (fun M => GlF (fun w => ∃ tp p, w.var? Tryz.prog "strconv.ErrRange" = some #[.iface tp p]) M ∧ GlF (fun w => ∃ tp p, w.var? Tryz.prog "strconv.ErrSyntax" = some #[.iface tp p]) M ∧ GlF (fun w => ∃ m, w.cell? ⟨0, 0, none⟩ = some (.int .i64 m)) M ∧ Sl M encS vp0 p0) (fun v M => v = Value.tuple #[Value.agg #[I r.1.1, I r.1.2.1, I r.1.2.2.1, I r.1.2.2.2.1, I r.1.2.2.2.2.1, I r.1.2.2.2.2.2.1, I r.1.2.2.2.2.2.2], Value.bool r.2]) := by
  refine Ct.of Tryz.func39 (enters Tryz.func39 (by kernel_rfl) rfl) rfl rfl rfl ?_
  intro w0 M0 H hp
  obtain ⟨hg_errR, hg_errS, hg_maxl, hp0⟩ := hp
  unfold dates_read at h
  refine WC.seq ?_
  refine WC.region ?_
  refine WR.alloc [_, _, _, _, _, _, _] H Tryz.zeroValue23 rfl (Wn.none rfl) rfl ?_
  intro b2 w H
  refine WR.step (Ex.assign rfl) (Wn.none rfl) rfl rfl ?_
  refine WR.nil ?_
  refine WQ.then ?_
  refine WC.seq ?_
  obtain ⟨n1, hx2, h⟩ := bnd h
  obtain ⟨l3, hxl3, h⟩ := bnd h
  obtain ⟨l4, hxl4, h⟩ := bnd h
  refine WC.region ?_
  refine WR.call H (dates_weekdays_ct hx2) rfl trivial (Wn.none rfl) rfl ?_
  intro v8 M w H hle hR
  replace hg_errR := hg_errR.mono hle
  replace hg_errS := hg_errS.mono hle
  replace hg_maxl := hg_maxl.mono hle
  replace hp0 := hp0.mono hle
  obtain rfl := hR
  refine WR.alloc (List.map encS (List.replicate 7 [] : List (List UInt8))) H Tryz.zeroValue55 (by kernel_rfl) (Wn.none rfl) rfl ?_
  intro b4 w H
  refine WR.storeA (l2 := n1) H rfl rfl (fun _ => rfl) (fun _ => by repeat (first | exact Upd.head | apply Upd.tail)) hxl3 hxl4 Tryz.sizeOf55 (Wn.none rfl) ?_
  intro w H
  refine WR.nil ?_
  refine WQ.then ?_
  refine WC.seq ?_
  refine WC.seq ?_
  obtain ⟨o5, e6, h⟩ := bnd h
  refine WC.cutX (fun e w => ∃ (b7 : Bool) (M : Mem), e = [(0, vp0), (2, ptr b2 0), (4, ptr b4 0), (17, Value.bool b7)] ∧ St w0 M0 M [.blk b2 (.cells #[I 0, I 0, I 0, I 0, I 0, I 0, I 0] 23), .blk b4 (.cells (List.map encS n1).toArray 55)] w ∧ GlF (fun w => ∃ tp p, w.var? Tryz.prog "strconv.ErrRange" = some #[.iface tp p]) M ∧ GlF (fun w => ∃ tp p, w.var? Tryz.prog "strconv.ErrSyntax" = some #[.iface tp p]) M ∧ GlF (fun w => ∃ m, w.cell? ⟨0, 0, none⟩ = some (.int .i64 m)) M ∧ Sl M encS vp0 p0 ∧ some b7 = some o5) [] ?_ ?_ (trivial)
  ·
   refine WC.region ?_
   refine WR.step (Ex.move rfl) (Wn.none rfl) rfl rfl ?_
   refine WR.step (Ex.lenSl Tryz.underlying59 hp0 rfl) (Wn.none rfl) rfl rfl ?_
   by_cases hk8 : (0 : Int) < (p0.length : Int)
   ·
    rw [if_pos hk8] at e6
    obtain ⟨a9, hxa9, e6⟩ := bnd e6
    obtain ⟨b10, hx11, e6⟩ := bnd e6
    refine WR.stepE (v' := .bool true) (Ex.gtr rfl rfl) (congrArg Value.bool (decide_eq_true hk8)) (Wn.none rfl) rfl rfl ?_
    refine WR.step (Ex.move rfl) (Wn.none rfl) rfl rfl ?_
    refine WR.step (Ex.move rfl) (Wn.some rfl rfl rfl) rfl rfl ?_
    refine WR.idxC Tryz.underlying59 Tryz.sizeOf9 (hp0) rfl rfl hxa9 (Wn.some rfl rfl rfl) rfl ?_
    intro p14 hc14
    refine WR.step (Ex.loadM H rfl hc14 Tryz.isAgg9) (Wn.some rfl rfl rfl) rfl rfl ?_
    refine WR.call H (strings_HasSuffix_ct hx11) rfl trivial (Wn.some rfl rfl rfl) rfl ?_
    intro v16 M w H hle hR
    replace hg_errR := hg_errR.mono hle
    replace hg_errS := hg_errS.mono hle
    replace hg_maxl := hg_maxl.mono hle
    replace hp0 := hp0.mono hle
    replace hc14 := hc14.mono hle
    obtain rfl := hR
    refine WR.step (Ex.pickT rfl rfl) (Wn.none rfl) rfl rfl ?_
    refine WR.nil ?_
    exact WQ.meetN [(0, _), (2, _), (4, _), (17, _)] ⟨rfl, rfl, rfl, rfl, trivial⟩ ⟨_, _, rfl, (H.pick (L' := [.blk b2 (.cells #[I 0, I 0, I 0, I 0, I 0, I 0, I 0] 23), .blk b4 (.cells (List.map encS n1).toArray 55)]) (by repeat (first | exact Pick.nil | refine Pick.cons (by repeat (first | exact Rem.head | apply Rem.tail)) ?_))), hg_errR, hg_errS, hg_maxl, hp0, e6⟩
   ·
    rw [if_neg hk8] at e6
    refine WR.stepE (v' := .bool false) (Ex.gtr rfl rfl) (congrArg Value.bool (decide_eq_false hk8)) (Wn.none rfl) rfl rfl ?_
    refine WR.step (Ex.move rfl) (Wn.none rfl) rfl rfl ?_
    refine WR.skipN 4 rfl rfl ?_
    refine WR.step (Ex.pickF rfl rfl) (Wn.none rfl) rfl rfl ?_
    refine WR.nil ?_
    exact WQ.meetN [(0, _), (2, _), (4, _), (17, _)] ⟨rfl, rfl, rfl, rfl, trivial⟩ ⟨_, _, rfl, (H.pick (L' := [.blk b2 (.cells #[I 0, I 0, I 0, I 0, I 0, I 0, I 0] 23), .blk b4 (.cells (List.map encS n1).toArray 55)]) (by repeat (first | exact Pick.nil | refine Pick.cons (by repeat (first | exact Rem.head | apply Rem.tail)) ?_))), hg_errR, hg_errS, hg_maxl, hp0, e6⟩
  ·
   rintro e w ⟨b7, M, rfl, H, hg_errR, hg_errS, hg_maxl, hp0, q12⟩
   obtain rfl := Option.some.inj q12
   refine WQ.then ?_
   obtain ⟨o13, e14, h⟩ := bnd h
   refine WC.cutX (fun e w => ∃ (l15 : List (List UInt8)) (v16 : Value) (n18 : Int) (n19 : Int) (n20 : Int) (n21 : Int) (n22 : Int) (n23 : Int) (n24 : Int) (M : Mem), e = [(0, v16), (2, ptr b2 0)] ∧ St w0 M0 M [.blk b2 (.cells #[I n18, I n19, I n20, I n21, I n22, I n23, I n24] 23)] w ∧ GlF (fun w => ∃ tp p, w.var? Tryz.prog "strconv.ErrRange" = some #[.iface tp p]) M ∧ GlF (fun w => ∃ tp p, w.var? Tryz.prog "strconv.ErrSyntax" = some #[.iface tp p]) M ∧ GlF (fun w => ∃ m, w.cell? ⟨0, 0, none⟩ = some (.int .i64 m)) M ∧ Sl M encS v16 l15 ∧ some (.inl (l15, n18, n19, n20, n21, n22, n23, n24)) = some o13) [] ?_ ?_ (trivial)
   ·
    refine WC.condB rfl (fun hk25 => ?_) (fun hk25 => ?_)
    ·
     subst hk25
     rw [if_pos rfl] at e14
     refine WC.seq ?_
     refine WC.seq ?_
     obtain ⟨l27, hxl27, e14⟩ := bnd e14
     obtain ⟨a28, hxa28, e14⟩ := bnd e14
     obtain ⟨s29, hx30, e14⟩ := bnd e14
     obtain ⟨b31, hx32, e14⟩ := bnd e14
     refine WC.cutP (fun e w => ∃  (M : Mem), e = [(0, vp0), (2, ptr b2 0), (24, Value.bool (!b31))] ∧ St w0 M0 M [.blk b2 (.cells #[I 0, I 0, I 0, I 0, I 0, I 0, I 0] 23)] w ∧ GlF (fun w => ∃ tp p, w.var? Tryz.prog "strconv.ErrRange" = some #[.iface tp p]) M ∧ GlF (fun w => ∃ tp p, w.var? Tryz.prog "strconv.ErrSyntax" = some #[.iface tp p]) M ∧ GlF (fun w => ∃ m, w.cell? ⟨0, 0, none⟩ = some (.int .i64 m)) M ∧ Sl M encS vp0 p0) ?_ ?_
     ·
      refine WC.draw (m := 7) rfl rfl H ?_
      intro w H
      refine WA.take (i := 1) rfl (by kernel_rfl) (by kernel_rfl) (by kernel_rfl) (fun _ => Ex.move rfl) (Wn.none rfl) rfl rfl (fun _ _ => rfl) ?_
      refine WA.two (i := 0) (j := 2) (by kernel_rfl) rfl rfl ?_ ?_
      ·
       obtain ⟨M, hle, hb26, H⟩ := H.freezeVar (b := b4) (by repeat (first | exact Rem.head | apply Rem.tail))
       replace hg_errR := hg_errR.mono hle
       replace hg_errS := hg_errS.mono hle
       replace hg_maxl := hg_maxl.mono hle
       replace hp0 := hp0.mono hle
       have hs18 := hb26.sl hxl27 rfl
       refine WR.step (Ex.sliceArr Tryz.underlying55 Tryz.sizeOf9 rfl) (Wn.none rfl) rfl rfl ?_
       refine WR.nil (WQ.any ?_)
       refine WA.seq (fuel := 0) [2, 3, 4, 5, 6] rfl (by kernel_rfl) ?_
       refine WR.idxC Tryz.underlying59 Tryz.sizeOf9 (hp0) rfl rfl hxa28 (Wn.none rfl) rfl ?_
       intro p20 hc20
       refine WR.step (Ex.loadM H rfl hc20 Tryz.isAgg9) (Wn.none rfl) rfl rfl ?_
       refine WR.call H (strings_TrimSuffix_ct hx30) rfl trivial (Wn.none rfl) rfl ?_
       intro v22 M w H hle hR
       replace hg_errR := hg_errR.mono hle
       replace hg_errS := hg_errS.mono hle
       replace hg_maxl := hg_maxl.mono hle
       replace hp0 := hp0.mono hle
       replace hb26 := hb26.mono hle
       replace hs18 := hs18.mono hle
       replace hc20 := hc20.mono hle
       obtain rfl := hR
       refine WR.call H (slices_Contains_string_string_ct hx32) rfl (hs18) (Wn.none rfl) rfl ?_
       intro v23 M w H hle hR
       replace hg_errR := hg_errR.mono hle
       replace hg_errS := hg_errS.mono hle
       replace hg_maxl := hg_maxl.mono hle
       replace hp0 := hp0.mono hle
       replace hb26 := hb26.mono hle
       replace hs18 := hs18.mono hle
       replace hc20 := hc20.mono hle
       obtain rfl := hR
       refine WR.step (Ex.not rfl) (Wn.none rfl) rfl rfl ?_
       refine WR.nil (WQ.any ?_)
       refine WA.done (by kernel_rfl) ?_
       exact WQ.meetP [(0, _), (2, _), (24, _)] ⟨rfl, rfl, rfl, trivial⟩ ⟨_, rfl, H, hg_errR, hg_errS, hg_maxl, hp0⟩
      ·
       refine WR.idxC Tryz.underlying59 Tryz.sizeOf9 (hp0) rfl rfl hxa28 (Wn.none rfl) rfl ?_
       intro p20 hc20
       refine WR.nil (WQ.any ?_)
       refine WA.two (i := 0) (j := 3) (by kernel_rfl) rfl rfl ?_ ?_
       ·
        obtain ⟨M, hle, hb26, H⟩ := H.freezeVar (b := b4) (by repeat (first | exact Rem.head | apply Rem.tail))
        replace hg_errR := hg_errR.mono hle
        replace hg_errS := hg_errS.mono hle
        replace hg_maxl := hg_maxl.mono hle
        replace hp0 := hp0.mono hle
        replace hc20 := hc20.mono hle
        have hs18 := hb26.sl hxl27 rfl
        refine WR.step (Ex.sliceArr Tryz.underlying55 Tryz.sizeOf9 rfl) (Wn.none rfl) rfl rfl ?_
        refine WR.nil (WQ.any ?_)
        refine WA.seq (fuel := 0) [3, 4, 5, 6] rfl (by kernel_rfl) ?_
        refine WR.step (Ex.loadM H rfl hc20 Tryz.isAgg9) (Wn.none rfl) rfl rfl ?_
        refine WR.call H (strings_TrimSuffix_ct hx30) rfl trivial (Wn.none rfl) rfl ?_
        intro v22 M w H hle hR
        replace hg_errR := hg_errR.mono hle
        replace hg_errS := hg_errS.mono hle
        replace hg_maxl := hg_maxl.mono hle
        replace hp0 := hp0.mono hle
        replace hc20 := hc20.mono hle
        replace hb26 := hb26.mono hle
        replace hs18 := hs18.mono hle
        obtain rfl := hR
        refine WR.call H (slices_Contains_string_string_ct hx32) rfl (hs18) (Wn.none rfl) rfl ?_
        intro v23 M w H hle hR
        replace hg_errR := hg_errR.mono hle
        replace hg_errS := hg_errS.mono hle
        replace hg_maxl := hg_maxl.mono hle
        replace hp0 := hp0.mono hle
        replace hc20 := hc20.mono hle
        replace hb26 := hb26.mono hle
        replace hs18 := hs18.mono hle
        obtain rfl := hR
        refine WR.step (Ex.not rfl) (Wn.none rfl) rfl rfl ?_
        refine WR.nil (WQ.any ?_)
        refine WA.done (by kernel_rfl) ?_
        exact WQ.meetP [(0, _), (2, _), (24, _)] ⟨rfl, rfl, rfl, trivial⟩ ⟨_, rfl, H, hg_errR, hg_errS, hg_maxl, hp0⟩
       ·
        refine WR.step (Ex.loadM H rfl hc20 Tryz.isAgg9) (Wn.none rfl) rfl rfl ?_
        refine WR.nil (WQ.any ?_)
        refine WA.two (i := 0) (j := 4) (by kernel_rfl) rfl rfl ?_ ?_
        ·
         obtain ⟨M, hle, hb26, H⟩ := H.freezeVar (b := b4) (by repeat (first | exact Rem.head | apply Rem.tail))
         replace hg_errR := hg_errR.mono hle
         replace hg_errS := hg_errS.mono hle
         replace hg_maxl := hg_maxl.mono hle
         replace hp0 := hp0.mono hle
         replace hc20 := hc20.mono hle
         have hs18 := hb26.sl hxl27 rfl
         refine WR.step (Ex.sliceArr Tryz.underlying55 Tryz.sizeOf9 rfl) (Wn.none rfl) rfl rfl ?_
         refine WR.nil (WQ.any ?_)
         refine WA.seq (fuel := 0) [4, 5, 6] rfl (by kernel_rfl) ?_
         refine WR.call H (strings_TrimSuffix_ct hx30) rfl trivial (Wn.none rfl) rfl ?_
         intro v22 M w H hle hR
         replace hg_errR := hg_errR.mono hle
         replace hg_errS := hg_errS.mono hle
         replace hg_maxl := hg_maxl.mono hle
         replace hp0 := hp0.mono hle
         replace hc20 := hc20.mono hle
         replace hb26 := hb26.mono hle
         replace hs18 := hs18.mono hle
         obtain rfl := hR
         refine WR.call H (slices_Contains_string_string_ct hx32) rfl (hs18) (Wn.none rfl) rfl ?_
         intro v23 M w H hle hR
         replace hg_errR := hg_errR.mono hle
         replace hg_errS := hg_errS.mono hle
         replace hg_maxl := hg_maxl.mono hle
         replace hp0 := hp0.mono hle
         replace hc20 := hc20.mono hle
         replace hb26 := hb26.mono hle
         replace hs18 := hs18.mono hle
         obtain rfl := hR
         refine WR.step (Ex.not rfl) (Wn.none rfl) rfl rfl ?_
         refine WR.nil (WQ.any ?_)
         refine WA.done (by kernel_rfl) ?_
         exact WQ.meetP [(0, _), (2, _), (24, _)] ⟨rfl, rfl, rfl, trivial⟩ ⟨_, rfl, H, hg_errR, hg_errS, hg_maxl, hp0⟩
        ·
         refine WR.call H (strings_TrimSuffix_ct hx30) rfl trivial (Wn.none rfl) rfl ?_
         intro v22 M w H hle hR
         replace hg_errR := hg_errR.mono hle
         replace hg_errS := hg_errS.mono hle
         replace hg_maxl := hg_maxl.mono hle
         replace hp0 := hp0.mono hle
         replace hc20 := hc20.mono hle
         obtain rfl := hR
         refine WR.nil (WQ.any ?_)
         refine WA.seq (fuel := 0) [0, 5, 6] rfl (by kernel_rfl) ?_
         obtain ⟨M, hle, hb26, H⟩ := H.freezeVar (b := b4) (by repeat (first | exact Rem.head | apply Rem.tail))
         replace hg_errR := hg_errR.mono hle
         replace hg_errS := hg_errS.mono hle
         replace hg_maxl := hg_maxl.mono hle
         replace hp0 := hp0.mono hle
         replace hc20 := hc20.mono hle
         have hs18 := hb26.sl hxl27 rfl
         refine WR.step (Ex.sliceArr Tryz.underlying55 Tryz.sizeOf9 rfl) (Wn.none rfl) rfl rfl ?_
         refine WR.call H (slices_Contains_string_string_ct hx32) rfl (hs18) (Wn.none rfl) rfl ?_
         intro v23 M w H hle hR
         replace hg_errR := hg_errR.mono hle
         replace hg_errS := hg_errS.mono hle
         replace hg_maxl := hg_maxl.mono hle
         replace hp0 := hp0.mono hle
         replace hc20 := hc20.mono hle
         replace hb26 := hb26.mono hle
         replace hs18 := hs18.mono hle
         obtain rfl := hR
         refine WR.step (Ex.not rfl) (Wn.none rfl) rfl rfl ?_
         refine WR.nil (WQ.any ?_)
         refine WA.done (by kernel_rfl) ?_
         exact WQ.meetP [(0, _), (2, _), (24, _)] ⟨rfl, rfl, rfl, trivial⟩ ⟨_, rfl, H, hg_errR, hg_errS, hg_maxl, hp0⟩
     ·
      rintro e w ⟨M, rfl, H, hg_errR, hg_errS, hg_maxl, hp0⟩
      refine WQ.then ?_
      refine WC.condB rfl (fun hk33 => ?_) (fun hk33 => ?_)
      ·
       replace hk33 : b31 = false := by simpa using hk33
       subst hk33
       rw [if_neg Bool.false_ne_true] at e14
       refine WC.seq ?_
       refine WC.region ?_
       refine WR.step (Ex.build [I 0, I 0, I 0, I 0, I 0, I 0, I 0] Tryz.underlying23 Tryz.zeroValue23 (xplaces23 Tryz.underlying23) rfl (by kernel_rfl)) (Wn.none rfl) rfl rfl ?_
       refine WR.store [_, _, _, _, _, _, _] H rfl rfl rfl (by repeat (first | exact Upd.head | apply Upd.tail)) Tryz.sizeOf23 rfl (by rfl) (by rfl) (Wn.none rfl) ?_
       intro w H
       refine WR.step (Ex.assign rfl) (Wn.none rfl) rfl rfl ?_
       refine WR.nil ?_
       refine WQ.then ?_
       refine WC.ret ?_
       (repeat (first | refine WQ.thenRet ?_ | refine WQ.inBlockRet ?_ | refine WQ.cutRet ?_ | refine WQ.scRet ?_))
       obtain rfl := Option.some.inj e14
       try dsimp only at h
       obtain rfl := Option.some.inj h
       exact WQ.ret2 rfl ⟨_, rfl, H.loadAgg (by repeat (first | exact List.Mem.head _ | apply List.Mem.tail)) Tryz.isAgg23 Tryz.sizeOf23 (by rfl)⟩ rfl H.ext rfl
      ·
       replace hk33 : b31 = true := by simpa using hk33
       subst hk33
       rw [if_pos rfl] at e14
       refine WC.skip ?_
       refine WQ.then ?_
       obtain ⟨l34, hxl34, e14⟩ := bnd e14
       refine WC.region ?_
       refine WR.step (Ex.move rfl) (Wn.none rfl) rfl rfl ?_
       refine WR.sliceL Tryz.underlying59 Tryz.sizeOf9 (hp0) rfl rfl hxl34 (Wn.none rfl) rfl ?_
       intro v27 hs27
       refine WR.step (Ex.assign rfl) (Wn.none rfl) rfl rfl ?_
       refine WR.nil ?_
       exact WQ.meetN [(0, _), (2, _)] ⟨rfl, rfl, trivial⟩ ⟨_, _, _, _, _, _, _, _, _, _, rfl, H, hg_errR, hg_errS, hg_maxl, hs27, e14⟩
    ·
     subst hk25
     rw [if_neg Bool.false_ne_true] at e14
     refine WC.skip ?_
     exact WQ.meetN [(0, _), (2, _)] ⟨rfl, rfl, trivial⟩ ⟨_, _, _, _, _, _, _, _, _, _, rfl, (H.pick (L' := [.blk b2 (.cells #[I 0, I 0, I 0, I 0, I 0, I 0, I 0] 23)]) (by repeat (first | exact Pick.nil | refine Pick.cons (by repeat (first | exact Rem.head | apply Rem.tail)) ?_))), hg_errR, hg_errS, hg_maxl, hp0, e14⟩
   ·
    rintro e w ⟨l15, v16, n18, n19, n20, n21, n22, n23, n24, M, rfl, H, hg_errR, hg_errS, hg_maxl, hs17, q35⟩
    obtain rfl := Option.some.inj q35
    try dsimp only at h
    refine WQ.then ?_
    refine WC.seq ?_
    refine WC.seq ?_
    refine WC.region ?_
    refine WR.step (Ex.move rfl) (Wn.none rfl) rfl rfl ?_
    refine WR.step (Ex.lenSl Tryz.underlying59 hs17 rfl) (Wn.none rfl) rfl rfl ?_
    refine WR.step (Ex.neqC rfl rfl) (Wn.none rfl) rfl rfl ?_
    refine WR.nil ?_
    refine WQ.then ?_
    refine WC.condB rfl (fun hk36 => ?_) (fun hk36 => ?_)
    ·
     replace hk36 : ¬ ((l15.length : Int) = (5 : Int)) := of_not_decide hk36
     rw [if_neg hk36] at h
     refine WC.seq ?_
     refine WC.region ?_
     refine WR.step (Ex.build [I 0, I 0, I 0, I 0, I 0, I 0, I 0] Tryz.underlying23 Tryz.zeroValue23 (xplaces23 Tryz.underlying23) rfl (by kernel_rfl)) (Wn.none rfl) rfl rfl ?_
     refine WR.store [_, _, _, _, _, _, _] H rfl rfl rfl (by repeat (first | exact Upd.head | apply Upd.tail)) Tryz.sizeOf23 rfl (by rfl) (by rfl) (Wn.none rfl) ?_
     intro w H
     refine WR.step (Ex.assign rfl) (Wn.none rfl) rfl rfl ?_
     refine WR.nil ?_
     refine WQ.then ?_
     refine WC.ret ?_
     (repeat (first | refine WQ.thenRet ?_ | refine WQ.inBlockRet ?_ | refine WQ.cutRet ?_ | refine WQ.scRet ?_))
     obtain rfl := Option.some.inj h
     exact WQ.ret2 rfl ⟨_, rfl, H.loadAgg (by repeat (first | exact List.Mem.head _ | apply List.Mem.tail)) Tryz.isAgg23 Tryz.sizeOf23 (by rfl)⟩ rfl H.ext rfl
    ·
     replace hk36 : (l15.length : Int) = (5 : Int) := of_not_decide' hk36
     rw [if_pos hk36] at h
     refine WC.skip ?_
     refine WQ.then ?_
     refine WC.seq ?_
     refine WC.region ?_
     refine WR.alloc [_, _, _, _, _, _, _] H Tryz.zeroValue23 rfl (Wn.none rfl) rfl ?_
     intro b5 w H
     refine WR.nil ?_
     refine WQ.then ?_
     refine WC.seq ?_
     refine WC.region ?_
     refine WR.alloc (List.map encBo (List.replicate 4 false : List Bool)) H Tryz.zeroValue85 (by kernel_rfl) (Wn.none rfl) rfl ?_
     intro b6 w H
     refine WR.nil ?_
     refine WQ.then ?_
     refine WC.seq ?_
     obtain ⟨a37, hxa37, h⟩ := bnd h
     obtain ⟨a38, hxa38, h⟩ := bnd h
     obtain ⟨⟨n39, b40⟩, hx41, h⟩ := bnd h
     try dsimp only at h
     obtain ⟨a42, hxa42, h⟩ := bnd h
     obtain ⟨l43, hxl43, h⟩ := bnd h
     refine WC.cutP (fun e w => ∃  (M : Mem), e = [(0, v16), (2, ptr b2 0), (5, ptr b5 0), (6, ptr b6 0)] ∧ St w0 M0 M [.blk b2 (.cells #[I n18, I n19, I n20, I n21, I n22, I n23, I n24] 23), .blk b5 (.cells #[I 0, I 0, I n39, I 0, I 0, I 0, I 0] 23), .blk b6 (.cells (List.map encBo l43).toArray 85)] w ∧ GlF (fun w => ∃ tp p, w.var? Tryz.prog "strconv.ErrRange" = some #[.iface tp p]) M ∧ GlF (fun w => ∃ tp p, w.var? Tryz.prog "strconv.ErrSyntax" = some #[.iface tp p]) M ∧ GlF (fun w => ∃ m, w.cell? ⟨0, 0, none⟩ = some (.int .i64 m)) M ∧ Sl M encS v16 l15) ?_ ?_
     ·
      refine WC.draw (m := 17) rfl rfl H ?_
      intro w H
      refine WA.take (i := 0) rfl (by kernel_rfl) (by kernel_rfl) (by kernel_rfl) (fun _ => Ex.move rfl) (Wn.none rfl) rfl rfl (fun _ _ => rfl) ?_
      refine WA.take (i := 3) rfl (by kernel_rfl) (by kernel_rfl) (by kernel_rfl) (fun _ => Ex.move rfl) (Wn.none rfl) rfl rfl (fun _ _ => rfl) ?_
      refine WA.two (i := 1) (j := 4) (by kernel_rfl) rfl rfl ?_ ?_
      ·
       refine WR.idxC Tryz.underlying59 Tryz.sizeOf9 (hs17) rfl rfl hxa37 (Wn.none rfl) rfl ?_
       intro p34 hc34
       refine WR.nil (WQ.any ?_)
       refine WA.two (i := 2) (j := 4) (by kernel_rfl) rfl rfl ?_ ?_
       ·
        refine WR.step (Ex.loadM H rfl hc34 Tryz.isAgg9) (Wn.none rfl) rfl rfl ?_
        refine WR.nil (WQ.any ?_)
        refine WA.seq (fuel := 6) [4, 5, 6, 7, 8, 9, 10] rfl (by kernel_rfl) ?_
        refine WR.idxC Tryz.underlying59 Tryz.sizeOf9 (hs17) rfl rfl hxa38 (Wn.none rfl) rfl ?_
        intro p37 hc37
        refine WR.step (Ex.loadM H rfl hc37 Tryz.isAgg9) (Wn.none rfl) rfl rfl ?_
        refine WR.step (Ex.lenStr Tryz.underlying9 rfl) (Wn.none rfl) rfl rfl ?_
        refine WR.step (Ex.max2 rfl rfl) (Wn.none rfl) rfl rfl ?_
        refine WR.step (Ex.min2 rfl rfl) (Wn.none rfl) rfl rfl ?_
        refine WR.call H (dates_number_ct hx41) rfl ⟨hg_errR, hg_errS⟩ (Wn.none rfl) rfl ?_
        intro v42 M w H hle hR
        replace hg_errR := hg_errR.mono hle
        replace hg_errS := hg_errS.mono hle
        replace hg_maxl := hg_maxl.mono hle
        replace hs17 := hs17.mono hle
        replace hc34 := hc34.mono hle
        replace hc37 := hc37.mono hle
        try dsimp only at hR
        obtain rfl := hR
        refine WR.step (Ex.move rfl) (Wn.none rfl) rfl rfl ?_
        refine WR.nil (WQ.any ?_)
        refine WA.take (i := 11) rfl (by kernel_rfl) (by kernel_rfl) (by kernel_rfl) (fun _ => Ex.extract rfl rfl) (Wn.none rfl) rfl rfl (fun _ _ => rfl) ?_
        refine WA.take (i := 12) rfl (by kernel_rfl) (by kernel_rfl) (by kernel_rfl) (fun _ => Ex.extract rfl rfl) (Wn.none rfl) rfl rfl (fun _ _ => rfl) ?_
        refine WA.seq (fuel := 0) [13, 14, 15, 16] rfl (by kernel_rfl) ?_
        refine WR.step (Ex.fieldAddr Tryz.underlying23 rfl Tryz.sizeOf3 (by decide) rfl) (Wn.none rfl) rfl rfl ?_
        refine WR.store1 [_, _, _, _, _, _, _] H rfl rfl (by repeat (first | exact Upd.head | apply Upd.tail)) (by rfl) Tryz.sizeOf3 (by first | decide | (simp; done) | (simp; omega)) (by rfl) (by rfl) (Wn.none rfl) ?_
        intro w H
        refine WR.step (Ex.idxArrC (l := (List.replicate 4 false : List Bool)) Tryz.underlying85 Tryz.sizeOf4 rfl rfl hxa42) (Wn.none rfl) rfl rfl ?_
        refine WR.storeArr (a := b40) H rfl rfl ⟨rfl, rfl⟩ (fun _ => by repeat (first | exact Upd.head | apply Upd.tail)) hxl43 Tryz.sizeOf4 (Wn.none rfl) ?_
        intro w H
        refine WR.nil (WQ.any ?_)
        refine WA.done (by kernel_rfl) ?_
        exact WQ.meetP [(0, _), (2, _), (5, _), (6, _)] ⟨rfl, rfl, rfl, rfl, trivial⟩ ⟨_, rfl, (H.pick (L' := [.blk b2 (.cells #[I n18, I n19, I n20, I n21, I n22, I n23, I n24] 23), .blk b5 (.cells #[I 0, I 0, I n39, I 0, I 0, I 0, I 0] 23), .blk b6 (.cells (List.map encBo l43).toArray 85)]) (by repeat (first | exact Pick.nil | refine Pick.cons (by repeat (first | exact Rem.head | apply Rem.tail)) ?_))), hg_errR, hg_errS, hg_maxl, hs17⟩
       ·
        refine WR.idxC Tryz.underlying59 Tryz.sizeOf9 (hs17) rfl rfl hxa38 (Wn.none rfl) rfl ?_
        intro p37 hc37
        refine WR.nil (WQ.any ?_)
        refine WA.takeM (i := 5) [2] rfl (by kernel_rfl) (by kernel_rfl) (by kernel_rfl) (Ex.loadM H rfl hc37 Tryz.isAgg9) (Wn.none rfl) rfl rfl (fun _ _ => rfl) ?_
        refine WA.take (i := 6) rfl (by kernel_rfl) (by kernel_rfl) (by kernel_rfl) (fun _ => Ex.lenStr Tryz.underlying9 rfl) (Wn.none rfl) rfl rfl (fun _ _ => rfl) ?_
        refine WA.take (i := 7) rfl (by kernel_rfl) (by kernel_rfl) (by kernel_rfl) (fun _ => Ex.max2 rfl rfl) (Wn.none rfl) rfl rfl (fun _ _ => rfl) ?_
        refine WA.take (i := 8) rfl (by kernel_rfl) (by kernel_rfl) (by kernel_rfl) (fun _ => Ex.min2 rfl rfl) (Wn.none rfl) rfl rfl (fun _ _ => rfl) ?_
        refine WA.seq (fuel := 6) [2, 9, 10] rfl (by kernel_rfl) ?_
        refine WR.step (Ex.loadM H rfl hc34 Tryz.isAgg9) (Wn.none rfl) rfl rfl ?_
        refine WR.call H (dates_number_ct hx41) rfl ⟨hg_errR, hg_errS⟩ (Wn.none rfl) rfl ?_
        intro v42 M w H hle hR
        replace hg_errR := hg_errR.mono hle
        replace hg_errS := hg_errS.mono hle
        replace hg_maxl := hg_maxl.mono hle
        replace hs17 := hs17.mono hle
        replace hc34 := hc34.mono hle
        replace hc37 := hc37.mono hle
        try dsimp only at hR
        obtain rfl := hR
        refine WR.step (Ex.move rfl) (Wn.none rfl) rfl rfl ?_
        refine WR.nil (WQ.any ?_)
        refine WA.take (i := 11) rfl (by kernel_rfl) (by kernel_rfl) (by kernel_rfl) (fun _ => Ex.extract rfl rfl) (Wn.none rfl) rfl rfl (fun _ _ => rfl) ?_
        refine WA.take (i := 12) rfl (by kernel_rfl) (by kernel_rfl) (by kernel_rfl) (fun _ => Ex.extract rfl rfl) (Wn.none rfl) rfl rfl (fun _ _ => rfl) ?_
        refine WA.seq (fuel := 0) [13, 14, 15, 16] rfl (by kernel_rfl) ?_
        refine WR.step (Ex.fieldAddr Tryz.underlying23 rfl Tryz.sizeOf3 (by decide) rfl) (Wn.none rfl) rfl rfl ?_
        refine WR.store1 [_, _, _, _, _, _, _] H rfl rfl (by repeat (first | exact Upd.head | apply Upd.tail)) (by rfl) Tryz.sizeOf3 (by first | decide | (simp; done) | (simp; omega)) (by rfl) (by rfl) (Wn.none rfl) ?_
        intro w H
        refine WR.step (Ex.idxArrC (l := (List.replicate 4 false : List Bool)) Tryz.underlying85 Tryz.sizeOf4 rfl rfl hxa42) (Wn.none rfl) rfl rfl ?_
        refine WR.storeArr (a := b40) H rfl rfl ⟨rfl, rfl⟩ (fun _ => by repeat (first | exact Upd.head | apply Upd.tail)) hxl43 Tryz.sizeOf4 (Wn.none rfl) ?_
        intro w H
        refine WR.nil (WQ.any ?_)
        refine WA.done (by kernel_rfl) ?_
        exact WQ.meetP [(0, _), (2, _), (5, _), (6, _)] ⟨rfl, rfl, rfl, rfl, trivial⟩ ⟨_, rfl, (H.pick (L' := [.blk b2 (.cells #[I n18, I n19, I n20, I n21, I n22, I n23, I n24] 23), .blk b5 (.cells #[I 0, I 0, I n39, I 0, I 0, I 0, I 0] 23), .blk b6 (.cells (List.map encBo l43).toArray 85)]) (by repeat (first | exact Pick.nil | refine Pick.cons (by repeat (first | exact Rem.head | apply Rem.tail)) ?_))), hg_errR, hg_errS, hg_maxl, hs17⟩
      ·
       refine WR.idxC Tryz.underlying59 Tryz.sizeOf9 (hs17) rfl rfl hxa38 (Wn.none rfl) rfl ?_
       intro p37 hc37
       refine WR.nil (WQ.any ?_)
       refine WA.two (i := 1) (j := 5) (by kernel_rfl) rfl rfl ?_ ?_
       ·
        refine WR.idxC Tryz.underlying59 Tryz.sizeOf9 (hs17) rfl rfl hxa37 (Wn.none rfl) rfl ?_
        intro p34 hc34
        refine WR.nil (WQ.any ?_)
        refine WA.takeM (i := 5) [2] rfl (by kernel_rfl) (by kernel_rfl) (by kernel_rfl) (Ex.loadM H rfl hc37 Tryz.isAgg9) (Wn.none rfl) rfl rfl (fun _ _ => rfl) ?_
        refine WA.take (i := 6) rfl (by kernel_rfl) (by kernel_rfl) (by kernel_rfl) (fun _ => Ex.lenStr Tryz.underlying9 rfl) (Wn.none rfl) rfl rfl (fun _ _ => rfl) ?_
        refine WA.take (i := 7) rfl (by kernel_rfl) (by kernel_rfl) (by kernel_rfl) (fun _ => Ex.max2 rfl rfl) (Wn.none rfl) rfl rfl (fun _ _ => rfl) ?_
        refine WA.take (i := 8) rfl (by kernel_rfl) (by kernel_rfl) (by kernel_rfl) (fun _ => Ex.min2 rfl rfl) (Wn.none rfl) rfl rfl (fun _ _ => rfl) ?_
        refine WA.seq (fuel := 6) [2, 9, 10] rfl (by kernel_rfl) ?_
        refine WR.step (Ex.loadM H rfl hc34 Tryz.isAgg9) (Wn.none rfl) rfl rfl ?_
        refine WR.call H (dates_number_ct hx41) rfl ⟨hg_errR, hg_errS⟩ (Wn.none rfl) rfl ?_
        intro v42 M w H hle hR
        replace hg_errR := hg_errR.mono hle
        replace hg_errS := hg_errS.mono hle
        replace hg_maxl := hg_maxl.mono hle
        replace hs17 := hs17.mono hle
        replace hc37 := hc37.mono hle
        replace hc34 := hc34.mono hle
        try dsimp only at hR
        obtain rfl := hR
        refine WR.step (Ex.move rfl) (Wn.none rfl) rfl rfl ?_
        refine WR.nil (WQ.any ?_)
        refine WA.take (i := 11) rfl (by kernel_rfl) (by kernel_rfl) (by kernel_rfl) (fun _ => Ex.extract rfl rfl) (Wn.none rfl) rfl rfl (fun _ _ => rfl) ?_
        refine WA.take (i := 12) rfl (by kernel_rfl) (by kernel_rfl) (by kernel_rfl) (fun _ => Ex.extract rfl rfl) (Wn.none rfl) rfl rfl (fun _ _ => rfl) ?_
        refine WA.seq (fuel := 0) [13, 14, 15, 16] rfl (by kernel_rfl) ?_
        refine WR.step (Ex.fieldAddr Tryz.underlying23 rfl Tryz.sizeOf3 (by decide) rfl) (Wn.none rfl) rfl rfl ?_
        refine WR.store1 [_, _, _, _, _, _, _] H rfl rfl (by repeat (first | exact Upd.head | apply Upd.tail)) (by rfl) Tryz.sizeOf3 (by first | decide | (simp; done) | (simp; omega)) (by rfl) (by rfl) (Wn.none rfl) ?_
        intro w H
        refine WR.step (Ex.idxArrC (l := (List.replicate 4 false : List Bool)) Tryz.underlying85 Tryz.sizeOf4 rfl rfl hxa42) (Wn.none rfl) rfl rfl ?_
        refine WR.storeArr (a := b40) H rfl rfl ⟨rfl, rfl⟩ (fun _ => by repeat (first | exact Upd.head | apply Upd.tail)) hxl43 Tryz.sizeOf4 (Wn.none rfl) ?_
        intro w H
        refine WR.nil (WQ.any ?_)
        refine WA.done (by kernel_rfl) ?_
        exact WQ.meetP [(0, _), (2, _), (5, _), (6, _)] ⟨rfl, rfl, rfl, rfl, trivial⟩ ⟨_, rfl, (H.pick (L' := [.blk b2 (.cells #[I n18, I n19, I n20, I n21, I n22, I n23, I n24] 23), .blk b5 (.cells #[I 0, I 0, I n39, I 0, I 0, I 0, I 0] 23), .blk b6 (.cells (List.map encBo l43).toArray 85)]) (by repeat (first | exact Pick.nil | refine Pick.cons (by repeat (first | exact Rem.head | apply Rem.tail)) ?_))), hg_errR, hg_errS, hg_maxl, hs17⟩
       ·
        refine WR.step (Ex.loadM H rfl hc37 Tryz.isAgg9) (Wn.none rfl) rfl rfl ?_
        refine WR.nil (WQ.any ?_)
        refine WA.take (i := 6) rfl (by kernel_rfl) (by kernel_rfl) (by kernel_rfl) (fun _ => Ex.lenStr Tryz.underlying9 rfl) (Wn.none rfl) rfl rfl (fun _ _ => rfl) ?_
        refine WA.take (i := 7) rfl (by kernel_rfl) (by kernel_rfl) (by kernel_rfl) (fun _ => Ex.max2 rfl rfl) (Wn.none rfl) rfl rfl (fun _ _ => rfl) ?_
        refine WA.take (i := 8) rfl (by kernel_rfl) (by kernel_rfl) (by kernel_rfl) (fun _ => Ex.min2 rfl rfl) (Wn.none rfl) rfl rfl (fun _ _ => rfl) ?_
        refine WA.seq (fuel := 6) [1, 2, 9, 10] rfl (by kernel_rfl) ?_
        refine WR.idxC Tryz.underlying59 Tryz.sizeOf9 (hs17) rfl rfl hxa37 (Wn.none rfl) rfl ?_
        intro p34 hc34
        refine WR.step (Ex.loadM H rfl hc34 Tryz.isAgg9) (Wn.none rfl) rfl rfl ?_
        refine WR.call H (dates_number_ct hx41) rfl ⟨hg_errR, hg_errS⟩ (Wn.none rfl) rfl ?_
        intro v42 M w H hle hR
        replace hg_errR := hg_errR.mono hle
        replace hg_errS := hg_errS.mono hle
        replace hg_maxl := hg_maxl.mono hle
        replace hs17 := hs17.mono hle
        replace hc37 := hc37.mono hle
        replace hc34 := hc34.mono hle
        try dsimp only at hR
        obtain rfl := hR
        refine WR.step (Ex.move rfl) (Wn.none rfl) rfl rfl ?_
        refine WR.nil (WQ.any ?_)
        refine WA.take (i := 11) rfl (by kernel_rfl) (by kernel_rfl) (by kernel_rfl) (fun _ => Ex.extract rfl rfl) (Wn.none rfl) rfl rfl (fun _ _ => rfl) ?_
        refine WA.take (i := 12) rfl (by kernel_rfl) (by kernel_rfl) (by kernel_rfl) (fun _ => Ex.extract rfl rfl) (Wn.none rfl) rfl rfl (fun _ _ => rfl) ?_
        refine WA.seq (fuel := 0) [13, 14, 15, 16] rfl (by kernel_rfl) ?_
        refine WR.step (Ex.fieldAddr Tryz.underlying23 rfl Tryz.sizeOf3 (by decide) rfl) (Wn.none rfl) rfl rfl ?_
        refine WR.store1 [_, _, _, _, _, _, _] H rfl rfl (by repeat (first | exact Upd.head | apply Upd.tail)) (by rfl) Tryz.sizeOf3 (by first | decide | (simp; done) | (simp; omega)) (by rfl) (by rfl) (Wn.none rfl) ?_
        intro w H
        refine WR.step (Ex.idxArrC (l := (List.replicate 4 false : List Bool)) Tryz.underlying85 Tryz.sizeOf4 rfl rfl hxa42) (Wn.none rfl) rfl rfl ?_
        refine WR.storeArr (a := b40) H rfl rfl ⟨rfl, rfl⟩ (fun _ => by repeat (first | exact Upd.head | apply Upd.tail)) hxl43 Tryz.sizeOf4 (Wn.none rfl) ?_
        intro w H
        refine WR.nil (WQ.any ?_)
        refine WA.done (by kernel_rfl) ?_
        exact WQ.meetP [(0, _), (2, _), (5, _), (6, _)] ⟨rfl, rfl, rfl, rfl, trivial⟩ ⟨_, rfl, (H.pick (L' := [.blk b2 (.cells #[I n18, I n19, I n20, I n21, I n22, I n23, I n24] 23), .blk b5 (.cells #[I 0, I 0, I n39, I 0, I 0, I 0, I 0] 23), .blk b6 (.cells (List.map encBo l43).toArray 85)]) (by repeat (first | exact Pick.nil | refine Pick.cons (by repeat (first | exact Rem.head | apply Rem.tail)) ?_))), hg_errR, hg_errS, hg_maxl, hs17⟩
     ·
      rintro e w ⟨M, rfl, H, hg_errR, hg_errS, hg_maxl, hs17⟩
      refine WQ.then ?_
      refine WC.seq ?_
      obtain ⟨n44, hx45, h⟩ := bnd h
      obtain ⟨l46, hxl46, h⟩ := bnd h
      obtain ⟨l47, hxl47, h⟩ := bnd h
      refine WC.region ?_
      refine WR.call H (dates_months_ct hx45) rfl trivial (Wn.none rfl) rfl ?_
      intro v47 M w H hle hR
      replace hg_errR := hg_errR.mono hle
      replace hg_errS := hg_errS.mono hle
      replace hg_maxl := hg_maxl.mono hle
      replace hs17 := hs17.mono hle
      obtain rfl := hR
      refine WR.alloc (List.map encS (List.replicate 12 [] : List (List UInt8))) H Tryz.zeroValue57 (by kernel_rfl) (Wn.none rfl) rfl ?_
      intro b7 w H
      refine WR.storeA (l2 := n44) H rfl rfl (fun _ => rfl) (fun _ => by repeat (first | exact Upd.head | apply Upd.tail)) hxl46 hxl47 Tryz.sizeOf57 (Wn.none rfl) ?_
      intro w H
      refine WR.nil ?_
      refine WQ.then ?_
      refine WC.seq ?_
      obtain ⟨l49, hxl49, h⟩ := bnd h
      obtain ⟨a50, hxa50, h⟩ := bnd h
      obtain ⟨n51, hx52, h⟩ := bnd h
      obtain ⟨n53, hxn53, h⟩ := bnd h
      refine WC.cutP (fun e w => ∃  (M : Mem), e = [(0, v16), (2, ptr b2 0), (5, ptr b5 0), (6, ptr b6 0)] ∧ St w0 M0 M [.blk b2 (.cells #[I n18, I n19, I n20, I n21, I n22, I n23, I n24] 23), .blk b5 (.cells #[I 0, I n53, I n39, I 0, I 0, I 0, I 0] 23), .blk b6 (.cells (List.map encBo l43).toArray 85)] w ∧ GlF (fun w => ∃ tp p, w.var? Tryz.prog "strconv.ErrRange" = some #[.iface tp p]) M ∧ GlF (fun w => ∃ tp p, w.var? Tryz.prog "strconv.ErrSyntax" = some #[.iface tp p]) M ∧ GlF (fun w => ∃ m, w.cell? ⟨0, 0, none⟩ = some (.int .i64 m)) M ∧ Sl M encS v16 l15) ?_ ?_
      ·
       refine WC.draw (m := 8) rfl rfl H ?_
       intro w H
       refine WA.take (i := 1) rfl (by kernel_rfl) (by kernel_rfl) (by kernel_rfl) (fun _ => Ex.move rfl) (Wn.none rfl) rfl rfl (fun _ _ => rfl) ?_
       refine WA.two (i := 0) (j := 2) (by kernel_rfl) rfl rfl ?_ ?_
       ·
        obtain ⟨M, hle, hb48, H⟩ := H.freezeVar (b := b7) (by repeat (first | exact Rem.head | apply Rem.tail))
        replace hg_errR := hg_errR.mono hle
        replace hg_errS := hg_errS.mono hle
        replace hg_maxl := hg_maxl.mono hle
        replace hs17 := hs17.mono hle
        have hs48 := hb48.sl hxl49 rfl
        refine WR.step (Ex.sliceArr Tryz.underlying57 Tryz.sizeOf9 rfl) (Wn.none rfl) rfl rfl ?_
        refine WR.nil (WQ.any ?_)
        refine WA.seq (fuel := 0) [2, 3, 4, 5, 6, 7] rfl (by kernel_rfl) ?_
        refine WR.idxC Tryz.underlying59 Tryz.sizeOf9 (hs17) rfl rfl hxa50 (Wn.none rfl) rfl ?_
        intro p50 hc50
        refine WR.step (Ex.loadM H rfl hc50 Tryz.isAgg9) (Wn.none rfl) rfl rfl ?_
        refine WR.call H (slices_Index_string_string_ct hx52) rfl (hs48) (Wn.none rfl) rfl ?_
        intro v52 M w H hle hR
        replace hg_errR := hg_errR.mono hle
        replace hg_errS := hg_errS.mono hle
        replace hg_maxl := hg_maxl.mono hle
        replace hs17 := hs17.mono hle
        replace hb48 := hb48.mono hle
        replace hs48 := hs48.mono hle
        replace hc50 := hc50.mono hle
        obtain rfl := hR
        refine WR.step (Ex.addC rfl rfl hxn53) (Wn.none rfl) rfl rfl ?_
        refine WR.step (Ex.fieldAddr Tryz.underlying23 rfl Tryz.sizeOf3 (by decide) rfl) (Wn.none rfl) rfl rfl ?_
        refine WR.store1 [_, _, _, _, _, _, _] H rfl rfl (by repeat (first | exact Upd.head | apply Upd.tail)) (by rfl) Tryz.sizeOf3 (by first | decide | (simp; done) | (simp; omega)) (by rfl) (by rfl) (Wn.none rfl) ?_
        intro w H
        refine WR.nil (WQ.any ?_)
        refine WA.done (by kernel_rfl) ?_
        exact WQ.meetP [(0, _), (2, _), (5, _), (6, _)] ⟨rfl, rfl, rfl, rfl, trivial⟩ ⟨_, rfl, H, hg_errR, hg_errS, hg_maxl, hs17⟩
       ·
        refine WR.idxC Tryz.underlying59 Tryz.sizeOf9 (hs17) rfl rfl hxa50 (Wn.none rfl) rfl ?_
        intro p50 hc50
        refine WR.nil (WQ.any ?_)
        refine WA.two (i := 0) (j := 3) (by kernel_rfl) rfl rfl ?_ ?_
        ·
         obtain ⟨M, hle, hb48, H⟩ := H.freezeVar (b := b7) (by repeat (first | exact Rem.head | apply Rem.tail))
         replace hg_errR := hg_errR.mono hle
         replace hg_errS := hg_errS.mono hle
         replace hg_maxl := hg_maxl.mono hle
         replace hs17 := hs17.mono hle
         replace hc50 := hc50.mono hle
         have hs48 := hb48.sl hxl49 rfl
         refine WR.step (Ex.sliceArr Tryz.underlying57 Tryz.sizeOf9 rfl) (Wn.none rfl) rfl rfl ?_
         refine WR.nil (WQ.any ?_)
         refine WA.seq (fuel := 0) [3, 4, 5, 6, 7] rfl (by kernel_rfl) ?_
         refine WR.step (Ex.loadM H rfl hc50 Tryz.isAgg9) (Wn.none rfl) rfl rfl ?_
         refine WR.call H (slices_Index_string_string_ct hx52) rfl (hs48) (Wn.none rfl) rfl ?_
         intro v52 M w H hle hR
         replace hg_errR := hg_errR.mono hle
         replace hg_errS := hg_errS.mono hle
         replace hg_maxl := hg_maxl.mono hle
         replace hs17 := hs17.mono hle
         replace hc50 := hc50.mono hle
         replace hb48 := hb48.mono hle
         replace hs48 := hs48.mono hle
         obtain rfl := hR
         refine WR.step (Ex.addC rfl rfl hxn53) (Wn.none rfl) rfl rfl ?_
         refine WR.step (Ex.fieldAddr Tryz.underlying23 rfl Tryz.sizeOf3 (by decide) rfl) (Wn.none rfl) rfl rfl ?_
         refine WR.store1 [_, _, _, _, _, _, _] H rfl rfl (by repeat (first | exact Upd.head | apply Upd.tail)) (by rfl) Tryz.sizeOf3 (by first | decide | (simp; done) | (simp; omega)) (by rfl) (by rfl) (Wn.none rfl) ?_
         intro w H
         refine WR.nil (WQ.any ?_)
         refine WA.done (by kernel_rfl) ?_
         exact WQ.meetP [(0, _), (2, _), (5, _), (6, _)] ⟨rfl, rfl, rfl, rfl, trivial⟩ ⟨_, rfl, H, hg_errR, hg_errS, hg_maxl, hs17⟩
        ·
         refine WR.step (Ex.loadM H rfl hc50 Tryz.isAgg9) (Wn.none rfl) rfl rfl ?_
         refine WR.nil (WQ.any ?_)
         refine WA.seq (fuel := 0) [0, 4, 5, 6, 7] rfl (by kernel_rfl) ?_
         obtain ⟨M, hle, hb48, H⟩ := H.freezeVar (b := b7) (by repeat (first | exact Rem.head | apply Rem.tail))
         replace hg_errR := hg_errR.mono hle
         replace hg_errS := hg_errS.mono hle
         replace hg_maxl := hg_maxl.mono hle
         replace hs17 := hs17.mono hle
         replace hc50 := hc50.mono hle
         have hs48 := hb48.sl hxl49 rfl
         refine WR.step (Ex.sliceArr Tryz.underlying57 Tryz.sizeOf9 rfl) (Wn.none rfl) rfl rfl ?_
         refine WR.call H (slices_Index_string_string_ct hx52) rfl (hs48) (Wn.none rfl) rfl ?_
         intro v52 M w H hle hR
         replace hg_errR := hg_errR.mono hle
         replace hg_errS := hg_errS.mono hle
         replace hg_maxl := hg_maxl.mono hle
         replace hs17 := hs17.mono hle
         replace hc50 := hc50.mono hle
         replace hb48 := hb48.mono hle
         replace hs48 := hs48.mono hle
         obtain rfl := hR
         refine WR.step (Ex.addC rfl rfl hxn53) (Wn.none rfl) rfl rfl ?_
         refine WR.step (Ex.fieldAddr Tryz.underlying23 rfl Tryz.sizeOf3 (by decide) rfl) (Wn.none rfl) rfl rfl ?_
         refine WR.store1 [_, _, _, _, _, _, _] H rfl rfl (by repeat (first | exact Upd.head | apply Upd.tail)) (by rfl) Tryz.sizeOf3 (by first | decide | (simp; done) | (simp; omega)) (by rfl) (by rfl) (Wn.none rfl) ?_
         intro w H
         refine WR.nil (WQ.any ?_)
         refine WA.done (by kernel_rfl) ?_
         exact WQ.meetP [(0, _), (2, _), (5, _), (6, _)] ⟨rfl, rfl, rfl, rfl, trivial⟩ ⟨_, rfl, H, hg_errR, hg_errS, hg_maxl, hs17⟩
      ·
       rintro e w ⟨M, rfl, H, hg_errR, hg_errS, hg_maxl, hs17⟩
       refine WQ.then ?_
       refine WC.seq ?_
       obtain ⟨a54, hxa54, h⟩ := bnd h
       obtain ⟨⟨n55, b56⟩, hx57, h⟩ := bnd h
       try dsimp only at h
       obtain ⟨a58, hxa58, h⟩ := bnd h
       obtain ⟨l59, hxl59, h⟩ := bnd h
       refine WC.region ?_
       refine WR.step (Ex.move rfl) (Wn.none rfl) rfl rfl ?_
       refine WR.idxC Tryz.underlying59 Tryz.sizeOf9 (hs17) rfl rfl hxa54 (Wn.none rfl) rfl ?_
       intro p57 hc57
       refine WR.step (Ex.loadM H rfl hc57 Tryz.isAgg9) (Wn.none rfl) rfl rfl ?_
       refine WR.call H (dates_number_ct hx57) rfl ⟨hg_errR, hg_errS⟩ (Wn.none rfl) rfl ?_
       intro v59 M w H hle hR
       replace hg_errR := hg_errR.mono hle
       replace hg_errS := hg_errS.mono hle
       replace hg_maxl := hg_maxl.mono hle
       replace hs17 := hs17.mono hle
       replace hc57 := hc57.mono hle
       try dsimp only at hR
       obtain rfl := hR
       refine WR.step (Ex.move rfl) (Wn.none rfl) rfl rfl ?_
       refine WR.step (Ex.extract rfl rfl) (Wn.none rfl) rfl rfl ?_
       refine WR.step (Ex.extract rfl rfl) (Wn.none rfl) rfl rfl ?_
       refine WR.step (Ex.fieldAddr Tryz.underlying23 rfl Tryz.sizeOf3 (by decide) rfl) (Wn.none rfl) rfl rfl ?_
       refine WR.store1 [_, _, _, _, _, _, _] H rfl rfl (by repeat (first | exact Upd.head | apply Upd.tail)) (by rfl) Tryz.sizeOf3 (by first | decide | (simp; done) | (simp; omega)) (by rfl) (by rfl) (Wn.none rfl) ?_
       intro w H
       refine WR.step (Ex.idxArrC (l := l43) Tryz.underlying85 Tryz.sizeOf4 rfl rfl hxa58) (Wn.none rfl) rfl rfl ?_
       refine WR.storeArr (a := b56) H rfl rfl ⟨rfl, rfl⟩ (fun _ => by repeat (first | exact Upd.head | apply Upd.tail)) hxl59 Tryz.sizeOf4 (Wn.none rfl) ?_
       intro w H
       refine WR.nil ?_
       refine WQ.then ?_
       refine WC.seq ?_
       obtain ⟨a60, hxa60, h⟩ := bnd h
       obtain ⟨⟨n61, n62, n63, b64⟩, hx65, h⟩ := bnd h
       try dsimp only at h
       obtain ⟨a66, hxa66, h⟩ := bnd h
       obtain ⟨l67, hxl67, h⟩ := bnd h
       refine WC.region ?_
       refine WR.step (Ex.move rfl) (Wn.none rfl) rfl rfl ?_
       refine WR.idxC Tryz.underlying59 Tryz.sizeOf9 (hs17) rfl rfl hxa60 (Wn.none rfl) rfl ?_
       intro p66 hc66
       refine WR.step (Ex.loadM H rfl hc66 Tryz.isAgg9) (Wn.none rfl) rfl rfl ?_
       refine WR.call H (dates_clock_ct hx65) rfl ⟨hg_errR, hg_errS, hg_maxl⟩ (Wn.none rfl) rfl ?_
       intro v68 M w H hle hR
       replace hg_errR := hg_errR.mono hle
       replace hg_errS := hg_errS.mono hle
       replace hg_maxl := hg_maxl.mono hle
       replace hs17 := hs17.mono hle
       replace hc57 := hc57.mono hle
       replace hc66 := hc66.mono hle
       try dsimp only at hR
       obtain rfl := hR
       refine WR.step (Ex.move rfl) (Wn.none rfl) rfl rfl ?_
       refine WR.step (Ex.extract rfl rfl) (Wn.none rfl) rfl rfl ?_
       refine WR.step (Ex.extract rfl rfl) (Wn.none rfl) rfl rfl ?_
       refine WR.step (Ex.extract rfl rfl) (Wn.none rfl) rfl rfl ?_
       refine WR.step (Ex.extract rfl rfl) (Wn.none rfl) rfl rfl ?_
       refine WR.step (Ex.fieldAddr Tryz.underlying23 rfl Tryz.sizeOf3 (by decide) rfl) (Wn.none rfl) rfl rfl ?_
       refine WR.store1 [_, _, _, _, _, _, _] H rfl rfl (by repeat (first | exact Upd.head | apply Upd.tail)) (by rfl) Tryz.sizeOf3 (by first | decide | (simp; done) | (simp; omega)) (by rfl) (by rfl) (Wn.none rfl) ?_
       intro w H
       refine WR.step (Ex.fieldAddr Tryz.underlying23 rfl Tryz.sizeOf3 (by decide) rfl) (Wn.none rfl) rfl rfl ?_
       refine WR.store1 [_, _, _, _, _, _, _] H rfl rfl (by repeat (first | exact Upd.head | apply Upd.tail)) (by rfl) Tryz.sizeOf3 (by first | decide | (simp; done) | (simp; omega)) (by rfl) (by rfl) (Wn.none rfl) ?_
       intro w H
       refine WR.step (Ex.fieldAddr Tryz.underlying23 rfl Tryz.sizeOf3 (by decide) rfl) (Wn.none rfl) rfl rfl ?_
       refine WR.store1 [_, _, _, _, _, _, _] H rfl rfl (by repeat (first | exact Upd.head | apply Upd.tail)) (by rfl) Tryz.sizeOf3 (by first | decide | (simp; done) | (simp; omega)) (by rfl) (by rfl) (Wn.none rfl) ?_
       intro w H
       refine WR.step (Ex.idxArrC (l := l59) Tryz.underlying85 Tryz.sizeOf4 rfl rfl hxa66) (Wn.none rfl) rfl rfl ?_
       refine WR.storeArr (a := b64) H rfl rfl ⟨rfl, rfl⟩ (fun _ => by repeat (first | exact Upd.head | apply Upd.tail)) hxl67 Tryz.sizeOf4 (Wn.none rfl) ?_
       intro w H
       refine WR.nil ?_
       refine WQ.then ?_
       refine WC.seq ?_
       obtain ⟨a68, hxa68, h⟩ := bnd h
       obtain ⟨⟨n69, b70⟩, hx71, h⟩ := bnd h
       try dsimp only at h
       obtain ⟨a72, hxa72, h⟩ := bnd h
       obtain ⟨l73, hxl73, h⟩ := bnd h
       refine WC.region ?_
       refine WR.step (Ex.move rfl) (Wn.none rfl) rfl rfl ?_
       refine WR.idxC Tryz.underlying59 Tryz.sizeOf9 (hs17) rfl rfl hxa68 (Wn.none rfl) rfl ?_
       intro p79 hc79
       refine WR.step (Ex.loadM H rfl hc79 Tryz.isAgg9) (Wn.none rfl) rfl rfl ?_
       refine WR.call H (dates_zone_ct hx71) rfl ⟨hg_errR, hg_errS⟩ (Wn.none rfl) rfl ?_
       intro v81 M w H hle hR
       replace hg_errR := hg_errR.mono hle
       replace hg_errS := hg_errS.mono hle
       replace hg_maxl := hg_maxl.mono hle
       replace hs17 := hs17.mono hle
       replace hc57 := hc57.mono hle
       replace hc66 := hc66.mono hle
       replace hc79 := hc79.mono hle
       try dsimp only at hR
       obtain rfl := hR
       refine WR.step (Ex.move rfl) (Wn.none rfl) rfl rfl ?_
       refine WR.step (Ex.extract rfl rfl) (Wn.none rfl) rfl rfl ?_
       refine WR.step (Ex.extract rfl rfl) (Wn.none rfl) rfl rfl ?_
       refine WR.step (Ex.fieldAddr Tryz.underlying23 rfl Tryz.sizeOf3 (by decide) rfl) (Wn.none rfl) rfl rfl ?_
       refine WR.store1 [_, _, _, _, _, _, _] H rfl rfl (by repeat (first | exact Upd.head | apply Upd.tail)) (by rfl) Tryz.sizeOf3 (by first | decide | (simp; done) | (simp; omega)) (by rfl) (by rfl) (Wn.none rfl) ?_
       intro w H
       refine WR.step (Ex.idxArrC (l := l67) Tryz.underlying85 Tryz.sizeOf4 rfl rfl hxa72) (Wn.none rfl) rfl rfl ?_
       refine WR.storeArr (a := b70) H rfl rfl ⟨rfl, rfl⟩ (fun _ => by repeat (first | exact Upd.head | apply Upd.tail)) hxl73 Tryz.sizeOf4 (Wn.none rfl) ?_
       intro w H
       refine WR.nil ?_
       refine WQ.then ?_
       refine WC.seq ?_
       obtain ⟨o74, e75, h⟩ := bnd h
       refine WC.cutX (fun e w => ∃ (n76 : Int) (n77 : Int) (n78 : Int) (n79 : Int) (n80 : Int) (n81 : Int) (n82 : Int) (b83 : Bool) (M : Mem), e = [(2, ptr b2 0), (3, Value.bool b83)] ∧ St w0 M0 M [.blk b2 (.cells #[I n76, I n77, I n78, I n79, I n80, I n81, I n82] 23)] w ∧ GlF (fun w => ∃ tp p, w.var? Tryz.prog "strconv.ErrRange" = some #[.iface tp p]) M ∧ GlF (fun w => ∃ tp p, w.var? Tryz.prog "strconv.ErrSyntax" = some #[.iface tp p]) M ∧ GlF (fun w => ∃ m, w.cell? ⟨0, 0, none⟩ = some (.int .i64 m)) M ∧ some (n76, n77, n78, n79, n80, n81, n82, b83) = some o74) [] ?_ ?_ (trivial)
       ·
        refine WC.draw (m := 11) rfl rfl H ?_
        intro w H
        refine WA.take (i := 1) rfl (by kernel_rfl) (by kernel_rfl) (by kernel_rfl) (fun _ => Ex.fieldAddr Tryz.underlying23 rfl Tryz.sizeOf3 (by decide) rfl) (Wn.none rfl) rfl rfl (fun _ _ => rfl) ?_
        refine WA.takeM (i := 2) [0] rfl (by kernel_rfl) (by kernel_rfl) (by kernel_rfl) (Ex.load1 H rfl (by repeat (first | exact List.Mem.head _ | apply List.Mem.tail)) Tryz.isAgg3 (by rfl)) (Wn.none rfl) rfl rfl (fun _ _ => rfl) ?_
        by_cases hk84 : (0 : Int) < n53
        ·
         rw [if_pos hk84] at e75
         obtain ⟨l85, hxl85, e75⟩ := bnd e75
         obtain ⟨l86, hxl86, e75⟩ := bnd e75
         obtain ⟨l87, hxl87, e75⟩ := bnd e75
         replace hxl86 := (chkA_some hxl86).1
         replace hxl87 := (chkA_some hxl87).1
         refine WA.takeE (v' := .bool true) (i := 3) rfl (by kernel_rfl) (by kernel_rfl) (by kernel_rfl) (fun _ => Ex.gtr rfl rfl) (congrArg Value.bool (decide_eq_true hk84)) (Wn.none rfl) rfl rfl (fun _ _ => rfl) ?_
         refine WA.take (i := 4) rfl (by kernel_rfl) (by kernel_rfl) (by kernel_rfl) (fun _ => Ex.move rfl) (Wn.none rfl) rfl rfl (fun _ _ => rfl) ?_
         refine WA.take (i := 6) rfl (by kernel_rfl) (by kernel_rfl) (by kernel_rfl) (fun _ => Ex.buildArr [Value.bool true, Value.bool true, Value.bool true, Value.bool true] Tryz.underlying85 Tryz.zeroValue85 Tryz.sizeOf4 rfl (by kernel_rfl)) (Wn.some rfl rfl rfl) rfl rfl (fun _ _ => rfl) ?_
         refine WA.two (i := 0) (j := 5) (by kernel_rfl) rfl rfl ?_ ?_
         ·
          refine WR.step (Ex.loadAgg H rfl (by repeat (first | exact List.Mem.head _ | apply List.Mem.tail)) Tryz.isAgg23 Tryz.sizeOf23 (by rfl)) (Wn.none rfl) rfl rfl ?_
          refine WR.nil (WQ.any ?_)
          refine WA.two (i := 5) (j := 9) (by kernel_rfl) rfl rfl ?_ ?_
          ·
           refine WR.step (Ex.loadAggA H rfl (by repeat (first | exact List.Mem.head _ | apply List.Mem.tail)) Tryz.isAgg85 Tryz.sizeOf85 hxl85) (Wn.some rfl rfl rfl) rfl rfl ?_
           refine WR.nil (WQ.any ?_)
           refine WA.take (i := 7) rfl (by kernel_rfl) (by kernel_rfl) (by kernel_rfl) (fun _ => Ex.eqlArr (enc := encBo) (l1 := l85) (l2 := ([true, true, true, true] : List Bool)) rfl rfl rfl rfl (by kernel_rfl) Tryz.underlying85 (by kernel_rfl) (by kernel_rfl) Tryz.isAgg4 (eqBo_at Tryz.underlying4) hxl86 hxl87) (Wn.some rfl rfl rfl) rfl rfl (fun _ _ => rfl) ?_
           refine WA.take (i := 8) rfl (by kernel_rfl) (by kernel_rfl) (by kernel_rfl) (fun _ => Ex.pickT rfl rfl) (Wn.none rfl) rfl rfl (fun _ _ => rfl) ?_
           refine WA.seq (fuel := 0) [9, 10] rfl (by kernel_rfl) ?_
           refine WR.store [_, _, _, _, _, _, _] H rfl rfl rfl (by repeat (first | exact Upd.head | apply Upd.tail)) Tryz.sizeOf23 rfl (by rfl) (by rfl) (Wn.none rfl) ?_
           intro w H
           refine WR.step (Ex.assign rfl) (Wn.none rfl) rfl rfl ?_
           refine WR.nil (WQ.any ?_)
           refine WA.done (by kernel_rfl) ?_
           exact WQ.meetN [(2, _), (3, _)] ⟨rfl, rfl, trivial⟩ ⟨_, _, _, _, _, _, _, _, _, rfl, (H.pick (L' := [.blk b2 (.cells #[I n55, I n53, I n39, I n61, I n62, I n63, I n69] 23)]) (by repeat (first | exact Pick.nil | refine Pick.cons (by repeat (first | exact Rem.head | apply Rem.tail)) ?_))), hg_errR, hg_errS, hg_maxl, e75⟩
          ·
           refine WR.store [_, _, _, _, _, _, _] H rfl rfl rfl (by repeat (first | exact Upd.head | apply Upd.tail)) Tryz.sizeOf23 rfl (by rfl) (by rfl) (Wn.none rfl) ?_
           intro w H
           refine WR.nil (WQ.any ?_)
           refine WA.seq (fuel := 0) [5, 7, 8, 10] rfl (by kernel_rfl) ?_
           refine WR.step (Ex.loadAggA H rfl (by repeat (first | exact List.Mem.head _ | apply List.Mem.tail)) Tryz.isAgg85 Tryz.sizeOf85 hxl85) (Wn.some rfl rfl rfl) rfl rfl ?_
           refine WR.step (Ex.eqlArr (enc := encBo) (l1 := l85) (l2 := ([true, true, true, true] : List Bool)) rfl rfl rfl rfl (by kernel_rfl) Tryz.underlying85 (by kernel_rfl) (by kernel_rfl) Tryz.isAgg4 (eqBo_at Tryz.underlying4) hxl86 hxl87) (Wn.some rfl rfl rfl) rfl rfl ?_
           refine WR.step (Ex.pickT rfl rfl) (Wn.none rfl) rfl rfl ?_
           refine WR.step (Ex.assign rfl) (Wn.none rfl) rfl rfl ?_
           refine WR.nil (WQ.any ?_)
           refine WA.done (by kernel_rfl) ?_
           exact WQ.meetN [(2, _), (3, _)] ⟨rfl, rfl, trivial⟩ ⟨_, _, _, _, _, _, _, _, _, rfl, (H.pick (L' := [.blk b2 (.cells #[I n55, I n53, I n39, I n61, I n62, I n63, I n69] 23)]) (by repeat (first | exact Pick.nil | refine Pick.cons (by repeat (first | exact Rem.head | apply Rem.tail)) ?_))), hg_errR, hg_errS, hg_maxl, e75⟩
         ·
          refine WR.step (Ex.loadAggA H rfl (by repeat (first | exact List.Mem.head _ | apply List.Mem.tail)) Tryz.isAgg85 Tryz.sizeOf85 hxl85) (Wn.some rfl rfl rfl) rfl rfl ?_
          refine WR.nil (WQ.any ?_)
          refine WA.take (i := 7) rfl (by kernel_rfl) (by kernel_rfl) (by kernel_rfl) (fun _ => Ex.eqlArr (enc := encBo) (l1 := l85) (l2 := ([true, true, true, true] : List Bool)) rfl rfl rfl rfl (by kernel_rfl) Tryz.underlying85 (by kernel_rfl) (by kernel_rfl) Tryz.isAgg4 (eqBo_at Tryz.underlying4) hxl86 hxl87) (Wn.some rfl rfl rfl) rfl rfl (fun _ _ => rfl) ?_
          refine WA.take (i := 8) rfl (by kernel_rfl) (by kernel_rfl) (by kernel_rfl) (fun _ => Ex.pickT rfl rfl) (Wn.none rfl) rfl rfl (fun _ _ => rfl) ?_
          refine WA.seq (fuel := 0) [0, 9, 10] rfl (by kernel_rfl) ?_
          refine WR.step (Ex.loadAgg H rfl (by repeat (first | exact List.Mem.head _ | apply List.Mem.tail)) Tryz.isAgg23 Tryz.sizeOf23 (by rfl)) (Wn.none rfl) rfl rfl ?_
          refine WR.store [_, _, _, _, _, _, _] H rfl rfl rfl (by repeat (first | exact Upd.head | apply Upd.tail)) Tryz.sizeOf23 rfl (by rfl) (by rfl) (Wn.none rfl) ?_
          intro w H
          refine WR.step (Ex.assign rfl) (Wn.none rfl) rfl rfl ?_
          refine WR.nil (WQ.any ?_)
          refine WA.done (by kernel_rfl) ?_
          exact WQ.meetN [(2, _), (3, _)] ⟨rfl, rfl, trivial⟩ ⟨_, _, _, _, _, _, _, _, _, rfl, (H.pick (L' := [.blk b2 (.cells #[I n55, I n53, I n39, I n61, I n62, I n63, I n69] 23)]) (by repeat (first | exact Pick.nil | refine Pick.cons (by repeat (first | exact Rem.head | apply Rem.tail)) ?_))), hg_errR, hg_errS, hg_maxl, e75⟩
        ·
         rw [if_neg hk84] at e75
         refine WA.takeE (v' := .bool false) (i := 3) rfl (by kernel_rfl) (by kernel_rfl) (by kernel_rfl) (fun _ => Ex.gtr rfl rfl) (congrArg Value.bool (decide_eq_false hk84)) (Wn.none rfl) rfl rfl (fun _ _ => rfl) ?_
         refine WA.take (i := 4) rfl (by kernel_rfl) (by kernel_rfl) (by kernel_rfl) (fun _ => Ex.move rfl) (Wn.none rfl) rfl rfl (fun _ _ => rfl) ?_
         refine WA.takes (fuel := 4) [5, 6, 7] rfl (by kernel_rfl) (by kernel_rfl) rfl ?_
         refine WA.take (i := 8) rfl (by kernel_rfl) (by kernel_rfl) (by kernel_rfl) (fun _ => Ex.pickF rfl rfl) (Wn.none rfl) rfl rfl (fun _ _ => rfl) ?_
         refine WA.seq (fuel := 0) [0, 9, 10] rfl (by kernel_rfl) ?_
         refine WR.step (Ex.loadAgg H rfl (by repeat (first | exact List.Mem.head _ | apply List.Mem.tail)) Tryz.isAgg23 Tryz.sizeOf23 (by rfl)) (Wn.none rfl) rfl rfl ?_
         refine WR.store [_, _, _, _, _, _, _] H rfl rfl rfl (by repeat (first | exact Upd.head | apply Upd.tail)) Tryz.sizeOf23 rfl (by rfl) (by rfl) (Wn.none rfl) ?_
         intro w H
         refine WR.step (Ex.assign rfl) (Wn.none rfl) rfl rfl ?_
         refine WR.nil (WQ.any ?_)
         refine WA.done (by kernel_rfl) ?_
         exact WQ.meetN [(2, _), (3, _)] ⟨rfl, rfl, trivial⟩ ⟨_, _, _, _, _, _, _, _, _, rfl, (H.pick (L' := [.blk b2 (.cells #[I n55, I n53, I n39, I n61, I n62, I n63, I n69] 23)]) (by repeat (first | exact Pick.nil | refine Pick.cons (by repeat (first | exact Rem.head | apply Rem.tail)) ?_))), hg_errR, hg_errS, hg_maxl, e75⟩
       ·
        rintro e w ⟨n76, n77, n78, n79, n80, n81, n82, b83, M, rfl, H, hg_errR, hg_errS, hg_maxl, q88⟩
        obtain rfl := Option.some.inj q88
        try dsimp only at h
        refine WQ.then ?_
        refine WC.ret ?_
        (repeat (first | refine WQ.thenRet ?_ | refine WQ.inBlockRet ?_ | refine WQ.cutRet ?_ | refine WQ.scRet ?_))
        obtain rfl := Option.some.inj h
        exact WQ.ret2 rfl ⟨_, rfl, H.loadAgg (by repeat (first | exact List.Mem.head _ | apply List.Mem.tail)) Tryz.isAgg23 Tryz.sizeOf23 (by rfl)⟩ rfl H.ext rfl
theorem dates_Parse_ct {p0 : List UInt8} {r : ((Int × Int × Int × Int × Int × Int × Int) × (Int × Int))} (h : dates_Parse p0 = some r) : Ct Tryz.prog 19 [S p0] (fun M => GlF (fun w => ∃ tp p, w.var? Tryz.prog "strconv.ErrRange" = some #[.iface tp p]) M ∧ GlF (fun w => ∃ tp p, w.var? Tryz.prog "strconv.ErrSyntax" = some #[.iface tp p]) M ∧ GlF (fun w => ∃ m, w.cell? ⟨0, 0, none⟩ = some (.int .i64 m)) M) (fun v M => v = Value.tuple #[Value.agg #[I r.1.1, I r.1.2.1, I r.1.2.2.1, I r.1.2.2.2.1, I r.1.2.2.2.2.1, I r.1.2.2.2.2.2.1, I r.1.2.2.2.2.2.2], Value.agg #[I r.2.1, I r.2.2]]) := by
  refine Ct.of Tryz.func19 (enters Tryz.func19 (by kernel_rfl) rfl) rfl rfl rfl ?_
  intro w0 M0 H hp
  obtain ⟨hg_errR, hg_errS, hg_maxl⟩ := hp
  unfold dates_Parse at h
  refine WC.seq ?_
  refine WC.region ?_
  refine WR.alloc [_, _, _, _, _, _, _] H Tryz.zeroValue23 rfl (Wn.none rfl) rfl ?_
  intro b2 w H
  refine WR.alloc [_, _] H Tryz.zeroValue26 rfl (Wn.none rfl) rfl ?_
  intro b3 w H
  refine WR.nil ?_
  refine WQ.then ?_
  refine WC.seq ?_
  refine WC.seq ?_
  refine WC.region ?_
  refine WR.step (Ex.move rfl) (Wn.none rfl) rfl rfl ?_
  refine WR.step (Ex.lenStr Tryz.underlying9 rfl) (Wn.none rfl) rfl rfl ?_
  refine WR.step (Ex.gtr rfl rfl) (Wn.none rfl) rfl rfl ?_
  refine WR.nil ?_
  refine WQ.then ?_
  refine WC.condB rfl (fun hk1 => ?_) (fun hk1 => ?_)
  ·
   replace hk1 : (4000 : Int) < (p0.length : Int) := of_decide_eq_true hk1
   rw [if_pos hk1] at h
   refine WC.seq ?_
   obtain ⟨⟨n2, n3⟩, hx4, h⟩ := bnd h
   try dsimp only at h
   refine WC.region ?_
   refine WR.step (Ex.build [I 0, I 0, I 0, I 0, I 0, I 0, I 0] Tryz.underlying23 Tryz.zeroValue23 (xplaces23 Tryz.underlying23) rfl (by kernel_rfl)) (Wn.none rfl) rfl rfl ?_
   refine WR.call H (basic_Fault_ct hx4) rfl trivial (Wn.none rfl) rfl ?_
   intro v12 M w H hle hR
   replace hg_errR := hg_errR.mono hle
   replace hg_errS := hg_errS.mono hle
   replace hg_maxl := hg_maxl.mono hle
   try dsimp only at hR
   obtain rfl := hR
   refine WR.store [_, _, _, _, _, _, _] H rfl rfl rfl (by repeat (first | exact Upd.head | apply Upd.tail)) Tryz.sizeOf23 rfl (by rfl) (by rfl) (Wn.none rfl) ?_
   intro w H
   refine WR.store [_, _] H rfl rfl rfl (by repeat (first | exact Upd.head | apply Upd.tail)) Tryz.sizeOf26 rfl (by rfl) (by rfl) (Wn.none rfl) ?_
   intro w H
   refine WR.nil ?_
   refine WQ.then ?_
   refine WC.ret ?_
   (repeat (first | refine WQ.thenRet ?_ | refine WQ.inBlockRet ?_ | refine WQ.cutRet ?_ | refine WQ.scRet ?_))
   obtain rfl := Option.some.inj h
   exact WQ.ret2 rfl ⟨_, rfl, H.loadAgg (by repeat (first | exact List.Mem.head _ | apply List.Mem.tail)) Tryz.isAgg23 Tryz.sizeOf23 (by rfl)⟩ ⟨_, rfl, H.loadAgg (by repeat (first | exact List.Mem.head _ | apply List.Mem.tail)) Tryz.isAgg26 Tryz.sizeOf26 (by rfl)⟩ H.ext rfl
  ·
   replace hk1 : ¬ ((4000 : Int) < (p0.length : Int)) := of_decide_eq_false hk1
   rw [if_neg hk1] at h
   refine WC.skip ?_
   refine WQ.then ?_
   refine WC.seq ?_
   obtain ⟨l5, hx6, h⟩ := bnd h
   refine WC.region ?_
   refine WR.step (Ex.move rfl) (Wn.none rfl) rfl rfl ?_
   refine WR.call H (strings_FieldsFunc_ct hx6) rfl ((fun _ _ h => FnV.of (dates_Parse_1_ct h) (fun _ _ => trivial))) (Wn.none rfl) rfl ?_
   intro v14 M w H hle hR
   replace hg_errR := hg_errR.mono hle
   replace hg_errS := hg_errS.mono hle
   replace hg_maxl := hg_maxl.mono hle
   have f14_0 := hR
   refine WR.step (Ex.assign rfl) (Wn.none rfl) rfl rfl ?_
   refine WR.nil ?_
   refine WQ.then ?_
   refine WC.seq ?_
   obtain ⟨⟨⟨n7, n8, n9, n10, n11, n12, n13⟩, b14⟩, hx15, h⟩ := bnd h
   try dsimp only at h
   refine WC.region ?_
   refine WR.step (Ex.move rfl) (Wn.none rfl) rfl rfl ?_
   refine WR.call H (dates_read_ct hx15) rfl ⟨hg_errR, hg_errS, hg_maxl, f14_0⟩ (Wn.none rfl) rfl ?_
   intro v17 M w H hle hR
   replace hg_errR := hg_errR.mono hle
   replace hg_errS := hg_errS.mono hle
   replace hg_maxl := hg_maxl.mono hle
   replace f14_0 := f14_0.mono hle
   try dsimp only at hR
   obtain rfl := hR
   refine WR.step (Ex.move rfl) (Wn.none rfl) rfl rfl ?_
   refine WR.step (Ex.extract rfl rfl) (Wn.none rfl) rfl rfl ?_
   refine WR.step (Ex.extract rfl rfl) (Wn.none rfl) rfl rfl ?_
   refine WR.alloc [_, _, _, _, _, _, _] H Tryz.zeroValue23 rfl (Wn.none rfl) rfl ?_
   intro b5 w H
   refine WR.store [_, _, _, _, _, _, _] H rfl rfl rfl (by repeat (first | exact Upd.head | apply Upd.tail)) Tryz.sizeOf23 rfl (by rfl) (by rfl) (Wn.none rfl) ?_
   intro w H
   refine WR.step (Ex.assign rfl) (Wn.none rfl) rfl rfl ?_
   refine WR.nil ?_
   refine WQ.then ?_
   refine WC.seq ?_
   refine WC.seq ?_
   refine WC.region ?_
   refine WR.step (Ex.move rfl) (Wn.none rfl) rfl rfl ?_
   refine WR.step (Ex.not rfl) (Wn.none rfl) rfl rfl ?_
   refine WR.nil ?_
   refine WQ.then ?_
   refine WC.condB rfl (fun hk16 => ?_) (fun hk16 => ?_)
   ·
    replace hk16 : b14 = false := by simpa using hk16
    subst hk16
    rw [if_neg Bool.false_ne_true] at h
    refine WC.seq ?_
    obtain ⟨⟨n17, n18⟩, hx19, h⟩ := bnd h
    try dsimp only at h
    refine WC.region ?_
    refine WR.step (Ex.build [I 0, I 0, I 0, I 0, I 0, I 0, I 0] Tryz.underlying23 Tryz.zeroValue23 (xplaces23 Tryz.underlying23) rfl (by kernel_rfl)) (Wn.none rfl) rfl rfl ?_
    refine WR.call H (basic_Fault_ct hx19) rfl trivial (Wn.none rfl) rfl ?_
    intro v23 M w H hle hR
    replace hg_errR := hg_errR.mono hle
    replace hg_errS := hg_errS.mono hle
    replace hg_maxl := hg_maxl.mono hle
    replace f14_0 := f14_0.mono hle
    try dsimp only at hR
    obtain rfl := hR
    refine WR.store [_, _, _, _, _, _, _] H rfl rfl rfl (by repeat (first | exact Upd.head | apply Upd.tail)) Tryz.sizeOf23 rfl (by rfl) (by rfl) (Wn.none rfl) ?_
    intro w H
    refine WR.store [_, _] H rfl rfl rfl (by repeat (first | exact Upd.head | apply Upd.tail)) Tryz.sizeOf26 rfl (by rfl) (by rfl) (Wn.none rfl) ?_
    intro w H
    refine WR.nil ?_
    refine WQ.then ?_
    refine WC.ret ?_
    (repeat (first | refine WQ.thenRet ?_ | refine WQ.inBlockRet ?_ | refine WQ.cutRet ?_ | refine WQ.scRet ?_))
    obtain rfl := Option.some.inj h
    exact WQ.ret2 rfl ⟨_, rfl, H.loadAgg (by repeat (first | exact List.Mem.head _ | apply List.Mem.tail)) Tryz.isAgg23 Tryz.sizeOf23 (by rfl)⟩ ⟨_, rfl, H.loadAgg (by repeat (first | exact List.Mem.head _ | apply List.Mem.tail)) Tryz.isAgg26 Tryz.sizeOf26 (by rfl)⟩ H.ext rfl
   ·
    replace hk16 : b14 = true := by simpa using hk16
    subst hk16
    rw [if_pos rfl] at h
    refine WC.skip ?_
    refine WQ.then ?_
    refine WC.seq ?_
    refine WC.seq ?_
    obtain ⟨⟨n20, n21⟩, hx22, h⟩ := bnd h
    try dsimp only at h
    refine WC.region ?_
    refine WR.step (Ex.loadAgg H rfl (by repeat (first | exact List.Mem.head _ | apply List.Mem.tail)) Tryz.isAgg23 Tryz.sizeOf23 (by rfl)) (Wn.none rfl) rfl rfl ?_
    refine WR.call H (dates_Validate_ct hx22) rfl trivial (Wn.none rfl) rfl ?_
    intro v25 M w H hle hR
    replace hg_errR := hg_errR.mono hle
    replace hg_errS := hg_errS.mono hle
    replace hg_maxl := hg_maxl.mono hle
    replace f14_0 := f14_0.mono hle
    try dsimp only at hR
    obtain rfl := hR
    refine WR.alloc [_, _] H Tryz.zeroValue26 rfl (Wn.none rfl) rfl ?_
    intro b7 w H
    refine WR.store [_, _] H rfl rfl rfl (by repeat (first | exact Upd.head | apply Upd.tail)) Tryz.sizeOf26 rfl (by rfl) (by rfl) (Wn.none rfl) ?_
    intro w H
    refine WR.nil ?_
    refine WQ.then ?_
    refine WC.seq ?_
    obtain ⟨b23, hx24, h⟩ := bnd h
    refine WC.region ?_
    refine WR.step (Ex.loadAgg H rfl (by repeat (first | exact List.Mem.head _ | apply List.Mem.tail)) Tryz.isAgg26 Tryz.sizeOf26 (by rfl)) (Wn.none rfl) rfl rfl ?_
    refine WR.call H (basic_Failed_ct hx24) rfl trivial (Wn.none rfl) rfl ?_
    intro v27 M w H hle hR
    replace hg_errR := hg_errR.mono hle
    replace hg_errS := hg_errS.mono hle
    replace hg_maxl := hg_maxl.mono hle
    replace f14_0 := f14_0.mono hle
    obtain rfl := hR
    refine WR.nil ?_
    refine WQ.then ?_
    refine WC.condB rfl (fun hk25 => ?_) (fun hk25 => ?_)
    ·
     subst hk25
     rw [if_pos rfl] at h
     refine WC.seq ?_
     refine WC.cutP (fun e w => ∃  (M : Mem), e = [(2, ptr b2 0), (3, ptr b3 0)] ∧ St w0 M0 M [.blk b2 (.cells #[I 0, I 0, I 0, I 0, I 0, I 0, I 0] 23), .blk b3 (.cells #[I n20, I n21] 26)] w ∧ GlF (fun w => ∃ tp p, w.var? Tryz.prog "strconv.ErrRange" = some #[.iface tp p]) M ∧ GlF (fun w => ∃ tp p, w.var? Tryz.prog "strconv.ErrSyntax" = some #[.iface tp p]) M ∧ GlF (fun w => ∃ m, w.cell? ⟨0, 0, none⟩ = some (.int .i64 m)) M) ?_ ?_
     ·
      refine WC.draw (m := 4) rfl rfl H ?_
      intro w H
      refine WA.take (i := 0) rfl (by kernel_rfl) (by kernel_rfl) (by kernel_rfl) (fun _ => Ex.build [I 0, I 0, I 0, I 0, I 0, I 0, I 0] Tryz.underlying23 Tryz.zeroValue23 (xplaces23 Tryz.underlying23) rfl (by kernel_rfl)) (Wn.none rfl) rfl rfl (fun _ _ => rfl) ?_
      refine WA.two (i := 1) (j := 2) (by kernel_rfl) rfl rfl ?_ ?_
      ·
       refine WR.step (Ex.loadAgg H rfl (by repeat (first | exact List.Mem.head _ | apply List.Mem.tail)) Tryz.isAgg26 Tryz.sizeOf26 (by rfl)) (Wn.none rfl) rfl rfl ?_
       refine WR.nil (WQ.any ?_)
       refine WA.seq (fuel := 0) [2, 3] rfl (by kernel_rfl) ?_
       refine WR.store [_, _, _, _, _, _, _] H rfl rfl rfl (by repeat (first | exact Upd.head | apply Upd.tail)) Tryz.sizeOf23 rfl (by rfl) (by rfl) (Wn.none rfl) ?_
       intro w H
       refine WR.store [_, _] H rfl rfl rfl (by repeat (first | exact Upd.head | apply Upd.tail)) Tryz.sizeOf26 rfl (by rfl) (by rfl) (Wn.none rfl) ?_
       intro w H
       refine WR.nil (WQ.any ?_)
       refine WA.done (by kernel_rfl) ?_
       exact WQ.meetP [(2, _), (3, _)] ⟨rfl, rfl, trivial⟩ ⟨_, rfl, (H.pick (L' := [.blk b2 (.cells #[I 0, I 0, I 0, I 0, I 0, I 0, I 0] 23), .blk b3 (.cells #[I n20, I n21] 26)]) (by repeat (first | exact Pick.nil | refine Pick.cons (by repeat (first | exact Rem.head | apply Rem.tail)) ?_))), hg_errR, hg_errS, hg_maxl⟩
      ·
       refine WR.store [_, _, _, _, _, _, _] H rfl rfl rfl (by repeat (first | exact Upd.head | apply Upd.tail)) Tryz.sizeOf23 rfl (by rfl) (by rfl) (Wn.none rfl) ?_
       intro w H
       refine WR.nil (WQ.any ?_)
       refine WA.seq (fuel := 0) [1, 3] rfl (by kernel_rfl) ?_
       refine WR.step (Ex.loadAgg H rfl (by repeat (first | exact List.Mem.head _ | apply List.Mem.tail)) Tryz.isAgg26 Tryz.sizeOf26 (by rfl)) (Wn.none rfl) rfl rfl ?_
       refine WR.store [_, _] H rfl rfl rfl (by repeat (first | exact Upd.head | apply Upd.tail)) Tryz.sizeOf26 rfl (by rfl) (by rfl) (Wn.none rfl) ?_
       intro w H
       refine WR.nil (WQ.any ?_)
       refine WA.done (by kernel_rfl) ?_
       exact WQ.meetP [(2, _), (3, _)] ⟨rfl, rfl, trivial⟩ ⟨_, rfl, (H.pick (L' := [.blk b2 (.cells #[I 0, I 0, I 0, I 0, I 0, I 0, I 0] 23), .blk b3 (.cells #[I n20, I n21] 26)]) (by repeat (first | exact Pick.nil | refine Pick.cons (by repeat (first | exact Rem.head | apply Rem.tail)) ?_))), hg_errR, hg_errS, hg_maxl⟩
     ·
      rintro e w ⟨M, rfl, H, hg_errR, hg_errS, hg_maxl⟩
      refine WQ.then ?_
      refine WC.ret ?_
      (repeat (first | refine WQ.thenRet ?_ | refine WQ.inBlockRet ?_ | refine WQ.cutRet ?_ | refine WQ.scRet ?_))
      obtain rfl := Option.some.inj h
      exact WQ.ret2 rfl ⟨_, rfl, H.loadAgg (by repeat (first | exact List.Mem.head _ | apply List.Mem.tail)) Tryz.isAgg23 Tryz.sizeOf23 (by rfl)⟩ ⟨_, rfl, H.loadAgg (by repeat (first | exact List.Mem.head _ | apply List.Mem.tail)) Tryz.isAgg26 Tryz.sizeOf26 (by rfl)⟩ H.ext rfl
    ·
     subst hk25
     rw [if_neg Bool.false_ne_true] at h
     refine WC.skip ?_
     refine WQ.then ?_
     refine WC.seq ?_
     obtain ⟨⟨n26, n27⟩, hx28, h⟩ := bnd h
     try dsimp only at h
     refine WC.cutP (fun e w => ∃  (M : Mem), e = [(2, ptr b2 0), (3, ptr b3 0)] ∧ St w0 M0 M [.blk b2 (.cells #[I n7, I n8, I n9, I n10, I n11, I n12, I n13] 23), .blk b3 (.cells #[I n26, I n27] 26)] w ∧ GlF (fun w => ∃ tp p, w.var? Tryz.prog "strconv.ErrRange" = some #[.iface tp p]) M ∧ GlF (fun w => ∃ tp p, w.var? Tryz.prog "strconv.ErrSyntax" = some #[.iface tp p]) M ∧ GlF (fun w => ∃ m, w.cell? ⟨0, 0, none⟩ = some (.int .i64 m)) M) ?_ ?_
     ·
      refine WC.draw (m := 4) rfl rfl H ?_
      intro w H
      refine WA.two (i := 0) (j := 1) (by kernel_rfl) rfl rfl ?_ ?_
      ·
       refine WR.step (Ex.loadAgg H rfl (by repeat (first | exact List.Mem.head _ | apply List.Mem.tail)) Tryz.isAgg23 Tryz.sizeOf23 (by rfl)) (Wn.none rfl) rfl rfl ?_
       refine WR.nil (WQ.any ?_)
       refine WA.seq (fuel := 0) [1, 2, 3] rfl (by kernel_rfl) ?_
       refine WR.call H (basic_None_ct hx28) rfl trivial (Wn.none rfl) rfl ?_
       intro v31 M w H hle hR
       replace hg_errR := hg_errR.mono hle
       replace hg_errS := hg_errS.mono hle
       replace hg_maxl := hg_maxl.mono hle
       replace f14_0 := f14_0.mono hle
       try dsimp only at hR
       obtain rfl := hR
       refine WR.store [_, _, _, _, _, _, _] H rfl rfl rfl (by repeat (first | exact Upd.head | apply Upd.tail)) Tryz.sizeOf23 rfl (by rfl) (by rfl) (Wn.none rfl) ?_
       intro w H
       refine WR.store [_, _] H rfl rfl rfl (by repeat (first | exact Upd.head | apply Upd.tail)) Tryz.sizeOf26 rfl (by rfl) (by rfl) (Wn.none rfl) ?_
       intro w H
       refine WR.nil (WQ.any ?_)
       refine WA.done (by kernel_rfl) ?_
       exact WQ.meetP [(2, _), (3, _)] ⟨rfl, rfl, trivial⟩ ⟨_, rfl, (H.pick (L' := [.blk b2 (.cells #[I n7, I n8, I n9, I n10, I n11, I n12, I n13] 23), .blk b3 (.cells #[I n26, I n27] 26)]) (by repeat (first | exact Pick.nil | refine Pick.cons (by repeat (first | exact Rem.head | apply Rem.tail)) ?_))), hg_errR, hg_errS, hg_maxl⟩
      ·
       refine WR.call H (basic_None_ct hx28) rfl trivial (Wn.none rfl) rfl ?_
       intro v31 M w H hle hR
       replace hg_errR := hg_errR.mono hle
       replace hg_errS := hg_errS.mono hle
       replace hg_maxl := hg_maxl.mono hle
       replace f14_0 := f14_0.mono hle
       try dsimp only at hR
       obtain rfl := hR
       refine WR.nil (WQ.any ?_)
       refine WA.seq (fuel := 0) [0, 2, 3] rfl (by kernel_rfl) ?_
       refine WR.step (Ex.loadAgg H rfl (by repeat (first | exact List.Mem.head _ | apply List.Mem.tail)) Tryz.isAgg23 Tryz.sizeOf23 (by rfl)) (Wn.none rfl) rfl rfl ?_
       refine WR.store [_, _, _, _, _, _, _] H rfl rfl rfl (by repeat (first | exact Upd.head | apply Upd.tail)) Tryz.sizeOf23 rfl (by rfl) (by rfl) (Wn.none rfl) ?_
       intro w H
       refine WR.store [_, _] H rfl rfl rfl (by repeat (first | exact Upd.head | apply Upd.tail)) Tryz.sizeOf26 rfl (by rfl) (by rfl) (Wn.none rfl) ?_
       intro w H
       refine WR.nil (WQ.any ?_)
       refine WA.done (by kernel_rfl) ?_
       exact WQ.meetP [(2, _), (3, _)] ⟨rfl, rfl, trivial⟩ ⟨_, rfl, (H.pick (L' := [.blk b2 (.cells #[I n7, I n8, I n9, I n10, I n11, I n12, I n13] 23), .blk b3 (.cells #[I n26, I n27] 26)]) (by repeat (first | exact Pick.nil | refine Pick.cons (by repeat (first | exact Rem.head | apply Rem.tail)) ?_))), hg_errR, hg_errS, hg_maxl⟩
     ·
      rintro e w ⟨M, rfl, H, hg_errR, hg_errS, hg_maxl⟩
      refine WQ.then ?_
      refine WC.ret ?_
      (repeat (first | refine WQ.thenRet ?_ | refine WQ.inBlockRet ?_ | refine WQ.cutRet ?_ | refine WQ.scRet ?_))
      obtain rfl := Option.some.inj h
      exact WQ.ret2 rfl ⟨_, rfl, H.loadAgg (by repeat (first | exact List.Mem.head _ | apply List.Mem.tail)) Tryz.isAgg23 Tryz.sizeOf23 (by rfl)⟩ ⟨_, rfl, H.loadAgg (by repeat (first | exact List.Mem.head _ | apply List.Mem.tail)) Tryz.isAgg26 Tryz.sizeOf26 (by rfl)⟩ H.ext rfl
set_option maxHeartbeats 4000000 in
theorem L_datesExample_ct  {r : Bool} (h : L_datesExample = some r) : Ct Tryz.prog 7 [] (fun M => GlF (fun w => ∃ tp p, w.var? Tryz.prog "strconv.ErrRange" = some #[.iface tp p]) M ∧ GlF (fun w => ∃ tp p, w.var? Tryz.prog "strconv.ErrSyntax" = some #[.iface tp p]) M ∧ GlF (fun w => ∃ m, w.cell? ⟨0, 0, none⟩ = some (.int .i64 m)) M ∧ GlF (fun w => Lib.TabIs Tryz.prog w "internal/strconv.uint64pow10" .u64 Lib.pow10Tab) M) (fun v M => v = Value.bool r) := by
  refine Ct.of Tryz.func7 (enters Tryz.func7 (by kernel_rfl) rfl) rfl rfl rfl ?_
  intro w0 M0 H hp
  obtain ⟨hg_errR, hg_errS, hg_maxl, hg_pow10⟩ := hp
  unfold L_datesExample at h
  refine WC.seq ?_
  refine WC.region ?_
  refine WR.step (Ex.assign rfl) (Wn.none rfl) rfl rfl ?_
  refine WR.nil ?_
  refine WQ.then ?_
  refine WC.seq ?_
  refine WC.region ?_
  refine WR.step (Ex.build [I 1970, I 1, I 2, I 0, I 0, I 0, I 60] Tryz.underlying23 Tryz.zeroValue23 (xplaces23 Tryz.underlying23) rfl (by kernel_rfl)) (Wn.none rfl) rfl rfl ?_
  refine WR.alloc [_, _, _, _, _, _, _] H Tryz.zeroValue23 rfl (Wn.none rfl) rfl ?_
  intro b1 w H
  refine WR.store [_, _, _, _, _, _, _] H rfl rfl rfl (by repeat (first | exact Upd.head | apply Upd.tail)) Tryz.sizeOf23 rfl (by rfl) (by rfl) (Wn.none rfl) ?_
  intro w H
  refine WR.nil ?_
  refine WQ.then ?_
  refine WC.seq ?_
  obtain ⟨⟨n1, ⟨n2, n3⟩⟩, hx4, h⟩ := bnd h
  try dsimp only at h
  refine WC.region ?_
  refine WR.step (Ex.loadAgg H rfl (by repeat (first | exact List.Mem.head _ | apply List.Mem.tail)) Tryz.isAgg23 Tryz.sizeOf23 (by rfl)) (Wn.none rfl) rfl rfl ?_
  refine WR.call H (dates_Instant_ct hx4) rfl trivial (Wn.none rfl) rfl ?_
  intro v15 M w H hle hR
  replace hg_errR := hg_errR.mono hle
  replace hg_errS := hg_errS.mono hle
  replace hg_maxl := hg_maxl.mono hle
  replace hg_pow10 := hg_pow10.mono hle
  try dsimp only at hR
  obtain rfl := hR
  refine WR.step (Ex.move rfl) (Wn.none rfl) rfl rfl ?_
  refine WR.step (Ex.extract rfl rfl) (Wn.none rfl) rfl rfl ?_
  refine WR.step (Ex.extract rfl rfl) (Wn.none rfl) rfl rfl ?_
  refine WR.alloc [_, _] H Tryz.zeroValue26 rfl (Wn.none rfl) rfl ?_
  intro b3 w H
  refine WR.step (Ex.assign rfl) (Wn.none rfl) rfl rfl ?_
  refine WR.store [_, _] H rfl rfl rfl (by repeat (first | exact Upd.head | apply Upd.tail)) Tryz.sizeOf26 rfl (by rfl) (by rfl) (Wn.none rfl) ?_
  intro w H
  refine WR.nil ?_
  refine WQ.then ?_
  refine WC.seq ?_
  obtain ⟨⟨⟨n5, n6, n7, n8, n9, n10, n11⟩, ⟨n12, n13⟩⟩, hx14, h⟩ := bnd h
  try dsimp only at h
  refine WC.region ?_
  refine WR.call H (dates_Civil_ct hx14) rfl trivial (Wn.none rfl) rfl ?_
  intro v19 M w H hle hR
  replace hg_errR := hg_errR.mono hle
  replace hg_errS := hg_errS.mono hle
  replace hg_maxl := hg_maxl.mono hle
  replace hg_pow10 := hg_pow10.mono hle
  try dsimp only at hR
  obtain rfl := hR
  refine WR.step (Ex.move rfl) (Wn.none rfl) rfl rfl ?_
  refine WR.step (Ex.extract rfl rfl) (Wn.none rfl) rfl rfl ?_
  refine WR.step (Ex.extract rfl rfl) (Wn.none rfl) rfl rfl ?_
  refine WR.alloc [_, _, _, _, _, _, _] H Tryz.zeroValue23 rfl (Wn.none rfl) rfl ?_
  intro b4 w H
  refine WR.alloc [_, _] H Tryz.zeroValue26 rfl (Wn.none rfl) rfl ?_
  intro b5 w H
  refine WR.store [_, _, _, _, _, _, _] H rfl rfl rfl (by repeat (first | exact Upd.head | apply Upd.tail)) Tryz.sizeOf23 rfl (by rfl) (by rfl) (Wn.none rfl) ?_
  intro w H
  refine WR.store [_, _] H rfl rfl rfl (by repeat (first | exact Upd.head | apply Upd.tail)) Tryz.sizeOf26 rfl (by rfl) (by rfl) (Wn.none rfl) ?_
  intro w H
  refine WR.nil ?_
  refine WQ.then ?_
  refine WC.seq ?_
  obtain ⟨⟨n15, ⟨n16, n17⟩⟩, hx18, h⟩ := bnd h
  try dsimp only at h
  refine WC.region ?_
  refine WR.step (Ex.loadAgg H rfl (by repeat (first | exact List.Mem.head _ | apply List.Mem.tail)) Tryz.isAgg23 Tryz.sizeOf23 (by rfl)) (Wn.none rfl) rfl rfl ?_
  refine WR.call H (dates_Weekday_ct hx18) rfl trivial (Wn.none rfl) rfl ?_
  intro v24 M w H hle hR
  replace hg_errR := hg_errR.mono hle
  replace hg_errS := hg_errS.mono hle
  replace hg_maxl := hg_maxl.mono hle
  replace hg_pow10 := hg_pow10.mono hle
  try dsimp only at hR
  obtain rfl := hR
  refine WR.step (Ex.move rfl) (Wn.none rfl) rfl rfl ?_
  refine WR.step (Ex.extract rfl rfl) (Wn.none rfl) rfl rfl ?_
  refine WR.step (Ex.extract rfl rfl) (Wn.none rfl) rfl rfl ?_
  refine WR.alloc [_, _] H Tryz.zeroValue26 rfl (Wn.none rfl) rfl ?_
  intro b7 w H
  refine WR.step (Ex.assign rfl) (Wn.none rfl) rfl rfl ?_
  refine WR.store [_, _] H rfl rfl rfl (by repeat (first | exact Upd.head | apply Upd.tail)) Tryz.sizeOf26 rfl (by rfl) (by rfl) (Wn.none rfl) ?_
  intro w H
  refine WR.nil ?_
  refine WQ.then ?_
  refine WC.seq ?_
  obtain ⟨⟨s19, ⟨n20, n21⟩⟩, hx22, h⟩ := bnd h
  try dsimp only at h
  refine WC.region ?_
  refine WR.step (Ex.loadAgg H rfl (by repeat (first | exact List.Mem.head _ | apply List.Mem.tail)) Tryz.isAgg23 Tryz.sizeOf23 (by rfl)) (Wn.none rfl) rfl rfl ?_
  refine WR.call H (dates_Print_ct hx22) rfl (hg_pow10) (Wn.none rfl) rfl ?_
  intro v29 M w H hle hR
  replace hg_errR := hg_errR.mono hle
  replace hg_errS := hg_errS.mono hle
  replace hg_maxl := hg_maxl.mono hle
  replace hg_pow10 := hg_pow10.mono hle
  try dsimp only at hR
  obtain rfl := hR
  refine WR.step (Ex.move rfl) (Wn.none rfl) rfl rfl ?_
  refine WR.step (Ex.extract rfl rfl) (Wn.none rfl) rfl rfl ?_
  refine WR.step (Ex.extract rfl rfl) (Wn.none rfl) rfl rfl ?_
  refine WR.alloc [_, _] H Tryz.zeroValue26 rfl (Wn.none rfl) rfl ?_
  intro b9 w H
  refine WR.step (Ex.assign rfl) (Wn.none rfl) rfl rfl ?_
  refine WR.store [_, _] H rfl rfl rfl (by repeat (first | exact Upd.head | apply Upd.tail)) Tryz.sizeOf26 rfl (by rfl) (by rfl) (Wn.none rfl) ?_
  intro w H
  refine WR.nil ?_
  refine WQ.then ?_
  refine WC.seq ?_
  obtain ⟨⟨⟨n23, n24, n25, n26, n27, n28, n29⟩, ⟨n30, n31⟩⟩, hx32, h⟩ := bnd h
  try dsimp only at h
  refine WC.region ?_
  refine WR.call H (dates_Parse_ct hx32) rfl ⟨hg_errR, hg_errS, hg_maxl⟩ (Wn.none rfl) rfl ?_
  intro v33 M w H hle hR
  replace hg_errR := hg_errR.mono hle
  replace hg_errS := hg_errS.mono hle
  replace hg_maxl := hg_maxl.mono hle
  replace hg_pow10 := hg_pow10.mono hle
  try dsimp only at hR
  obtain rfl := hR
  refine WR.step (Ex.move rfl) (Wn.none rfl) rfl rfl ?_
  refine WR.step (Ex.extract rfl rfl) (Wn.none rfl) rfl rfl ?_
  refine WR.step (Ex.extract rfl rfl) (Wn.none rfl) rfl rfl ?_
  refine WR.alloc [_, _, _, _, _, _, _] H Tryz.zeroValue23 rfl (Wn.none rfl) rfl ?_
  intro b10 w H
  refine WR.alloc [_, _] H Tryz.zeroValue26 rfl (Wn.none rfl) rfl ?_
  intro b11 w H
  refine WR.store [_, _, _, _, _, _, _] H rfl rfl rfl (by repeat (first | exact Upd.head | apply Upd.tail)) Tryz.sizeOf23 rfl (by rfl) (by rfl) (Wn.none rfl) ?_
  intro w H
  refine WR.store [_, _] H rfl rfl rfl (by repeat (first | exact Upd.head | apply Upd.tail)) Tryz.sizeOf26 rfl (by rfl) (by rfl) (Wn.none rfl) ?_
  intro w H
  refine WR.nil ?_
  refine WQ.then ?_
  refine WC.seq ?_
  obtain ⟨o33, e34, h⟩ := bnd h
  refine WC.cutX (fun e w => ∃ (b35 : Bool) (M : Mem), e = [(0, Value.bool b35)] ∧ St w0 M0 M [] w ∧ GlF (fun w => ∃ tp p, w.var? Tryz.prog "strconv.ErrRange" = some #[.iface tp p]) M ∧ GlF (fun w => ∃ tp p, w.var? Tryz.prog "strconv.ErrSyntax" = some #[.iface tp p]) M ∧ GlF (fun w => ∃ m, w.cell? ⟨0, 0, none⟩ = some (.int .i64 m)) M ∧ GlF (fun w => Lib.TabIs Tryz.prog w "internal/strconv.uint64pow10" .u64 Lib.pow10Tab) M ∧ some b35 = some o33) [] ?_ ?_ (trivial)
  ·
   refine WC.region ?_
   refine WR.step (Ex.fieldAddr Tryz.underlying26 rfl Tryz.sizeOf3 (by decide) rfl) (Wn.none rfl) rfl rfl ?_
   refine WR.step (Ex.load1 H rfl (by repeat (first | exact List.Mem.head _ | apply List.Mem.tail)) Tryz.isAgg3 (by rfl)) (Wn.none rfl) rfl rfl ?_
   by_cases hk36 : n2 = (0 : Int)
   ·
    rw [if_pos hk36] at e34
    by_cases hk37 : n12 = (0 : Int)
    ·
     rw [if_pos hk37] at e34
     by_cases hk38 : n16 = (0 : Int)
     ·
      rw [if_pos hk38] at e34
      by_cases hk39 : n20 = (0 : Int)
      ·
       rw [if_pos hk39] at e34
       by_cases hk40 : n30 = (0 : Int)
       ·
        rw [if_pos hk40] at e34
        by_cases hk41 : n1 = (82800 : Int)
        ·
         rw [if_pos hk41] at e34
         by_cases hk42 : n5 = 1970 ∧ n6 = 1 ∧ n7 = 1 ∧ n8 = 0 ∧ n9 = 0 ∧ n10 = 0 ∧ n11 = 0
         ·
          rw [if_pos hk42] at e34
          by_cases hk43 : n15 = (4 : Int)
          ·
           rw [if_pos hk43] at e34
           by_cases hk44 : s19 = [70, 114, 105, 44, 32, 48, 50, 32, 74, 97, 110, 32, 49, 57, 55, 48, 32, 48, 48, 58, 48, 48, 58, 48, 48, 32, 43, 48, 49, 48, 48]
           ·
            rw [if_pos hk44] at e34
            refine WR.stepE (v' := .bool true) (Ex.eql rfl rfl) (congrArg Value.bool (decide_eq_true hk36)) (Wn.none rfl) rfl rfl ?_
            refine WR.step (Ex.move rfl) (Wn.none rfl) rfl rfl ?_
            refine WR.step (Ex.fieldAddr Tryz.underlying26 rfl Tryz.sizeOf3 (by decide) rfl) (Wn.some rfl rfl rfl) rfl rfl ?_
            refine WR.step (Ex.load1 H rfl (by repeat (first | exact List.Mem.head _ | apply List.Mem.tail)) Tryz.isAgg3 (by rfl)) (Wn.some rfl rfl rfl) rfl rfl ?_
            refine WR.stepE (v' := .bool true) (Ex.eql rfl rfl) (congrArg Value.bool (decide_eq_true hk37)) (Wn.some rfl rfl rfl) rfl rfl ?_
            refine WR.step (Ex.pickT rfl rfl) (Wn.none rfl) rfl rfl ?_
            refine WR.step (Ex.move rfl) (Wn.none rfl) rfl rfl ?_
            refine WR.step (Ex.fieldAddr Tryz.underlying26 rfl Tryz.sizeOf3 (by decide) rfl) (Wn.some rfl rfl rfl) rfl rfl ?_
            refine WR.step (Ex.load1 H rfl (by repeat (first | exact List.Mem.head _ | apply List.Mem.tail)) Tryz.isAgg3 (by rfl)) (Wn.some rfl rfl rfl) rfl rfl ?_
            refine WR.stepE (v' := .bool true) (Ex.eql rfl rfl) (congrArg Value.bool (decide_eq_true hk38)) (Wn.some rfl rfl rfl) rfl rfl ?_
            refine WR.step (Ex.pickT rfl rfl) (Wn.none rfl) rfl rfl ?_
            refine WR.step (Ex.move rfl) (Wn.none rfl) rfl rfl ?_
            refine WR.step (Ex.fieldAddr Tryz.underlying26 rfl Tryz.sizeOf3 (by decide) rfl) (Wn.some rfl rfl rfl) rfl rfl ?_
            refine WR.step (Ex.load1 H rfl (by repeat (first | exact List.Mem.head _ | apply List.Mem.tail)) Tryz.isAgg3 (by rfl)) (Wn.some rfl rfl rfl) rfl rfl ?_
            refine WR.stepE (v' := .bool true) (Ex.eql rfl rfl) (congrArg Value.bool (decide_eq_true hk39)) (Wn.some rfl rfl rfl) rfl rfl ?_
            refine WR.step (Ex.pickT rfl rfl) (Wn.none rfl) rfl rfl ?_
            refine WR.step (Ex.move rfl) (Wn.none rfl) rfl rfl ?_
            refine WR.step (Ex.fieldAddr Tryz.underlying26 rfl Tryz.sizeOf3 (by decide) rfl) (Wn.some rfl rfl rfl) rfl rfl ?_
            refine WR.step (Ex.load1 H rfl (by repeat (first | exact List.Mem.head _ | apply List.Mem.tail)) Tryz.isAgg3 (by rfl)) (Wn.some rfl rfl rfl) rfl rfl ?_
            refine WR.stepE (v' := .bool true) (Ex.eql rfl rfl) (congrArg Value.bool (decide_eq_true hk40)) (Wn.some rfl rfl rfl) rfl rfl ?_
            refine WR.step (Ex.pickT rfl rfl) (Wn.none rfl) rfl rfl ?_
            refine WR.step (Ex.move rfl) (Wn.none rfl) rfl rfl ?_
            refine WR.step (Ex.move rfl) (Wn.some rfl rfl rfl) rfl rfl ?_
            refine WR.stepE (v' := .bool true) (Ex.eql rfl rfl) (congrArg Value.bool (decide_eq_true hk41)) (Wn.some rfl rfl rfl) rfl rfl ?_
            refine WR.step (Ex.pickT rfl rfl) (Wn.none rfl) rfl rfl ?_
            refine WR.step (Ex.move rfl) (Wn.none rfl) rfl rfl ?_
            refine WR.step (Ex.loadAgg H rfl (by repeat (first | exact List.Mem.head _ | apply List.Mem.tail)) Tryz.isAgg23 Tryz.sizeOf23 (by rfl)) (Wn.some rfl rfl rfl) rfl rfl ?_
            refine WR.step (Ex.build [I 1970, I 1, I 1, I 0, I 0, I 0, I 0] Tryz.underlying23 Tryz.zeroValue23 (xplaces23 Tryz.underlying23) rfl (by kernel_rfl)) (Wn.some rfl rfl rfl) rfl rfl ?_
            refine WR.stepE (v' := .bool true) (Ex.eqlAgg rfl rfl (by kernel_rfl) (xeq23 n5 1970 n6 1 n7 1 n8 0 n9 0 n10 0 n11 0)) (congrArg Value.bool (decide_eq_true hk42)) (Wn.some rfl rfl rfl) rfl rfl ?_
            refine WR.step (Ex.pickT rfl rfl) (Wn.none rfl) rfl rfl ?_
            refine WR.step (Ex.move rfl) (Wn.none rfl) rfl rfl ?_
            refine WR.step (Ex.move rfl) (Wn.some rfl rfl rfl) rfl rfl ?_
            refine WR.stepE (v' := .bool true) (Ex.eql rfl rfl) (congrArg Value.bool (decide_eq_true hk43)) (Wn.some rfl rfl rfl) rfl rfl ?_
            refine WR.step (Ex.pickT rfl rfl) (Wn.none rfl) rfl rfl ?_
            refine WR.step (Ex.move rfl) (Wn.none rfl) rfl rfl ?_
            refine WR.step (Ex.move rfl) (Wn.some rfl rfl rfl) rfl rfl ?_
            refine WR.stepE (v' := .bool true) (Ex.strEql rfl rfl) (congrArg Value.bool (decide_eq_true hk44)) (Wn.some rfl rfl rfl) rfl rfl ?_
            refine WR.step (Ex.pickT rfl rfl) (Wn.none rfl) rfl rfl ?_
            refine WR.step (Ex.move rfl) (Wn.none rfl) rfl rfl ?_
            refine WR.step (Ex.loadAgg H rfl (by repeat (first | exact List.Mem.head _ | apply List.Mem.tail)) Tryz.isAgg23 Tryz.sizeOf23 (by rfl)) (Wn.some rfl rfl rfl) rfl rfl ?_
            refine WR.step (Ex.loadAgg H rfl (by repeat (first | exact List.Mem.head _ | apply List.Mem.tail)) Tryz.isAgg23 Tryz.sizeOf23 (by rfl)) (Wn.some rfl rfl rfl) rfl rfl ?_
            refine WR.step (Ex.eqlAgg rfl rfl (by kernel_rfl) (xeq23 n23 1970 n24 1 n25 2 n26 0 n27 0 n28 0 n29 60)) (Wn.some rfl rfl rfl) rfl rfl ?_
            refine WR.step (Ex.pickT rfl rfl) (Wn.none rfl) rfl rfl ?_
            refine WR.step (Ex.assign rfl) (Wn.none rfl) rfl rfl ?_
            refine WR.nil ?_
            exact WQ.meetN [(0, _)] ⟨rfl, trivial⟩ ⟨_, _, rfl, (H.pick (L' := []) (by repeat (first | exact Pick.nil | refine Pick.cons (by repeat (first | exact Rem.head | apply Rem.tail)) ?_))), hg_errR, hg_errS, hg_maxl, hg_pow10, e34⟩
           ·
            rw [if_neg hk44] at e34
            refine WR.stepE (v' := .bool true) (Ex.eql rfl rfl) (congrArg Value.bool (decide_eq_true hk36)) (Wn.none rfl) rfl rfl ?_
            refine WR.step (Ex.move rfl) (Wn.none rfl) rfl rfl ?_
            refine WR.step (Ex.fieldAddr Tryz.underlying26 rfl Tryz.sizeOf3 (by decide) rfl) (Wn.some rfl rfl rfl) rfl rfl ?_
            refine WR.step (Ex.load1 H rfl (by repeat (first | exact List.Mem.head _ | apply List.Mem.tail)) Tryz.isAgg3 (by rfl)) (Wn.some rfl rfl rfl) rfl rfl ?_
            refine WR.stepE (v' := .bool true) (Ex.eql rfl rfl) (congrArg Value.bool (decide_eq_true hk37)) (Wn.some rfl rfl rfl) rfl rfl ?_
            refine WR.step (Ex.pickT rfl rfl) (Wn.none rfl) rfl rfl ?_
            refine WR.step (Ex.move rfl) (Wn.none rfl) rfl rfl ?_
            refine WR.step (Ex.fieldAddr Tryz.underlying26 rfl Tryz.sizeOf3 (by decide) rfl) (Wn.some rfl rfl rfl) rfl rfl ?_
            refine WR.step (Ex.load1 H rfl (by repeat (first | exact List.Mem.head _ | apply List.Mem.tail)) Tryz.isAgg3 (by rfl)) (Wn.some rfl rfl rfl) rfl rfl ?_
            refine WR.stepE (v' := .bool true) (Ex.eql rfl rfl) (congrArg Value.bool (decide_eq_true hk38)) (Wn.some rfl rfl rfl) rfl rfl ?_
            refine WR.step (Ex.pickT rfl rfl) (Wn.none rfl) rfl rfl ?_
            refine WR.step (Ex.move rfl) (Wn.none rfl) rfl rfl ?_
            refine WR.step (Ex.fieldAddr Tryz.underlying26 rfl Tryz.sizeOf3 (by decide) rfl) (Wn.some rfl rfl rfl) rfl rfl ?_
            refine WR.step (Ex.load1 H rfl (by repeat (first | exact List.Mem.head _ | apply List.Mem.tail)) Tryz.isAgg3 (by rfl)) (Wn.some rfl rfl rfl) rfl rfl ?_
            refine WR.stepE (v' := .bool true) (Ex.eql rfl rfl) (congrArg Value.bool (decide_eq_true hk39)) (Wn.some rfl rfl rfl) rfl rfl ?_
            refine WR.step (Ex.pickT rfl rfl) (Wn.none rfl) rfl rfl ?_
            refine WR.step (Ex.move rfl) (Wn.none rfl) rfl rfl ?_
            refine WR.step (Ex.fieldAddr Tryz.underlying26 rfl Tryz.sizeOf3 (by decide) rfl) (Wn.some rfl rfl rfl) rfl rfl ?_
            refine WR.step (Ex.load1 H rfl (by repeat (first | exact List.Mem.head _ | apply List.Mem.tail)) Tryz.isAgg3 (by rfl)) (Wn.some rfl rfl rfl) rfl rfl ?_
            refine WR.stepE (v' := .bool true) (Ex.eql rfl rfl) (congrArg Value.bool (decide_eq_true hk40)) (Wn.some rfl rfl rfl) rfl rfl ?_
            refine WR.step (Ex.pickT rfl rfl) (Wn.none rfl) rfl rfl ?_
            refine WR.step (Ex.move rfl) (Wn.none rfl) rfl rfl ?_
            refine WR.step (Ex.move rfl) (Wn.some rfl rfl rfl) rfl rfl ?_
            refine WR.stepE (v' := .bool true) (Ex.eql rfl rfl) (congrArg Value.bool (decide_eq_true hk41)) (Wn.some rfl rfl rfl) rfl rfl ?_
            refine WR.step (Ex.pickT rfl rfl) (Wn.none rfl) rfl rfl ?_
            refine WR.step (Ex.move rfl) (Wn.none rfl) rfl rfl ?_
            refine WR.step (Ex.loadAgg H rfl (by repeat (first | exact List.Mem.head _ | apply List.Mem.tail)) Tryz.isAgg23 Tryz.sizeOf23 (by rfl)) (Wn.some rfl rfl rfl) rfl rfl ?_
            refine WR.step (Ex.build [I 1970, I 1, I 1, I 0, I 0, I 0, I 0] Tryz.underlying23 Tryz.zeroValue23 (xplaces23 Tryz.underlying23) rfl (by kernel_rfl)) (Wn.some rfl rfl rfl) rfl rfl ?_
            refine WR.stepE (v' := .bool true) (Ex.eqlAgg rfl rfl (by kernel_rfl) (xeq23 n5 1970 n6 1 n7 1 n8 0 n9 0 n10 0 n11 0)) (congrArg Value.bool (decide_eq_true hk42)) (Wn.some rfl rfl rfl) rfl rfl ?_
            refine WR.step (Ex.pickT rfl rfl) (Wn.none rfl) rfl rfl ?_
            refine WR.step (Ex.move rfl) (Wn.none rfl) rfl rfl ?_
            refine WR.step (Ex.move rfl) (Wn.some rfl rfl rfl) rfl rfl ?_
            refine WR.stepE (v' := .bool true) (Ex.eql rfl rfl) (congrArg Value.bool (decide_eq_true hk43)) (Wn.some rfl rfl rfl) rfl rfl ?_
            refine WR.step (Ex.pickT rfl rfl) (Wn.none rfl) rfl rfl ?_
            refine WR.step (Ex.move rfl) (Wn.none rfl) rfl rfl ?_
            refine WR.step (Ex.move rfl) (Wn.some rfl rfl rfl) rfl rfl ?_
            refine WR.stepE (v' := .bool false) (Ex.strEql rfl rfl) (congrArg Value.bool (decide_eq_false hk44)) (Wn.some rfl rfl rfl) rfl rfl ?_
            refine WR.step (Ex.pickT rfl rfl) (Wn.none rfl) rfl rfl ?_
            refine WR.step (Ex.move rfl) (Wn.none rfl) rfl rfl ?_
            refine WR.skipN 3 rfl rfl ?_
            refine WR.step (Ex.pickF rfl rfl) (Wn.none rfl) rfl rfl ?_
            refine WR.step (Ex.assign rfl) (Wn.none rfl) rfl rfl ?_
            refine WR.nil ?_
            exact WQ.meetN [(0, _)] ⟨rfl, trivial⟩ ⟨_, _, rfl, (H.pick (L' := []) (by repeat (first | exact Pick.nil | refine Pick.cons (by repeat (first | exact Rem.head | apply Rem.tail)) ?_))), hg_errR, hg_errS, hg_maxl, hg_pow10, e34⟩
          ·
           rw [if_neg hk43] at e34
           refine WR.stepE (v' := .bool true) (Ex.eql rfl rfl) (congrArg Value.bool (decide_eq_true hk36)) (Wn.none rfl) rfl rfl ?_
           refine WR.step (Ex.move rfl) (Wn.none rfl) rfl rfl ?_
           refine WR.step (Ex.fieldAddr Tryz.underlying26 rfl Tryz.sizeOf3 (by decide) rfl) (Wn.some rfl rfl rfl) rfl rfl ?_
           refine WR.step (Ex.load1 H rfl (by repeat (first | exact List.Mem.head _ | apply List.Mem.tail)) Tryz.isAgg3 (by rfl)) (Wn.some rfl rfl rfl) rfl rfl ?_
           refine WR.stepE (v' := .bool true) (Ex.eql rfl rfl) (congrArg Value.bool (decide_eq_true hk37)) (Wn.some rfl rfl rfl) rfl rfl ?_
           refine WR.step (Ex.pickT rfl rfl) (Wn.none rfl) rfl rfl ?_
           refine WR.step (Ex.move rfl) (Wn.none rfl) rfl rfl ?_
           refine WR.step (Ex.fieldAddr Tryz.underlying26 rfl Tryz.sizeOf3 (by decide) rfl) (Wn.some rfl rfl rfl) rfl rfl ?_
           refine WR.step (Ex.load1 H rfl (by repeat (first | exact List.Mem.head _ | apply List.Mem.tail)) Tryz.isAgg3 (by rfl)) (Wn.some rfl rfl rfl) rfl rfl ?_
           refine WR.stepE (v' := .bool true) (Ex.eql rfl rfl) (congrArg Value.bool (decide_eq_true hk38)) (Wn.some rfl rfl rfl) rfl rfl ?_
           refine WR.step (Ex.pickT rfl rfl) (Wn.none rfl) rfl rfl ?_
           refine WR.step (Ex.move rfl) (Wn.none rfl) rfl rfl ?_
           refine WR.step (Ex.fieldAddr Tryz.underlying26 rfl Tryz.sizeOf3 (by decide) rfl) (Wn.some rfl rfl rfl) rfl rfl ?_
           refine WR.step (Ex.load1 H rfl (by repeat (first | exact List.Mem.head _ | apply List.Mem.tail)) Tryz.isAgg3 (by rfl)) (Wn.some rfl rfl rfl) rfl rfl ?_
           refine WR.stepE (v' := .bool true) (Ex.eql rfl rfl) (congrArg Value.bool (decide_eq_true hk39)) (Wn.some rfl rfl rfl) rfl rfl ?_
           refine WR.step (Ex.pickT rfl rfl) (Wn.none rfl) rfl rfl ?_
           refine WR.step (Ex.move rfl) (Wn.none rfl) rfl rfl ?_
           refine WR.step (Ex.fieldAddr Tryz.underlying26 rfl Tryz.sizeOf3 (by decide) rfl) (Wn.some rfl rfl rfl) rfl rfl ?_
           refine WR.step (Ex.load1 H rfl (by repeat (first | exact List.Mem.head _ | apply List.Mem.tail)) Tryz.isAgg3 (by rfl)) (Wn.some rfl rfl rfl) rfl rfl ?_
           refine WR.stepE (v' := .bool true) (Ex.eql rfl rfl) (congrArg Value.bool (decide_eq_true hk40)) (Wn.some rfl rfl rfl) rfl rfl ?_
           refine WR.step (Ex.pickT rfl rfl) (Wn.none rfl) rfl rfl ?_
           refine WR.step (Ex.move rfl) (Wn.none rfl) rfl rfl ?_
           refine WR.step (Ex.move rfl) (Wn.some rfl rfl rfl) rfl rfl ?_
           refine WR.stepE (v' := .bool true) (Ex.eql rfl rfl) (congrArg Value.bool (decide_eq_true hk41)) (Wn.some rfl rfl rfl) rfl rfl ?_
           refine WR.step (Ex.pickT rfl rfl) (Wn.none rfl) rfl rfl ?_
           refine WR.step (Ex.move rfl) (Wn.none rfl) rfl rfl ?_
           refine WR.step (Ex.loadAgg H rfl (by repeat (first | exact List.Mem.head _ | apply List.Mem.tail)) Tryz.isAgg23 Tryz.sizeOf23 (by rfl)) (Wn.some rfl rfl rfl) rfl rfl ?_
           refine WR.step (Ex.build [I 1970, I 1, I 1, I 0, I 0, I 0, I 0] Tryz.underlying23 Tryz.zeroValue23 (xplaces23 Tryz.underlying23) rfl (by kernel_rfl)) (Wn.some rfl rfl rfl) rfl rfl ?_
           refine WR.stepE (v' := .bool true) (Ex.eqlAgg rfl rfl (by kernel_rfl) (xeq23 n5 1970 n6 1 n7 1 n8 0 n9 0 n10 0 n11 0)) (congrArg Value.bool (decide_eq_true hk42)) (Wn.some rfl rfl rfl) rfl rfl ?_
           refine WR.step (Ex.pickT rfl rfl) (Wn.none rfl) rfl rfl ?_
           refine WR.step (Ex.move rfl) (Wn.none rfl) rfl rfl ?_
           refine WR.step (Ex.move rfl) (Wn.some rfl rfl rfl) rfl rfl ?_
           refine WR.stepE (v' := .bool false) (Ex.eql rfl rfl) (congrArg Value.bool (decide_eq_false hk43)) (Wn.some rfl rfl rfl) rfl rfl ?_
           refine WR.step (Ex.pickT rfl rfl) (Wn.none rfl) rfl rfl ?_
           refine WR.step (Ex.move rfl) (Wn.none rfl) rfl rfl ?_
           refine WR.skipG (b := false) rfl rfl rfl rfl rfl ?_
           refine WR.skipG (b := false) rfl rfl rfl rfl rfl ?_
           refine WR.step (Ex.pickF rfl rfl) (Wn.none rfl) rfl rfl ?_
           refine WR.step (Ex.move rfl) (Wn.none rfl) rfl rfl ?_
           refine WR.skipN 3 rfl rfl ?_
           refine WR.step (Ex.pickF rfl rfl) (Wn.none rfl) rfl rfl ?_
           refine WR.step (Ex.assign rfl) (Wn.none rfl) rfl rfl ?_
           refine WR.nil ?_
           exact WQ.meetN [(0, _)] ⟨rfl, trivial⟩ ⟨_, _, rfl, (H.pick (L' := []) (by repeat (first | exact Pick.nil | refine Pick.cons (by repeat (first | exact Rem.head | apply Rem.tail)) ?_))), hg_errR, hg_errS, hg_maxl, hg_pow10, e34⟩
         ·
          rw [if_neg hk42] at e34
          refine WR.stepE (v' := .bool true) (Ex.eql rfl rfl) (congrArg Value.bool (decide_eq_true hk36)) (Wn.none rfl) rfl rfl ?_
          refine WR.step (Ex.move rfl) (Wn.none rfl) rfl rfl ?_
          refine WR.step (Ex.fieldAddr Tryz.underlying26 rfl Tryz.sizeOf3 (by decide) rfl) (Wn.some rfl rfl rfl) rfl rfl ?_
          refine WR.step (Ex.load1 H rfl (by repeat (first | exact List.Mem.head _ | apply List.Mem.tail)) Tryz.isAgg3 (by rfl)) (Wn.some rfl rfl rfl) rfl rfl ?_
          refine WR.stepE (v' := .bool true) (Ex.eql rfl rfl) (congrArg Value.bool (decide_eq_true hk37)) (Wn.some rfl rfl rfl) rfl rfl ?_
          refine WR.step (Ex.pickT rfl rfl) (Wn.none rfl) rfl rfl ?_
          refine WR.step (Ex.move rfl) (Wn.none rfl) rfl rfl ?_
          refine WR.step (Ex.fieldAddr Tryz.underlying26 rfl Tryz.sizeOf3 (by decide) rfl) (Wn.some rfl rfl rfl) rfl rfl ?_
          refine WR.step (Ex.load1 H rfl (by repeat (first | exact List.Mem.head _ | apply List.Mem.tail)) Tryz.isAgg3 (by rfl)) (Wn.some rfl rfl rfl) rfl rfl ?_
          refine WR.stepE (v' := .bool true) (Ex.eql rfl rfl) (congrArg Value.bool (decide_eq_true hk38)) (Wn.some rfl rfl rfl) rfl rfl ?_
          refine WR.step (Ex.pickT rfl rfl) (Wn.none rfl) rfl rfl ?_
          refine WR.step (Ex.move rfl) (Wn.none rfl) rfl rfl ?_
          refine WR.step (Ex.fieldAddr Tryz.underlying26 rfl Tryz.sizeOf3 (by decide) rfl) (Wn.some rfl rfl rfl) rfl rfl ?_
          refine WR.step (Ex.load1 H rfl (by repeat (first | exact List.Mem.head _ | apply List.Mem.tail)) Tryz.isAgg3 (by rfl)) (Wn.some rfl rfl rfl) rfl rfl ?_
          refine WR.stepE (v' := .bool true) (Ex.eql rfl rfl) (congrArg Value.bool (decide_eq_true hk39)) (Wn.some rfl rfl rfl) rfl rfl ?_
          refine WR.step (Ex.pickT rfl rfl) (Wn.none rfl) rfl rfl ?_
          refine WR.step (Ex.move rfl) (Wn.none rfl) rfl rfl ?_
          refine WR.step (Ex.fieldAddr Tryz.underlying26 rfl Tryz.sizeOf3 (by decide) rfl) (Wn.some rfl rfl rfl) rfl rfl ?_
          refine WR.step (Ex.load1 H rfl (by repeat (first | exact List.Mem.head _ | apply List.Mem.tail)) Tryz.isAgg3 (by rfl)) (Wn.some rfl rfl rfl) rfl rfl ?_
          refine WR.stepE (v' := .bool true) (Ex.eql rfl rfl) (congrArg Value.bool (decide_eq_true hk40)) (Wn.some rfl rfl rfl) rfl rfl ?_
          refine WR.step (Ex.pickT rfl rfl) (Wn.none rfl) rfl rfl ?_
          refine WR.step (Ex.move rfl) (Wn.none rfl) rfl rfl ?_
          refine WR.step (Ex.move rfl) (Wn.some rfl rfl rfl) rfl rfl ?_
          refine WR.stepE (v' := .bool true) (Ex.eql rfl rfl) (congrArg Value.bool (decide_eq_true hk41)) (Wn.some rfl rfl rfl) rfl rfl ?_
          refine WR.step (Ex.pickT rfl rfl) (Wn.none rfl) rfl rfl ?_
          refine WR.step (Ex.move rfl) (Wn.none rfl) rfl rfl ?_
          refine WR.step (Ex.loadAgg H rfl (by repeat (first | exact List.Mem.head _ | apply List.Mem.tail)) Tryz.isAgg23 Tryz.sizeOf23 (by rfl)) (Wn.some rfl rfl rfl) rfl rfl ?_
          refine WR.step (Ex.build [I 1970, I 1, I 1, I 0, I 0, I 0, I 0] Tryz.underlying23 Tryz.zeroValue23 (xplaces23 Tryz.underlying23) rfl (by kernel_rfl)) (Wn.some rfl rfl rfl) rfl rfl ?_
          refine WR.stepE (v' := .bool false) (Ex.eqlAgg rfl rfl (by kernel_rfl) (xeq23 n5 1970 n6 1 n7 1 n8 0 n9 0 n10 0 n11 0)) (congrArg Value.bool (decide_eq_false hk42)) (Wn.some rfl rfl rfl) rfl rfl ?_
          refine WR.step (Ex.pickT rfl rfl) (Wn.none rfl) rfl rfl ?_
          refine WR.step (Ex.move rfl) (Wn.none rfl) rfl rfl ?_
          refine WR.skipG (b := false) rfl rfl rfl rfl rfl ?_
          refine WR.skipG (b := false) rfl rfl rfl rfl rfl ?_
          refine WR.step (Ex.pickF rfl rfl) (Wn.none rfl) rfl rfl ?_
          refine WR.step (Ex.move rfl) (Wn.none rfl) rfl rfl ?_
          refine WR.skipG (b := false) rfl rfl rfl rfl rfl ?_
          refine WR.skipG (b := false) rfl rfl rfl rfl rfl ?_
          refine WR.step (Ex.pickF rfl rfl) (Wn.none rfl) rfl rfl ?_
          refine WR.step (Ex.move rfl) (Wn.none rfl) rfl rfl ?_
          refine WR.skipN 3 rfl rfl ?_
          refine WR.step (Ex.pickF rfl rfl) (Wn.none rfl) rfl rfl ?_
          refine WR.step (Ex.assign rfl) (Wn.none rfl) rfl rfl ?_
          refine WR.nil ?_
          exact WQ.meetN [(0, _)] ⟨rfl, trivial⟩ ⟨_, _, rfl, (H.pick (L' := []) (by repeat (first | exact Pick.nil | refine Pick.cons (by repeat (first | exact Rem.head | apply Rem.tail)) ?_))), hg_errR, hg_errS, hg_maxl, hg_pow10, e34⟩
        ·
         rw [if_neg hk41] at e34
         refine WR.stepE (v' := .bool true) (Ex.eql rfl rfl) (congrArg Value.bool (decide_eq_true hk36)) (Wn.none rfl) rfl rfl ?_
         refine WR.step (Ex.move rfl) (Wn.none rfl) rfl rfl ?_
         refine WR.step (Ex.fieldAddr Tryz.underlying26 rfl Tryz.sizeOf3 (by decide) rfl) (Wn.some rfl rfl rfl) rfl rfl ?_
         refine WR.step (Ex.load1 H rfl (by repeat (first | exact List.Mem.head _ | apply List.Mem.tail)) Tryz.isAgg3 (by rfl)) (Wn.some rfl rfl rfl) rfl rfl ?_
         refine WR.stepE (v' := .bool true) (Ex.eql rfl rfl) (congrArg Value.bool (decide_eq_true hk37)) (Wn.some rfl rfl rfl) rfl rfl ?_
         refine WR.step (Ex.pickT rfl rfl) (Wn.none rfl) rfl rfl ?_
         refine WR.step (Ex.move rfl) (Wn.none rfl) rfl rfl ?_
         refine WR.step (Ex.fieldAddr Tryz.underlying26 rfl Tryz.sizeOf3 (by decide) rfl) (Wn.some rfl rfl rfl) rfl rfl ?_
         refine WR.step (Ex.load1 H rfl (by repeat (first | exact List.Mem.head _ | apply List.Mem.tail)) Tryz.isAgg3 (by rfl)) (Wn.some rfl rfl rfl) rfl rfl ?_
         refine WR.stepE (v' := .bool true) (Ex.eql rfl rfl) (congrArg Value.bool (decide_eq_true hk38)) (Wn.some rfl rfl rfl) rfl rfl ?_
         refine WR.step (Ex.pickT rfl rfl) (Wn.none rfl) rfl rfl ?_
         refine WR.step (Ex.move rfl) (Wn.none rfl) rfl rfl ?_
         refine WR.step (Ex.fieldAddr Tryz.underlying26 rfl Tryz.sizeOf3 (by decide) rfl) (Wn.some rfl rfl rfl) rfl rfl ?_
         refine WR.step (Ex.load1 H rfl (by repeat (first | exact List.Mem.head _ | apply List.Mem.tail)) Tryz.isAgg3 (by rfl)) (Wn.some rfl rfl rfl) rfl rfl ?_
         refine WR.stepE (v' := .bool true) (Ex.eql rfl rfl) (congrArg Value.bool (decide_eq_true hk39)) (Wn.some rfl rfl rfl) rfl rfl ?_
         refine WR.step (Ex.pickT rfl rfl) (Wn.none rfl) rfl rfl ?_
         refine WR.step (Ex.move rfl) (Wn.none rfl) rfl rfl ?_
         refine WR.step (Ex.fieldAddr Tryz.underlying26 rfl Tryz.sizeOf3 (by decide) rfl) (Wn.some rfl rfl rfl) rfl rfl ?_
         refine WR.step (Ex.load1 H rfl (by repeat (first | exact List.Mem.head _ | apply List.Mem.tail)) Tryz.isAgg3 (by rfl)) (Wn.some rfl rfl rfl) rfl rfl ?_
         refine WR.stepE (v' := .bool true) (Ex.eql rfl rfl) (congrArg Value.bool (decide_eq_true hk40)) (Wn.some rfl rfl rfl) rfl rfl ?_
         refine WR.step (Ex.pickT rfl rfl) (Wn.none rfl) rfl rfl ?_
         refine WR.step (Ex.move rfl) (Wn.none rfl) rfl rfl ?_
         refine WR.step (Ex.move rfl) (Wn.some rfl rfl rfl) rfl rfl ?_
         refine WR.stepE (v' := .bool false) (Ex.eql rfl rfl) (congrArg Value.bool (decide_eq_false hk41)) (Wn.some rfl rfl rfl) rfl rfl ?_
         refine WR.step (Ex.pickT rfl rfl) (Wn.none rfl) rfl rfl ?_
         refine WR.step (Ex.move rfl) (Wn.none rfl) rfl rfl ?_
         refine WR.skipN 3 rfl rfl ?_
         refine WR.step (Ex.pickF rfl rfl) (Wn.none rfl) rfl rfl ?_
         refine WR.step (Ex.move rfl) (Wn.none rfl) rfl rfl ?_
         refine WR.skipG (b := false) rfl rfl rfl rfl rfl ?_
         refine WR.skipG (b := false) rfl rfl rfl rfl rfl ?_
         refine WR.step (Ex.pickF rfl rfl) (Wn.none rfl) rfl rfl ?_
         refine WR.step (Ex.move rfl) (Wn.none rfl) rfl rfl ?_
         refine WR.skipG (b := false) rfl rfl rfl rfl rfl ?_
         refine WR.skipG (b := false) rfl rfl rfl rfl rfl ?_
         refine WR.step (Ex.pickF rfl rfl) (Wn.none rfl) rfl rfl ?_
         refine WR.step (Ex.move rfl) (Wn.none rfl) rfl rfl ?_
         refine WR.skipN 3 rfl rfl ?_
         refine WR.step (Ex.pickF rfl rfl) (Wn.none rfl) rfl rfl ?_
         refine WR.step (Ex.assign rfl) (Wn.none rfl) rfl rfl ?_
         refine WR.nil ?_
         exact WQ.meetN [(0, _)] ⟨rfl, trivial⟩ ⟨_, _, rfl, (H.pick (L' := []) (by repeat (first | exact Pick.nil | refine Pick.cons (by repeat (first | exact Rem.head | apply Rem.tail)) ?_))), hg_errR, hg_errS, hg_maxl, hg_pow10, e34⟩
       ·
        rw [if_neg hk40] at e34
        refine WR.stepE (v' := .bool true) (Ex.eql rfl rfl) (congrArg Value.bool (decide_eq_true hk36)) (Wn.none rfl) rfl rfl ?_
        refine WR.step (Ex.move rfl) (Wn.none rfl) rfl rfl ?_
        refine WR.step (Ex.fieldAddr Tryz.underlying26 rfl Tryz.sizeOf3 (by decide) rfl) (Wn.some rfl rfl rfl) rfl rfl ?_
        refine WR.step (Ex.load1 H rfl (by repeat (first | exact List.Mem.head _ | apply List.Mem.tail)) Tryz.isAgg3 (by rfl)) (Wn.some rfl rfl rfl) rfl rfl ?_
        refine WR.stepE (v' := .bool true) (Ex.eql rfl rfl) (congrArg Value.bool (decide_eq_true hk37)) (Wn.some rfl rfl rfl) rfl rfl ?_
        refine WR.step (Ex.pickT rfl rfl) (Wn.none rfl) rfl rfl ?_
        refine WR.step (Ex.move rfl) (Wn.none rfl) rfl rfl ?_
        refine WR.step (Ex.fieldAddr Tryz.underlying26 rfl Tryz.sizeOf3 (by decide) rfl) (Wn.some rfl rfl rfl) rfl rfl ?_
        refine WR.step (Ex.load1 H rfl (by repeat (first | exact List.Mem.head _ | apply List.Mem.tail)) Tryz.isAgg3 (by rfl)) (Wn.some rfl rfl rfl) rfl rfl ?_
        refine WR.stepE (v' := .bool true) (Ex.eql rfl rfl) (congrArg Value.bool (decide_eq_true hk38)) (Wn.some rfl rfl rfl) rfl rfl ?_
        refine WR.step (Ex.pickT rfl rfl) (Wn.none rfl) rfl rfl ?_
        refine WR.step (Ex.move rfl) (Wn.none rfl) rfl rfl ?_
        refine WR.step (Ex.fieldAddr Tryz.underlying26 rfl Tryz.sizeOf3 (by decide) rfl) (Wn.some rfl rfl rfl) rfl rfl ?_
        refine WR.step (Ex.load1 H rfl (by repeat (first | exact List.Mem.head _ | apply List.Mem.tail)) Tryz.isAgg3 (by rfl)) (Wn.some rfl rfl rfl) rfl rfl ?_
        refine WR.stepE (v' := .bool true) (Ex.eql rfl rfl) (congrArg Value.bool (decide_eq_true hk39)) (Wn.some rfl rfl rfl) rfl rfl ?_
        refine WR.step (Ex.pickT rfl rfl) (Wn.none rfl) rfl rfl ?_
        refine WR.step (Ex.move rfl) (Wn.none rfl) rfl rfl ?_
        refine WR.step (Ex.fieldAddr Tryz.underlying26 rfl Tryz.sizeOf3 (by decide) rfl) (Wn.some rfl rfl rfl) rfl rfl ?_
        refine WR.step (Ex.load1 H rfl (by repeat (first | exact List.Mem.head _ | apply List.Mem.tail)) Tryz.isAgg3 (by rfl)) (Wn.some rfl rfl rfl) rfl rfl ?_
        refine WR.stepE (v' := .bool false) (Ex.eql rfl rfl) (congrArg Value.bool (decide_eq_false hk40)) (Wn.some rfl rfl rfl) rfl rfl ?_
        refine WR.step (Ex.pickT rfl rfl) (Wn.none rfl) rfl rfl ?_
        refine WR.step (Ex.move rfl) (Wn.none rfl) rfl rfl ?_
        refine WR.skipG (b := false) rfl rfl rfl rfl rfl ?_
        refine WR.skipG (b := false) rfl rfl rfl rfl rfl ?_
        refine WR.step (Ex.pickF rfl rfl) (Wn.none rfl) rfl rfl ?_
        refine WR.step (Ex.move rfl) (Wn.none rfl) rfl rfl ?_
        refine WR.skipN 3 rfl rfl ?_
        refine WR.step (Ex.pickF rfl rfl) (Wn.none rfl) rfl rfl ?_
        refine WR.step (Ex.move rfl) (Wn.none rfl) rfl rfl ?_
        refine WR.skipG (b := false) rfl rfl rfl rfl rfl ?_
        refine WR.skipG (b := false) rfl rfl rfl rfl rfl ?_
        refine WR.step (Ex.pickF rfl rfl) (Wn.none rfl) rfl rfl ?_
        refine WR.step (Ex.move rfl) (Wn.none rfl) rfl rfl ?_
        refine WR.skipG (b := false) rfl rfl rfl rfl rfl ?_
        refine WR.skipG (b := false) rfl rfl rfl rfl rfl ?_
        refine WR.step (Ex.pickF rfl rfl) (Wn.none rfl) rfl rfl ?_
        refine WR.step (Ex.move rfl) (Wn.none rfl) rfl rfl ?_
        refine WR.skipN 3 rfl rfl ?_
        refine WR.step (Ex.pickF rfl rfl) (Wn.none rfl) rfl rfl ?_
        refine WR.step (Ex.assign rfl) (Wn.none rfl) rfl rfl ?_
        refine WR.nil ?_
        exact WQ.meetN [(0, _)] ⟨rfl, trivial⟩ ⟨_, _, rfl, (H.pick (L' := []) (by repeat (first | exact Pick.nil | refine Pick.cons (by repeat (first | exact Rem.head | apply Rem.tail)) ?_))), hg_errR, hg_errS, hg_maxl, hg_pow10, e34⟩
      ·
       rw [if_neg hk39] at e34
       refine WR.stepE (v' := .bool true) (Ex.eql rfl rfl) (congrArg Value.bool (decide_eq_true hk36)) (Wn.none rfl) rfl rfl ?_
       refine WR.step (Ex.move rfl) (Wn.none rfl) rfl rfl ?_
       refine WR.step (Ex.fieldAddr Tryz.underlying26 rfl Tryz.sizeOf3 (by decide) rfl) (Wn.some rfl rfl rfl) rfl rfl ?_
       refine WR.step (Ex.load1 H rfl (by repeat (first | exact List.Mem.head _ | apply List.Mem.tail)) Tryz.isAgg3 (by rfl)) (Wn.some rfl rfl rfl) rfl rfl ?_
       refine WR.stepE (v' := .bool true) (Ex.eql rfl rfl) (congrArg Value.bool (decide_eq_true hk37)) (Wn.some rfl rfl rfl) rfl rfl ?_
       refine WR.step (Ex.pickT rfl rfl) (Wn.none rfl) rfl rfl ?_
       refine WR.step (Ex.move rfl) (Wn.none rfl) rfl rfl ?_
       refine WR.step (Ex.fieldAddr Tryz.underlying26 rfl Tryz.sizeOf3 (by decide) rfl) (Wn.some rfl rfl rfl) rfl rfl ?_
       refine WR.step (Ex.load1 H rfl (by repeat (first | exact List.Mem.head _ | apply List.Mem.tail)) Tryz.isAgg3 (by rfl)) (Wn.some rfl rfl rfl) rfl rfl ?_
       refine WR.stepE (v' := .bool true) (Ex.eql rfl rfl) (congrArg Value.bool (decide_eq_true hk38)) (Wn.some rfl rfl rfl) rfl rfl ?_
       refine WR.step (Ex.pickT rfl rfl) (Wn.none rfl) rfl rfl ?_
       refine WR.step (Ex.move rfl) (Wn.none rfl) rfl rfl ?_
       refine WR.step (Ex.fieldAddr Tryz.underlying26 rfl Tryz.sizeOf3 (by decide) rfl) (Wn.some rfl rfl rfl) rfl rfl ?_
       refine WR.step (Ex.load1 H rfl (by repeat (first | exact List.Mem.head _ | apply List.Mem.tail)) Tryz.isAgg3 (by rfl)) (Wn.some rfl rfl rfl) rfl rfl ?_
       refine WR.stepE (v' := .bool false) (Ex.eql rfl rfl) (congrArg Value.bool (decide_eq_false hk39)) (Wn.some rfl rfl rfl) rfl rfl ?_
       refine WR.step (Ex.pickT rfl rfl) (Wn.none rfl) rfl rfl ?_
       refine WR.step (Ex.move rfl) (Wn.none rfl) rfl rfl ?_
       refine WR.skipN 3 rfl rfl ?_
       refine WR.step (Ex.pickF rfl rfl) (Wn.none rfl) rfl rfl ?_
       refine WR.step (Ex.move rfl) (Wn.none rfl) rfl rfl ?_
       refine WR.skipG (b := false) rfl rfl rfl rfl rfl ?_
       refine WR.skipG (b := false) rfl rfl rfl rfl rfl ?_
       refine WR.step (Ex.pickF rfl rfl) (Wn.none rfl) rfl rfl ?_
       refine WR.step (Ex.move rfl) (Wn.none rfl) rfl rfl ?_
       refine WR.skipN 3 rfl rfl ?_
       refine WR.step (Ex.pickF rfl rfl) (Wn.none rfl) rfl rfl ?_
       refine WR.step (Ex.move rfl) (Wn.none rfl) rfl rfl ?_
       refine WR.skipG (b := false) rfl rfl rfl rfl rfl ?_
       refine WR.skipG (b := false) rfl rfl rfl rfl rfl ?_
       refine WR.step (Ex.pickF rfl rfl) (Wn.none rfl) rfl rfl ?_
       refine WR.step (Ex.move rfl) (Wn.none rfl) rfl rfl ?_
       refine WR.skipG (b := false) rfl rfl rfl rfl rfl ?_
       refine WR.skipG (b := false) rfl rfl rfl rfl rfl ?_
       refine WR.step (Ex.pickF rfl rfl) (Wn.none rfl) rfl rfl ?_
       refine WR.step (Ex.move rfl) (Wn.none rfl) rfl rfl ?_
       refine WR.skipN 3 rfl rfl ?_
       refine WR.step (Ex.pickF rfl rfl) (Wn.none rfl) rfl rfl ?_
       refine WR.step (Ex.assign rfl) (Wn.none rfl) rfl rfl ?_
       refine WR.nil ?_
       exact WQ.meetN [(0, _)] ⟨rfl, trivial⟩ ⟨_, _, rfl, (H.pick (L' := []) (by repeat (first | exact Pick.nil | refine Pick.cons (by repeat (first | exact Rem.head | apply Rem.tail)) ?_))), hg_errR, hg_errS, hg_maxl, hg_pow10, e34⟩
     ·
      rw [if_neg hk38] at e34
      refine WR.stepE (v' := .bool true) (Ex.eql rfl rfl) (congrArg Value.bool (decide_eq_true hk36)) (Wn.none rfl) rfl rfl ?_
      refine WR.step (Ex.move rfl) (Wn.none rfl) rfl rfl ?_
      refine WR.step (Ex.fieldAddr Tryz.underlying26 rfl Tryz.sizeOf3 (by decide) rfl) (Wn.some rfl rfl rfl) rfl rfl ?_
      refine WR.step (Ex.load1 H rfl (by repeat (first | exact List.Mem.head _ | apply List.Mem.tail)) Tryz.isAgg3 (by rfl)) (Wn.some rfl rfl rfl) rfl rfl ?_
      refine WR.stepE (v' := .bool true) (Ex.eql rfl rfl) (congrArg Value.bool (decide_eq_true hk37)) (Wn.some rfl rfl rfl) rfl rfl ?_
      refine WR.step (Ex.pickT rfl rfl) (Wn.none rfl) rfl rfl ?_
      refine WR.step (Ex.move rfl) (Wn.none rfl) rfl rfl ?_
      refine WR.step (Ex.fieldAddr Tryz.underlying26 rfl Tryz.sizeOf3 (by decide) rfl) (Wn.some rfl rfl rfl) rfl rfl ?_
      refine WR.step (Ex.load1 H rfl (by repeat (first | exact List.Mem.head _ | apply List.Mem.tail)) Tryz.isAgg3 (by rfl)) (Wn.some rfl rfl rfl) rfl rfl ?_
      refine WR.stepE (v' := .bool false) (Ex.eql rfl rfl) (congrArg Value.bool (decide_eq_false hk38)) (Wn.some rfl rfl rfl) rfl rfl ?_
      refine WR.step (Ex.pickT rfl rfl) (Wn.none rfl) rfl rfl ?_
      refine WR.step (Ex.move rfl) (Wn.none rfl) rfl rfl ?_
      refine WR.skipN 3 rfl rfl ?_
      refine WR.step (Ex.pickF rfl rfl) (Wn.none rfl) rfl rfl ?_
      refine WR.step (Ex.move rfl) (Wn.none rfl) rfl rfl ?_
      refine WR.skipN 3 rfl rfl ?_
      refine WR.step (Ex.pickF rfl rfl) (Wn.none rfl) rfl rfl ?_
      refine WR.step (Ex.move rfl) (Wn.none rfl) rfl rfl ?_
      refine WR.skipG (b := false) rfl rfl rfl rfl rfl ?_
      refine WR.skipG (b := false) rfl rfl rfl rfl rfl ?_
      refine WR.step (Ex.pickF rfl rfl) (Wn.none rfl) rfl rfl ?_
      refine WR.step (Ex.move rfl) (Wn.none rfl) rfl rfl ?_
      refine WR.skipN 3 rfl rfl ?_
      refine WR.step (Ex.pickF rfl rfl) (Wn.none rfl) rfl rfl ?_
      refine WR.step (Ex.move rfl) (Wn.none rfl) rfl rfl ?_
      refine WR.skipG (b := false) rfl rfl rfl rfl rfl ?_
      refine WR.skipG (b := false) rfl rfl rfl rfl rfl ?_
      refine WR.step (Ex.pickF rfl rfl) (Wn.none rfl) rfl rfl ?_
      refine WR.step (Ex.move rfl) (Wn.none rfl) rfl rfl ?_
      refine WR.skipG (b := false) rfl rfl rfl rfl rfl ?_
      refine WR.skipG (b := false) rfl rfl rfl rfl rfl ?_
      refine WR.step (Ex.pickF rfl rfl) (Wn.none rfl) rfl rfl ?_
      refine WR.step (Ex.move rfl) (Wn.none rfl) rfl rfl ?_
      refine WR.skipN 3 rfl rfl ?_
      refine WR.step (Ex.pickF rfl rfl) (Wn.none rfl) rfl rfl ?_
      refine WR.step (Ex.assign rfl) (Wn.none rfl) rfl rfl ?_
      refine WR.nil ?_
      exact WQ.meetN [(0, _)] ⟨rfl, trivial⟩ ⟨_, _, rfl, (H.pick (L' := []) (by repeat (first | exact Pick.nil | refine Pick.cons (by repeat (first | exact Rem.head | apply Rem.tail)) ?_))), hg_errR, hg_errS, hg_maxl, hg_pow10, e34⟩
    ·
     rw [if_neg hk37] at e34
     refine WR.stepE (v' := .bool true) (Ex.eql rfl rfl) (congrArg Value.bool (decide_eq_true hk36)) (Wn.none rfl) rfl rfl ?_
     refine WR.step (Ex.move rfl) (Wn.none rfl) rfl rfl ?_
     refine WR.step (Ex.fieldAddr Tryz.underlying26 rfl Tryz.sizeOf3 (by decide) rfl) (Wn.some rfl rfl rfl) rfl rfl ?_
     refine WR.step (Ex.load1 H rfl (by repeat (first | exact List.Mem.head _ | apply List.Mem.tail)) Tryz.isAgg3 (by rfl)) (Wn.some rfl rfl rfl) rfl rfl ?_
     refine WR.stepE (v' := .bool false) (Ex.eql rfl rfl) (congrArg Value.bool (decide_eq_false hk37)) (Wn.some rfl rfl rfl) rfl rfl ?_
     refine WR.step (Ex.pickT rfl rfl) (Wn.none rfl) rfl rfl ?_
     refine WR.step (Ex.move rfl) (Wn.none rfl) rfl rfl ?_
     refine WR.skipN 3 rfl rfl ?_
     refine WR.step (Ex.pickF rfl rfl) (Wn.none rfl) rfl rfl ?_
     refine WR.step (Ex.move rfl) (Wn.none rfl) rfl rfl ?_
     refine WR.skipN 3 rfl rfl ?_
     refine WR.step (Ex.pickF rfl rfl) (Wn.none rfl) rfl rfl ?_
     refine WR.step (Ex.move rfl) (Wn.none rfl) rfl rfl ?_
     refine WR.skipN 3 rfl rfl ?_
     refine WR.step (Ex.pickF rfl rfl) (Wn.none rfl) rfl rfl ?_
     refine WR.step (Ex.move rfl) (Wn.none rfl) rfl rfl ?_
     refine WR.skipG (b := false) rfl rfl rfl rfl rfl ?_
     refine WR.skipG (b := false) rfl rfl rfl rfl rfl ?_
     refine WR.step (Ex.pickF rfl rfl) (Wn.none rfl) rfl rfl ?_
     refine WR.step (Ex.move rfl) (Wn.none rfl) rfl rfl ?_
     refine WR.skipN 3 rfl rfl ?_
     refine WR.step (Ex.pickF rfl rfl) (Wn.none rfl) rfl rfl ?_
     refine WR.step (Ex.move rfl) (Wn.none rfl) rfl rfl ?_
     refine WR.skipG (b := false) rfl rfl rfl rfl rfl ?_
     refine WR.skipG (b := false) rfl rfl rfl rfl rfl ?_
     refine WR.step (Ex.pickF rfl rfl) (Wn.none rfl) rfl rfl ?_
     refine WR.step (Ex.move rfl) (Wn.none rfl) rfl rfl ?_
     refine WR.skipG (b := false) rfl rfl rfl rfl rfl ?_
     refine WR.skipG (b := false) rfl rfl rfl rfl rfl ?_
     refine WR.step (Ex.pickF rfl rfl) (Wn.none rfl) rfl rfl ?_
     refine WR.step (Ex.move rfl) (Wn.none rfl) rfl rfl ?_
     refine WR.skipN 3 rfl rfl ?_
     refine WR.step (Ex.pickF rfl rfl) (Wn.none rfl) rfl rfl ?_
     refine WR.step (Ex.assign rfl) (Wn.none rfl) rfl rfl ?_
     refine WR.nil ?_
     exact WQ.meetN [(0, _)] ⟨rfl, trivial⟩ ⟨_, _, rfl, (H.pick (L' := []) (by repeat (first | exact Pick.nil | refine Pick.cons (by repeat (first | exact Rem.head | apply Rem.tail)) ?_))), hg_errR, hg_errS, hg_maxl, hg_pow10, e34⟩
   ·
    rw [if_neg hk36] at e34
    refine WR.stepE (v' := .bool false) (Ex.eql rfl rfl) (congrArg Value.bool (decide_eq_false hk36)) (Wn.none rfl) rfl rfl ?_
    refine WR.step (Ex.move rfl) (Wn.none rfl) rfl rfl ?_
    refine WR.skipN 3 rfl rfl ?_
    refine WR.step (Ex.pickF rfl rfl) (Wn.none rfl) rfl rfl ?_
    refine WR.step (Ex.move rfl) (Wn.none rfl) rfl rfl ?_
    refine WR.skipN 3 rfl rfl ?_
    refine WR.step (Ex.pickF rfl rfl) (Wn.none rfl) rfl rfl ?_
    refine WR.step (Ex.move rfl) (Wn.none rfl) rfl rfl ?_
    refine WR.skipN 3 rfl rfl ?_
    refine WR.step (Ex.pickF rfl rfl) (Wn.none rfl) rfl rfl ?_
    refine WR.step (Ex.move rfl) (Wn.none rfl) rfl rfl ?_
    refine WR.skipN 3 rfl rfl ?_
    refine WR.step (Ex.pickF rfl rfl) (Wn.none rfl) rfl rfl ?_
    refine WR.step (Ex.move rfl) (Wn.none rfl) rfl rfl ?_
    refine WR.skipG (b := false) rfl rfl rfl rfl rfl ?_
    refine WR.skipG (b := false) rfl rfl rfl rfl rfl ?_
    refine WR.step (Ex.pickF rfl rfl) (Wn.none rfl) rfl rfl ?_
    refine WR.step (Ex.move rfl) (Wn.none rfl) rfl rfl ?_
    refine WR.skipN 3 rfl rfl ?_
    refine WR.step (Ex.pickF rfl rfl) (Wn.none rfl) rfl rfl ?_
    refine WR.step (Ex.move rfl) (Wn.none rfl) rfl rfl ?_
    refine WR.skipG (b := false) rfl rfl rfl rfl rfl ?_
    refine WR.skipG (b := false) rfl rfl rfl rfl rfl ?_
    refine WR.step (Ex.pickF rfl rfl) (Wn.none rfl) rfl rfl ?_
    refine WR.step (Ex.move rfl) (Wn.none rfl) rfl rfl ?_
    refine WR.skipG (b := false) rfl rfl rfl rfl rfl ?_
    refine WR.skipG (b := false) rfl rfl rfl rfl rfl ?_
    refine WR.step (Ex.pickF rfl rfl) (Wn.none rfl) rfl rfl ?_
    refine WR.step (Ex.move rfl) (Wn.none rfl) rfl rfl ?_
    refine WR.skipN 3 rfl rfl ?_
    refine WR.step (Ex.pickF rfl rfl) (Wn.none rfl) rfl rfl ?_
    refine WR.step (Ex.assign rfl) (Wn.none rfl) rfl rfl ?_
    refine WR.nil ?_
    exact WQ.meetN [(0, _)] ⟨rfl, trivial⟩ ⟨_, _, rfl, (H.pick (L' := []) (by repeat (first | exact Pick.nil | refine Pick.cons (by repeat (first | exact Rem.head | apply Rem.tail)) ?_))), hg_errR, hg_errS, hg_maxl, hg_pow10, e34⟩
  ·
   rintro e w ⟨b35, M, rfl, H, hg_errR, hg_errS, hg_maxl, hg_pow10, q45⟩
   obtain rfl := Option.some.inj q45
   refine WQ.then ?_
   refine WC.ret ?_
   (repeat (first | refine WQ.thenRet ?_ | refine WQ.inBlockRet ?_ | refine WQ.cutRet ?_ | refine WQ.scRet ?_))
   obtain rfl := Option.some.inj h
   exact WQ.ret1 rfl rfl H.ext rfl
end Go.Proofs.YtlopnlagpdchiaaGreatDoor
