/-
  Dates: contracts of the program's functions over their plain forms, written by wip/tools/ext.py.
-/
import Derived.Test.YtlopnlagpdchiaaDoorBct3
import Derived.KernelRfl
set_option maxRecDepth 100000
set_option linter.unusedVariables false
set_option linter.unusedSimpArgs false
namespace Go.Proofs.YtlopnlagpdchiaaDoor
open Go Go.RowKit Go.Ph Go.Ph.Pl Go.Ph.Pf
theorem R_In_ct {p0 : Int} {p1 : Int} {p2 : Int} {r : Bool} (h : R_In p0 p1 p2 = some r) : Ct Tryd.prog 7 [I p0, I p1, I p2] (fun M => True) (fun v M => v = Value.bool r) := by
  refine Ct.of Tryd.func7 (enters Tryd.func7 (by kernel_rfl) rfl) rfl rfl rfl ?_
  intro w0 M0 H hp
  unfold R_In at h
  refine WC.seq ?_
  refine WC.region ?_
  refine WR.step (Ex.assign rfl) (Wn.none rfl) rfl rfl ?_
  refine WR.nil ?_
  refine WQ.then ?_
  refine WC.seq ?_
  obtain ⟨o1, e2, h⟩ := bnd h
  refine WC.cutX (fun e w => ∃ (b3 : Bool) (M : Mem), e = [(6, Value.bool b3)] ∧ St w0 M0 M [] w ∧ some b3 = some o1) [] ?_ ?_ (trivial)
  ·
   refine WC.region ?_
   refine WR.step (Ex.move rfl) (Wn.none rfl) rfl rfl ?_
   refine WR.step (Ex.move rfl) (Wn.none rfl) rfl rfl ?_
   by_cases hk4 : p1 ≤ p0
   ·
    rw [if_pos hk4] at e2
    refine WR.stepE (v' := .bool true) (Ex.geq rfl rfl) (congrArg Value.bool (decide_eq_true hk4)) (Wn.none rfl) rfl rfl ?_
    refine WR.step (Ex.move rfl) (Wn.none rfl) rfl rfl ?_
    refine WR.step (Ex.move rfl) (Wn.some rfl rfl rfl) rfl rfl ?_
    refine WR.step (Ex.move rfl) (Wn.some rfl rfl rfl) rfl rfl ?_
    refine WR.step (Ex.leq rfl rfl) (Wn.some rfl rfl rfl) rfl rfl ?_
    refine WR.step (Ex.pickT rfl rfl) (Wn.none rfl) rfl rfl ?_
    refine WR.step (Ex.assign rfl) (Wn.none rfl) rfl rfl ?_
    refine WR.nil ?_
    exact WQ.meetN [(6, _)] ⟨rfl, trivial⟩ ⟨_, _, rfl, H, e2⟩
   ·
    rw [if_neg hk4] at e2
    refine WR.stepE (v' := .bool false) (Ex.geq rfl rfl) (congrArg Value.bool (decide_eq_false hk4)) (Wn.none rfl) rfl rfl ?_
    refine WR.step (Ex.move rfl) (Wn.none rfl) rfl rfl ?_
    refine WR.skipN 3 rfl rfl ?_
    refine WR.step (Ex.pickF rfl rfl) (Wn.none rfl) rfl rfl ?_
    refine WR.step (Ex.assign rfl) (Wn.none rfl) rfl rfl ?_
    refine WR.nil ?_
    exact WQ.meetN [(6, _)] ⟨rfl, trivial⟩ ⟨_, _, rfl, H, e2⟩
  ·
   rintro e w ⟨b3, M, rfl, H, q5⟩
   obtain rfl := Option.some.inj q5
   refine WQ.then ?_
   refine WC.ret ?_
   (repeat (first | refine WQ.thenRet ?_ | refine WQ.inBlockRet ?_ | refine WQ.cutRet ?_ | refine WQ.scRet ?_))
   obtain rfl := Option.some.inj h
   exact WQ.ret1 rfl rfl H.ext rfl
theorem L_DatesRoundTrip_ct {p0 : (Int × Int × Int × Int × Int × Int × Int)} {r : Bool} (h : L_DatesRoundTrip p0 = some r) : Ct Tryd.prog 3 [Value.agg #[I p0.1, I p0.2.1, I p0.2.2.1, I p0.2.2.2.1, I p0.2.2.2.2.1, I p0.2.2.2.2.2.1, I p0.2.2.2.2.2.2]] (fun M => GlF (fun w => ∃ tp p, w.var? Tryd.prog "strconv.ErrRange" = some #[.iface tp p]) M ∧ GlF (fun w => ∃ tp p, w.var? Tryd.prog "strconv.ErrSyntax" = some #[.iface tp p]) M ∧ GlF (fun w => ∃ m, w.cell? ⟨0, 0, none⟩ = some (.int .i64 m)) M ∧ GlF (fun w => Lib.TabIs Tryd.prog w "internal/strconv.uint64pow10" .u64 Lib.pow10Tab) M) (fun v M => v = Value.bool r) := by
  refine Ct.of Tryd.func3 (enters Tryd.func3 (by kernel_rfl) rfl) rfl rfl rfl ?_
  intro w0 M0 H hp
  obtain ⟨hg_errR, hg_errS, hg_maxl, hg_pow10⟩ := hp
  unfold L_DatesRoundTrip at h
  refine WC.seq ?_
  refine WC.region ?_
  refine WR.box [_, _, _, _, _, _, _] H rfl rfl (Wn.none rfl) rfl ?_
  intro b1 w H
  refine WR.step (Ex.assign rfl) (Wn.none rfl) rfl rfl ?_
  refine WR.nil ?_
  refine WQ.then ?_
  refine WC.seq ?_
  refine WC.seq ?_
  obtain ⟨b1, hx2, h⟩ := bnd h
  refine WC.region ?_
  refine WR.call H (L_datesExample_ct hx2) rfl ⟨hg_errR, hg_errS, hg_maxl, hg_pow10⟩ (Wn.none rfl) rfl ?_
  intro v7 M w H hle hR
  replace hg_errR := hg_errR.mono hle
  replace hg_errS := hg_errS.mono hle
  replace hg_maxl := hg_maxl.mono hle
  replace hg_pow10 := hg_pow10.mono hle
  obtain rfl := hR
  refine WR.step (Ex.not rfl) (Wn.none rfl) rfl rfl ?_
  refine WR.nil ?_
  refine WQ.then ?_
  refine WC.condB rfl (fun hk3 => ?_) (fun hk3 => ?_)
  ·
   replace hk3 : b1 = false := by simpa using hk3
   subst hk3
   rw [if_neg Bool.false_ne_true] at h
   refine WC.seq ?_
   refine WC.region ?_
   refine WR.step (Ex.assign rfl) (Wn.none rfl) rfl rfl ?_
   refine WR.nil ?_
   refine WQ.then ?_
   refine WC.ret ?_
   (repeat (first | refine WQ.thenRet ?_ | refine WQ.inBlockRet ?_ | refine WQ.cutRet ?_ | refine WQ.scRet ?_))
   obtain rfl := Option.some.inj h
   exact WQ.ret1 rfl rfl H.ext rfl
  ·
   replace hk3 : b1 = true := by simpa using hk3
   subst hk3
   rw [if_pos rfl] at h
   refine WC.skip ?_
   refine WQ.then ?_
   refine WC.seq ?_
   obtain ⟨⟨n4, ⟨n5, n6⟩⟩, hx7, h⟩ := bnd h
   try dsimp only at h
   refine WC.region ?_
   refine WR.step (Ex.loadAgg H rfl (by repeat (first | exact List.Mem.head _ | apply List.Mem.tail)) Tryd.isAgg23 Tryd.sizeOf23 (by rfl)) (Wn.none rfl) rfl rfl ?_
   refine WR.call H (dates_Instant_ct hx7) rfl trivial (Wn.none rfl) rfl ?_
   intro v11 M w H hle hR
   replace hg_errR := hg_errR.mono hle
   replace hg_errS := hg_errS.mono hle
   replace hg_maxl := hg_maxl.mono hle
   replace hg_pow10 := hg_pow10.mono hle
   try dsimp only at hR
   obtain rfl := hR
   refine WR.step (Ex.move rfl) (Wn.none rfl) rfl rfl ?_
   refine WR.step (Ex.extract rfl rfl) (Wn.none rfl) rfl rfl ?_
   refine WR.step (Ex.extract rfl rfl) (Wn.none rfl) rfl rfl ?_
   refine WR.alloc [_, _] H Tryd.zeroValue26 rfl (Wn.none rfl) rfl ?_
   intro b4 w H
   refine WR.step (Ex.assign rfl) (Wn.none rfl) rfl rfl ?_
   refine WR.store [_, _] H rfl rfl rfl (by repeat (first | exact Upd.head | apply Upd.tail)) Tryd.sizeOf26 rfl (by rfl) (by rfl) (Wn.none rfl) ?_
   intro w H
   refine WR.nil ?_
   refine WQ.then ?_
   refine WC.seq ?_
   refine WC.seq ?_
   refine WC.region ?_
   refine WR.step (Ex.fieldAddr Tryd.underlying26 rfl Tryd.sizeOf3 (by decide) rfl) (Wn.none rfl) rfl rfl ?_
   refine WR.step (Ex.load1 H rfl (by repeat (first | exact List.Mem.head _ | apply List.Mem.tail)) Tryd.isAgg3 (by rfl)) (Wn.none rfl) rfl rfl ?_
   refine WR.step (Ex.neqC rfl rfl) (Wn.none rfl) rfl rfl ?_
   refine WR.nil ?_
   refine WQ.then ?_
   refine WC.condB rfl (fun hk8 => ?_) (fun hk8 => ?_)
   ·
    replace hk8 : ¬ (n5 = (0 : Int)) := of_not_decide hk8
    rw [if_neg hk8] at h
    refine WC.seq ?_
    refine WC.region ?_
    refine WR.step (Ex.move rfl) (Wn.none rfl) rfl rfl ?_
    refine WR.step (Ex.eql rfl rfl) (Wn.none rfl) rfl rfl ?_
    refine WR.step (Ex.assign rfl) (Wn.none rfl) rfl rfl ?_
    refine WR.nil ?_
    refine WQ.then ?_
    refine WC.ret ?_
    (repeat (first | refine WQ.thenRet ?_ | refine WQ.inBlockRet ?_ | refine WQ.cutRet ?_ | refine WQ.scRet ?_))
    obtain rfl := Option.some.inj h
    exact WQ.ret1 rfl rfl H.ext rfl
   ·
    replace hk8 : n5 = (0 : Int) := of_not_decide' hk8
    rw [if_pos hk8] at h
    refine WC.skip ?_
    refine WQ.then ?_
    refine WC.seq ?_
    refine WC.seq ?_
    obtain ⟨b9, hx10, h⟩ := bnd h
    refine WC.region ?_
    refine WR.step (Ex.move rfl) (Wn.none rfl) rfl rfl ?_
    refine WR.call H (R_In_ct hx10) rfl trivial (Wn.none rfl) rfl ?_
    intro v20 M w H hle hR
    replace hg_errR := hg_errR.mono hle
    replace hg_errS := hg_errS.mono hle
    replace hg_maxl := hg_maxl.mono hle
    replace hg_pow10 := hg_pow10.mono hle
    obtain rfl := hR
    refine WR.step (Ex.not rfl) (Wn.none rfl) rfl rfl ?_
    refine WR.nil ?_
    refine WQ.then ?_
    refine WC.condB rfl (fun hk11 => ?_) (fun hk11 => ?_)
    ·
     replace hk11 : b9 = false := by simpa using hk11
     subst hk11
     rw [if_neg Bool.false_ne_true] at h
     refine WC.seq ?_
     refine WC.region ?_
     refine WR.step (Ex.assign rfl) (Wn.none rfl) rfl rfl ?_
     refine WR.nil ?_
     refine WQ.then ?_
     refine WC.ret ?_
     (repeat (first | refine WQ.thenRet ?_ | refine WQ.inBlockRet ?_ | refine WQ.cutRet ?_ | refine WQ.scRet ?_))
     obtain rfl := Option.some.inj h
     exact WQ.ret1 rfl rfl H.ext rfl
    ·
     replace hk11 : b9 = true := by simpa using hk11
     subst hk11
     rw [if_pos rfl] at h
     refine WC.skip ?_
     refine WQ.then ?_
     refine WC.seq ?_
     obtain ⟨⟨⟨n12, n13, n14, n15, n16, n17, n18⟩, ⟨n19, n20⟩⟩, hx21, h⟩ := bnd h
     try dsimp only at h
     refine WC.region ?_
     refine WR.step (Ex.move rfl) (Wn.none rfl) rfl rfl ?_
     refine WR.step (Ex.fieldAddr Tryd.underlying23 rfl Tryd.sizeOf3 (by decide) rfl) (Wn.none rfl) rfl rfl ?_
     refine WR.step (Ex.load1 H rfl (by repeat (first | exact List.Mem.head _ | apply List.Mem.tail)) Tryd.isAgg3 (by rfl)) (Wn.none rfl) rfl rfl ?_
     refine WR.call H (dates_Civil_ct hx21) rfl trivial (Wn.none rfl) rfl ?_
     intro v26 M w H hle hR
     replace hg_errR := hg_errR.mono hle
     replace hg_errS := hg_errS.mono hle
     replace hg_maxl := hg_maxl.mono hle
     replace hg_pow10 := hg_pow10.mono hle
     try dsimp only at hR
     obtain rfl := hR
     refine WR.step (Ex.move rfl) (Wn.none rfl) rfl rfl ?_
     refine WR.step (Ex.extract rfl rfl) (Wn.none rfl) rfl rfl ?_
     refine WR.step (Ex.extract rfl rfl) (Wn.none rfl) rfl rfl ?_
     refine WR.alloc [_, _, _, _, _, _, _] H Tryd.zeroValue23 rfl (Wn.none rfl) rfl ?_
     intro b5 w H
     refine WR.alloc [_, _] H Tryd.zeroValue26 rfl (Wn.none rfl) rfl ?_
     intro b6 w H
     refine WR.store [_, _, _, _, _, _, _] H rfl rfl rfl (by repeat (first | exact Upd.head | apply Upd.tail)) Tryd.sizeOf23 rfl (by rfl) (by rfl) (Wn.none rfl) ?_
     intro w H
     refine WR.store [_, _] H rfl rfl rfl (by repeat (first | exact Upd.head | apply Upd.tail)) Tryd.sizeOf26 rfl (by rfl) (by rfl) (Wn.none rfl) ?_
     intro w H
     refine WR.nil ?_
     refine WQ.then ?_
     refine WC.seq ?_
     obtain ⟨o22, e23, h⟩ := bnd h
     refine WC.cutX (fun e w => ∃ (b24 : Bool) (M : Mem), e = [(2, Value.bool b24)] ∧ St w0 M0 M [] w ∧ GlF (fun w => ∃ tp p, w.var? Tryd.prog "strconv.ErrRange" = some #[.iface tp p]) M ∧ GlF (fun w => ∃ tp p, w.var? Tryd.prog "strconv.ErrSyntax" = some #[.iface tp p]) M ∧ GlF (fun w => ∃ m, w.cell? ⟨0, 0, none⟩ = some (.int .i64 m)) M ∧ GlF (fun w => Lib.TabIs Tryd.prog w "internal/strconv.uint64pow10" .u64 Lib.pow10Tab) M ∧ some b24 = some o22) [] ?_ ?_ (trivial)
     ·
      refine WC.region ?_
      refine WR.step (Ex.fieldAddr Tryd.underlying26 rfl Tryd.sizeOf3 (by decide) rfl) (Wn.none rfl) rfl rfl ?_
      refine WR.step (Ex.load1 H rfl (by repeat (first | exact List.Mem.head _ | apply List.Mem.tail)) Tryd.isAgg3 (by rfl)) (Wn.none rfl) rfl rfl ?_
      by_cases hk25 : n19 = (0 : Int)
      ·
       rw [if_pos hk25] at e23
       refine WR.stepE (v' := .bool true) (Ex.eql rfl rfl) (congrArg Value.bool (decide_eq_true hk25)) (Wn.none rfl) rfl rfl ?_
       refine WR.step (Ex.move rfl) (Wn.none rfl) rfl rfl ?_
       refine WR.step (Ex.loadAgg H rfl (by repeat (first | exact List.Mem.head _ | apply List.Mem.tail)) Tryd.isAgg23 Tryd.sizeOf23 (by rfl)) (Wn.some rfl rfl rfl) rfl rfl ?_
       refine WR.step (Ex.loadAgg H rfl (by repeat (first | exact List.Mem.head _ | apply List.Mem.tail)) Tryd.isAgg23 Tryd.sizeOf23 (by rfl)) (Wn.some rfl rfl rfl) rfl rfl ?_
       refine WR.step (Ex.eqlAgg rfl rfl (by kernel_rfl) (xeq23 n12 p0.1 n13 p0.2.1 n14 p0.2.2.1 n15 p0.2.2.2.1 n16 p0.2.2.2.2.1 n17 p0.2.2.2.2.2.1 n18 p0.2.2.2.2.2.2)) (Wn.some rfl rfl rfl) rfl rfl ?_
       refine WR.step (Ex.pickT rfl rfl) (Wn.none rfl) rfl rfl ?_
       refine WR.step (Ex.assign rfl) (Wn.none rfl) rfl rfl ?_
       refine WR.nil ?_
       exact WQ.meetN [(2, _)] ⟨rfl, trivial⟩ ⟨_, _, rfl, (H.pick (L' := []) (by repeat (first | exact Pick.nil | refine Pick.cons (by repeat (first | exact Rem.head | apply Rem.tail)) ?_))), hg_errR, hg_errS, hg_maxl, hg_pow10, e23⟩
      ·
       rw [if_neg hk25] at e23
       refine WR.stepE (v' := .bool false) (Ex.eql rfl rfl) (congrArg Value.bool (decide_eq_false hk25)) (Wn.none rfl) rfl rfl ?_
       refine WR.step (Ex.move rfl) (Wn.none rfl) rfl rfl ?_
       refine WR.skipN 3 rfl rfl ?_
       refine WR.step (Ex.pickF rfl rfl) (Wn.none rfl) rfl rfl ?_
       refine WR.step (Ex.assign rfl) (Wn.none rfl) rfl rfl ?_
       refine WR.nil ?_
       exact WQ.meetN [(2, _)] ⟨rfl, trivial⟩ ⟨_, _, rfl, (H.pick (L' := []) (by repeat (first | exact Pick.nil | refine Pick.cons (by repeat (first | exact Rem.head | apply Rem.tail)) ?_))), hg_errR, hg_errS, hg_maxl, hg_pow10, e23⟩
     ·
      rintro e w ⟨b24, M, rfl, H, hg_errR, hg_errS, hg_maxl, hg_pow10, q26⟩
      obtain rfl := Option.some.inj q26
      refine WQ.then ?_
      refine WC.ret ?_
      (repeat (first | refine WQ.thenRet ?_ | refine WQ.inBlockRet ?_ | refine WQ.cutRet ?_ | refine WQ.scRet ?_))
      obtain rfl := Option.some.inj h
      exact WQ.ret1 rfl rfl H.ext rfl
end Go.Proofs.YtlopnlagpdchiaaDoor
