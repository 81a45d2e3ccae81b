/-
  Fold: contracts of the program's functions over their plain forms, written by wip/tools/ext.py.
-/
import Derived.Test.YtolmifddbjdepaaDoorFct2
import Derived.KernelRfl
set_option linter.unusedVariables false
set_option linter.unusedSimpArgs false
namespace Go.Proofs.YtolmifddbjdepaaDoor
open Go Go.RowKit Go.Ph Go.Ph.Pl Go.Ph.Pf Go.Ph.Chs
theorem L_UnfoldMatchesSpec_ct {p0 : List (List UInt8)} {vp0 : Value} {r : Bool} (h : L_UnfoldMatchesSpec p0 = some r) : Ct Tryd.prog 11 [vp0] (fun M => Sl M encS vp0 p0) (fun v M => v = Value.bool r) := by
  refine Ct.of Tryd.func11 (enters Tryd.func11 (by kernel_rfl) rfl) rfl rfl rfl ?_
  intro w0 M0 H hp
  have hp0 := hp
  unfold L_UnfoldMatchesSpec at h
  refine WC.seq ?_
  refine WC.region ?_
  refine WR.step (Ex.assign rfl) (Wn.none rfl) rfl rfl ?_
  refine WR.nil ?_
  refine WQ.then ?_
  refine WC.seq ?_
  refine WC.seq ?_
  obtain ⟨b1, hx2, h⟩ := bnd h
  refine WC.region ?_
  refine WR.call H (L_foldExample_ct hx2) rfl trivial (Wn.none rfl) rfl ?_
  intro v12 M w H hle hR
  replace hp0 := hp0.mono hle
  obtain rfl := hR
  refine WR.step (Ex.not rfl) (Wn.none rfl) rfl rfl ?_
  refine WR.nil ?_
  refine WQ.then ?_
  refine WC.condB rfl (fun hk3 => ?_) (fun hk3 => ?_)
  ·
    replace hk3 : b1 = false := by simpa using hk3
    subst hk3
    rw [if_neg Bool.false_ne_true] at h
    refine WC.seq ?_
    refine WC.region ?_
    refine WR.step (Ex.assign rfl) (Wn.none rfl) rfl rfl ?_
    refine WR.nil ?_
    refine WQ.then ?_
    refine WC.ret ?_
    (repeat (first | refine WQ.thenRet ?_ | refine WQ.inBlockRet ?_ | refine WQ.cutRet ?_ | refine WQ.scRet ?_))
    obtain rfl := Option.some.inj h
    exact WQ.ret1 rfl rfl H.ext rfl
  ·
    replace hk3 : b1 = true := by simpa using hk3
    subst hk3
    rw [if_pos rfl] at h
    refine WC.skip ?_
    refine WQ.then ?_
    refine WC.seq ?_
    obtain ⟨⟨s4, s5, ⟨n6, n7⟩⟩, hx8, h⟩ := bnd h
    try dsimp only at h
    refine WC.region ?_
    refine WR.step (Ex.move rfl) (Wn.none rfl) rfl rfl ?_
    refine WR.call H (fold_Unfold_ct hx8) rfl (hp0) (Wn.none rfl) rfl ?_
    intro v16 M w H hle hR
    replace hp0 := hp0.mono hle
    try dsimp only at hR
    obtain rfl := hR
    refine WR.step (Ex.move rfl) (Wn.none rfl) rfl rfl ?_
    refine WR.step (Ex.extract rfl rfl) (Wn.none rfl) rfl rfl ?_
    refine WR.step (Ex.extract rfl rfl) (Wn.none rfl) rfl rfl ?_
    refine WR.step (Ex.extract rfl rfl) (Wn.none rfl) rfl rfl ?_
    refine WR.alloc [_, _] H Tryd.zeroValue25 rfl (Wn.none rfl) rfl ?_
    intro b5 w H
    refine WR.step (Ex.assign rfl) (Wn.none rfl) rfl rfl ?_
    refine WR.step (Ex.assign rfl) (Wn.none rfl) rfl rfl ?_
    refine WR.store [_, _] H rfl rfl rfl (by repeat (first | exact Upd.head | apply Upd.tail)) Tryd.sizeOf25 rfl (by rfl) (by rfl) (Wn.none rfl) ?_
    intro w H
    refine WR.nil ?_
    refine WQ.then ?_
    refine WC.seq ?_
    refine WC.seq ?_
    refine WC.region ?_
    refine WR.step (Ex.move rfl) (Wn.none rfl) rfl rfl ?_
    refine WR.step (Ex.lenSl Tryd.underlying35 hp0 rfl) (Wn.none rfl) rfl rfl ?_
    refine WR.step (Ex.gtr rfl rfl) (Wn.none rfl) rfl rfl ?_
    refine WR.nil ?_
    refine WQ.then ?_
    refine WC.condB rfl (fun hk9 => ?_) (fun hk9 => ?_)
    ·
      replace hk9 : (300 : Int) < (p0.length : Int) := of_decide_eq_true hk9
      rw [if_pos hk9] at h
      refine WC.seq ?_
      obtain ⟨o10, e11, h⟩ := bnd h
      refine WC.cutX (fun e w => ∃ (b12 : Bool) (M : Mem), e = [(2, Value.bool b12)] ∧ St w0 M0 M [] w ∧ some b12 = some o10) [] ?_ ?_ (trivial)
      ·
        obtain ⟨⟨n13, n14⟩, hx15, e11⟩ := bnd e11
        try dsimp only at e11
        by_cases hk16 : n6 = n13 ∧ n7 = n14
        ·
          rw [if_pos hk16] at e11
          by_cases hk17 : s4 = []
          ·
            rw [if_pos hk17] at e11
            refine WC.draw (m := 12) rfl rfl H ?_
            intro w H
            refine WA.two (i := 0) (j := 1) (by kernel_rfl) rfl rfl ?_ ?_
            ·
              refine WR.step (Ex.loadAgg H rfl (by repeat (first | exact List.Mem.head _ | apply List.Mem.tail)) Tryd.isAgg25 Tryd.sizeOf25 (by rfl)) (Wn.none rfl) rfl rfl ?_
              refine WR.nil (WQ.any ?_)
              refine WA.one (i := 1) (by kernel_rfl) rfl ?_
              refine WR.call H (R_At_ct hx15) rfl trivial (Wn.none rfl) rfl ?_
              intro v24 M w H hle hR
              replace hp0 := hp0.mono hle
              try dsimp only at hR
              obtain rfl := hR
              refine WR.nil (WQ.any ?_)
              refine WA.one (i := 2) (by kernel_rfl) rfl ?_
              refine WR.stepE (v' := .bool true) (Ex.eqlAgg rfl rfl (by kernel_rfl) (xeq25 n6 n13 n7 n14)) (congrArg Value.bool (decide_eq_true hk16)) (Wn.none rfl) rfl rfl ?_
              refine WR.nil (WQ.any ?_)
              refine WA.one (i := 3) (by kernel_rfl) rfl ?_
              refine WR.step (Ex.move rfl) (Wn.none rfl) rfl rfl ?_
              refine WR.nil (WQ.any ?_)
              refine WA.one (i := 4) (by kernel_rfl) rfl ?_
              refine WR.step (Ex.move rfl) (Wn.some rfl rfl rfl) rfl rfl ?_
              refine WR.nil (WQ.any ?_)
              refine WA.one (i := 5) (by kernel_rfl) rfl ?_
              refine WR.stepE (v' := .bool true) (Ex.strEql rfl rfl) (congrArg Value.bool (decide_eq_true hk17)) (Wn.some rfl rfl rfl) rfl rfl ?_
              refine WR.nil (WQ.any ?_)
              refine WA.one (i := 6) (by kernel_rfl) rfl ?_
              refine WR.step (Ex.pickT rfl rfl) (Wn.none rfl) rfl rfl ?_
              refine WR.nil (WQ.any ?_)
              refine WA.one (i := 7) (by kernel_rfl) rfl ?_
              refine WR.step (Ex.move rfl) (Wn.none rfl) rfl rfl ?_
              refine WR.nil (WQ.any ?_)
              refine WA.one (i := 8) (by kernel_rfl) rfl ?_
              refine WR.step (Ex.move rfl) (Wn.some rfl rfl rfl) rfl rfl ?_
              refine WR.nil (WQ.any ?_)
              refine WA.one (i := 9) (by kernel_rfl) rfl ?_
              refine WR.step (Ex.strEql rfl rfl) (Wn.some rfl rfl rfl) rfl rfl ?_
              refine WR.nil (WQ.any ?_)
              refine WA.one (i := 10) (by kernel_rfl) rfl ?_
              refine WR.step (Ex.pickT rfl rfl) (Wn.none rfl) rfl rfl ?_
              refine WR.nil (WQ.any ?_)
              refine WA.one (i := 11) (by kernel_rfl) rfl ?_
              refine WR.step (Ex.assign rfl) (Wn.none rfl) rfl rfl ?_
              refine WR.nil (WQ.any ?_)
              refine WA.done (by kernel_rfl) ?_
              exact WQ.meetN [(2, _)] ⟨rfl, trivial⟩ ⟨_, _, rfl, (H.pick (L' := []) (by repeat (first | exact Pick.nil | refine Pick.cons (by repeat (first | exact Rem.head | apply Rem.tail)) ?_))), e11⟩
            ·
              refine WR.call H (R_At_ct hx15) rfl trivial (Wn.none rfl) rfl ?_
              intro v24 M w H hle hR
              replace hp0 := hp0.mono hle
              try dsimp only at hR
              obtain rfl := hR
              refine WR.nil (WQ.any ?_)
              refine WA.one (i := 0) (by kernel_rfl) rfl ?_
              refine WR.step (Ex.loadAgg H rfl (by repeat (first | exact List.Mem.head _ | apply List.Mem.tail)) Tryd.isAgg25 Tryd.sizeOf25 (by rfl)) (Wn.none rfl) rfl rfl ?_
              refine WR.nil (WQ.any ?_)
              refine WA.one (i := 2) (by kernel_rfl) rfl ?_
              refine WR.stepE (v' := .bool true) (Ex.eqlAgg rfl rfl (by kernel_rfl) (xeq25 n6 n13 n7 n14)) (congrArg Value.bool (decide_eq_true hk16)) (Wn.none rfl) rfl rfl ?_
              refine WR.nil (WQ.any ?_)
              refine WA.one (i := 3) (by kernel_rfl) rfl ?_
              refine WR.step (Ex.move rfl) (Wn.none rfl) rfl rfl ?_
              refine WR.nil (WQ.any ?_)
              refine WA.one (i := 4) (by kernel_rfl) rfl ?_
              refine WR.step (Ex.move rfl) (Wn.some rfl rfl rfl) rfl rfl ?_
              refine WR.nil (WQ.any ?_)
              refine WA.one (i := 5) (by kernel_rfl) rfl ?_
              refine WR.stepE (v' := .bool true) (Ex.strEql rfl rfl) (congrArg Value.bool (decide_eq_true hk17)) (Wn.some rfl rfl rfl) rfl rfl ?_
              refine WR.nil (WQ.any ?_)
              refine WA.one (i := 6) (by kernel_rfl) rfl ?_
              refine WR.step (Ex.pickT rfl rfl) (Wn.none rfl) rfl rfl ?_
              refine WR.nil (WQ.any ?_)
              refine WA.one (i := 7) (by kernel_rfl) rfl ?_
              refine WR.step (Ex.move rfl) (Wn.none rfl) rfl rfl ?_
              refine WR.nil (WQ.any ?_)
              refine WA.one (i := 8) (by kernel_rfl) rfl ?_
              refine WR.step (Ex.move rfl) (Wn.some rfl rfl rfl) rfl rfl ?_
              refine WR.nil (WQ.any ?_)
              refine WA.one (i := 9) (by kernel_rfl) rfl ?_
              refine WR.step (Ex.strEql rfl rfl) (Wn.some rfl rfl rfl) rfl rfl ?_
              refine WR.nil (WQ.any ?_)
              refine WA.one (i := 10) (by kernel_rfl) rfl ?_
              refine WR.step (Ex.pickT rfl rfl) (Wn.none rfl) rfl rfl ?_
              refine WR.nil (WQ.any ?_)
              refine WA.one (i := 11) (by kernel_rfl) rfl ?_
              refine WR.step (Ex.assign rfl) (Wn.none rfl) rfl rfl ?_
              refine WR.nil (WQ.any ?_)
              refine WA.done (by kernel_rfl) ?_
              exact WQ.meetN [(2, _)] ⟨rfl, trivial⟩ ⟨_, _, rfl, (H.pick (L' := []) (by repeat (first | exact Pick.nil | refine Pick.cons (by repeat (first | exact Rem.head | apply Rem.tail)) ?_))), e11⟩
          ·
            rw [if_neg hk17] at e11
            refine WC.draw (m := 12) rfl rfl H ?_
            intro w H
            refine WA.two (i := 0) (j := 1) (by kernel_rfl) rfl rfl ?_ ?_
            ·
              refine WR.step (Ex.loadAgg H rfl (by repeat (first | exact List.Mem.head _ | apply List.Mem.tail)) Tryd.isAgg25 Tryd.sizeOf25 (by rfl)) (Wn.none rfl) rfl rfl ?_
              refine WR.nil (WQ.any ?_)
              refine WA.one (i := 1) (by kernel_rfl) rfl ?_
              refine WR.call H (R_At_ct hx15) rfl trivial (Wn.none rfl) rfl ?_
              intro v24 M w H hle hR
              replace hp0 := hp0.mono hle
              try dsimp only at hR
              obtain rfl := hR
              refine WR.nil (WQ.any ?_)
              refine WA.one (i := 2) (by kernel_rfl) rfl ?_
              refine WR.stepE (v' := .bool true) (Ex.eqlAgg rfl rfl (by kernel_rfl) (xeq25 n6 n13 n7 n14)) (congrArg Value.bool (decide_eq_true hk16)) (Wn.none rfl) rfl rfl ?_
              refine WR.nil (WQ.any ?_)
              refine WA.one (i := 3) (by kernel_rfl) rfl ?_
              refine WR.step (Ex.move rfl) (Wn.none rfl) rfl rfl ?_
              refine WR.nil (WQ.any ?_)
              refine WA.one (i := 4) (by kernel_rfl) rfl ?_
              refine WR.step (Ex.move rfl) (Wn.some rfl rfl rfl) rfl rfl ?_
              refine WR.nil (WQ.any ?_)
              refine WA.one (i := 5) (by kernel_rfl) rfl ?_
              refine WR.stepE (v' := .bool false) (Ex.strEql rfl rfl) (congrArg Value.bool (decide_eq_false hk17)) (Wn.some rfl rfl rfl) rfl rfl ?_
              refine WR.nil (WQ.any ?_)
              refine WA.one (i := 6) (by kernel_rfl) rfl ?_
              refine WR.step (Ex.pickT rfl rfl) (Wn.none rfl) rfl rfl ?_
              refine WR.nil (WQ.any ?_)
              refine WA.one (i := 7) (by kernel_rfl) rfl ?_
              refine WR.step (Ex.move rfl) (Wn.none rfl) rfl rfl ?_
              refine WR.nil (WQ.any ?_)
              refine WA.one (i := 8) (by kernel_rfl) rfl ?_
              refine WR.skipG (b := false) rfl rfl rfl rfl rfl ?_
              refine WR.nil (WQ.any ?_)
              refine WA.one (i := 9) (by kernel_rfl) rfl ?_
              refine WR.skipG (b := false) rfl rfl rfl rfl rfl ?_
              refine WR.nil (WQ.any ?_)
              refine WA.one (i := 10) (by kernel_rfl) rfl ?_
              refine WR.step (Ex.pickF rfl rfl) (Wn.none rfl) rfl rfl ?_
              refine WR.nil (WQ.any ?_)
              refine WA.one (i := 11) (by kernel_rfl) rfl ?_
              refine WR.step (Ex.assign rfl) (Wn.none rfl) rfl rfl ?_
              refine WR.nil (WQ.any ?_)
              refine WA.done (by kernel_rfl) ?_
              exact WQ.meetN [(2, _)] ⟨rfl, trivial⟩ ⟨_, _, rfl, (H.pick (L' := []) (by repeat (first | exact Pick.nil | refine Pick.cons (by repeat (first | exact Rem.head | apply Rem.tail)) ?_))), e11⟩
            ·
              refine WR.call H (R_At_ct hx15) rfl trivial (Wn.none rfl) rfl ?_
              intro v24 M w H hle hR
              replace hp0 := hp0.mono hle
              try dsimp only at hR
              obtain rfl := hR
              refine WR.nil (WQ.any ?_)
              refine WA.one (i := 0) (by kernel_rfl) rfl ?_
              refine WR.step (Ex.loadAgg H rfl (by repeat (first | exact List.Mem.head _ | apply List.Mem.tail)) Tryd.isAgg25 Tryd.sizeOf25 (by rfl)) (Wn.none rfl) rfl rfl ?_
              refine WR.nil (WQ.any ?_)
              refine WA.one (i := 2) (by kernel_rfl) rfl ?_
              refine WR.stepE (v' := .bool true) (Ex.eqlAgg rfl rfl (by kernel_rfl) (xeq25 n6 n13 n7 n14)) (congrArg Value.bool (decide_eq_true hk16)) (Wn.none rfl) rfl rfl ?_
              refine WR.nil (WQ.any ?_)
              refine WA.one (i := 3) (by kernel_rfl) rfl ?_
              refine WR.step (Ex.move rfl) (Wn.none rfl) rfl rfl ?_
              refine WR.nil (WQ.any ?_)
              refine WA.one (i := 4) (by kernel_rfl) rfl ?_
              refine WR.step (Ex.move rfl) (Wn.some rfl rfl rfl) rfl rfl ?_
              refine WR.nil (WQ.any ?_)
              refine WA.one (i := 5) (by kernel_rfl) rfl ?_
              refine WR.stepE (v' := .bool false) (Ex.strEql rfl rfl) (congrArg Value.bool (decide_eq_false hk17)) (Wn.some rfl rfl rfl) rfl rfl ?_
              refine WR.nil (WQ.any ?_)
              refine WA.one (i := 6) (by kernel_rfl) rfl ?_
              refine WR.step (Ex.pickT rfl rfl) (Wn.none rfl) rfl rfl ?_
              refine WR.nil (WQ.any ?_)
              refine WA.one (i := 7) (by kernel_rfl) rfl ?_
              refine WR.step (Ex.move rfl) (Wn.none rfl) rfl rfl ?_
              refine WR.nil (WQ.any ?_)
              refine WA.one (i := 8) (by kernel_rfl) rfl ?_
              refine WR.skipG (b := false) rfl rfl rfl rfl rfl ?_
              refine WR.nil (WQ.any ?_)
              refine WA.one (i := 9) (by kernel_rfl) rfl ?_
              refine WR.skipG (b := false) rfl rfl rfl rfl rfl ?_
              refine WR.nil (WQ.any ?_)
              refine WA.one (i := 10) (by kernel_rfl) rfl ?_
              refine WR.step (Ex.pickF rfl rfl) (Wn.none rfl) rfl rfl ?_
              refine WR.nil (WQ.any ?_)
              refine WA.one (i := 11) (by kernel_rfl) rfl ?_
              refine WR.step (Ex.assign rfl) (Wn.none rfl) rfl rfl ?_
              refine WR.nil (WQ.any ?_)
              refine WA.done (by kernel_rfl) ?_
              exact WQ.meetN [(2, _)] ⟨rfl, trivial⟩ ⟨_, _, rfl, (H.pick (L' := []) (by repeat (first | exact Pick.nil | refine Pick.cons (by repeat (first | exact Rem.head | apply Rem.tail)) ?_))), e11⟩
        ·
          rw [if_neg hk16] at e11
          refine WC.draw (m := 12) rfl rfl H ?_
          intro w H
          refine WA.two (i := 0) (j := 1) (by kernel_rfl) rfl rfl ?_ ?_
          ·
            refine WR.step (Ex.loadAgg H rfl (by repeat (first | exact List.Mem.head _ | apply List.Mem.tail)) Tryd.isAgg25 Tryd.sizeOf25 (by rfl)) (Wn.none rfl) rfl rfl ?_
            refine WR.nil (WQ.any ?_)
            refine WA.one (i := 1) (by kernel_rfl) rfl ?_
            refine WR.call H (R_At_ct hx15) rfl trivial (Wn.none rfl) rfl ?_
            intro v24 M w H hle hR
            replace hp0 := hp0.mono hle
            try dsimp only at hR
            obtain rfl := hR
            refine WR.nil (WQ.any ?_)
            refine WA.one (i := 2) (by kernel_rfl) rfl ?_
            refine WR.stepE (v' := .bool false) (Ex.eqlAgg rfl rfl (by kernel_rfl) (xeq25 n6 n13 n7 n14)) (congrArg Value.bool (decide_eq_false hk16)) (Wn.none rfl) rfl rfl ?_
            refine WR.nil (WQ.any ?_)
            refine WA.one (i := 3) (by kernel_rfl) rfl ?_
            refine WR.step (Ex.move rfl) (Wn.none rfl) rfl rfl ?_
            refine WR.nil (WQ.any ?_)
            refine WA.one (i := 4) (by kernel_rfl) rfl ?_
            refine WR.skipG (b := false) rfl rfl rfl rfl rfl ?_
            refine WR.nil (WQ.any ?_)
            refine WA.one (i := 5) (by kernel_rfl) rfl ?_
            refine WR.skipG (b := false) rfl rfl rfl rfl rfl ?_
            refine WR.nil (WQ.any ?_)
            refine WA.one (i := 6) (by kernel_rfl) rfl ?_
            refine WR.step (Ex.pickF rfl rfl) (Wn.none rfl) rfl rfl ?_
            refine WR.nil (WQ.any ?_)
            refine WA.one (i := 7) (by kernel_rfl) rfl ?_
            refine WR.step (Ex.move rfl) (Wn.none rfl) rfl rfl ?_
            refine WR.nil (WQ.any ?_)
            refine WA.one (i := 8) (by kernel_rfl) rfl ?_
            refine WR.skipG (b := false) rfl rfl rfl rfl rfl ?_
            refine WR.nil (WQ.any ?_)
            refine WA.one (i := 9) (by kernel_rfl) rfl ?_
            refine WR.skipG (b := false) rfl rfl rfl rfl rfl ?_
            refine WR.nil (WQ.any ?_)
            refine WA.one (i := 10) (by kernel_rfl) rfl ?_
            refine WR.step (Ex.pickF rfl rfl) (Wn.none rfl) rfl rfl ?_
            refine WR.nil (WQ.any ?_)
            refine WA.one (i := 11) (by kernel_rfl) rfl ?_
            refine WR.step (Ex.assign rfl) (Wn.none rfl) rfl rfl ?_
            refine WR.nil (WQ.any ?_)
            refine WA.done (by kernel_rfl) ?_
            exact WQ.meetN [(2, _)] ⟨rfl, trivial⟩ ⟨_, _, rfl, (H.pick (L' := []) (by repeat (first | exact Pick.nil | refine Pick.cons (by repeat (first | exact Rem.head | apply Rem.tail)) ?_))), e11⟩
          ·
            refine WR.call H (R_At_ct hx15) rfl trivial (Wn.none rfl) rfl ?_
            intro v24 M w H hle hR
            replace hp0 := hp0.mono hle
            try dsimp only at hR
            obtain rfl := hR
            refine WR.nil (WQ.any ?_)
            refine WA.one (i := 0) (by kernel_rfl) rfl ?_
            refine WR.step (Ex.loadAgg H rfl (by repeat (first | exact List.Mem.head _ | apply List.Mem.tail)) Tryd.isAgg25 Tryd.sizeOf25 (by rfl)) (Wn.none rfl) rfl rfl ?_
            refine WR.nil (WQ.any ?_)
            refine WA.one (i := 2) (by kernel_rfl) rfl ?_
            refine WR.stepE (v' := .bool false) (Ex.eqlAgg rfl rfl (by kernel_rfl) (xeq25 n6 n13 n7 n14)) (congrArg Value.bool (decide_eq_false hk16)) (Wn.none rfl) rfl rfl ?_
            refine WR.nil (WQ.any ?_)
            refine WA.one (i := 3) (by kernel_rfl) rfl ?_
            refine WR.step (Ex.move rfl) (Wn.none rfl) rfl rfl ?_
            refine WR.nil (WQ.any ?_)
            refine WA.one (i := 4) (by kernel_rfl) rfl ?_
            refine WR.skipG (b := false) rfl rfl rfl rfl rfl ?_
            refine WR.nil (WQ.any ?_)
            refine WA.one (i := 5) (by kernel_rfl) rfl ?_
            refine WR.skipG (b := false) rfl rfl rfl rfl rfl ?_
            refine WR.nil (WQ.any ?_)
            refine WA.one (i := 6) (by kernel_rfl) rfl ?_
            refine WR.step (Ex.pickF rfl rfl) (Wn.none rfl) rfl rfl ?_
            refine WR.nil (WQ.any ?_)
            refine WA.one (i := 7) (by kernel_rfl) rfl ?_
            refine WR.step (Ex.move rfl) (Wn.none rfl) rfl rfl ?_
            refine WR.nil (WQ.any ?_)
            refine WA.one (i := 8) (by kernel_rfl) rfl ?_
            refine WR.skipG (b := false) rfl rfl rfl rfl rfl ?_
            refine WR.nil (WQ.any ?_)
            refine WA.one (i := 9) (by kernel_rfl) rfl ?_
            refine WR.skipG (b := false) rfl rfl rfl rfl rfl ?_
            refine WR.nil (WQ.any ?_)
            refine WA.one (i := 10) (by kernel_rfl) rfl ?_
            refine WR.step (Ex.pickF rfl rfl) (Wn.none rfl) rfl rfl ?_
            refine WR.nil (WQ.any ?_)
            refine WA.one (i := 11) (by kernel_rfl) rfl ?_
            refine WR.step (Ex.assign rfl) (Wn.none rfl) rfl rfl ?_
            refine WR.nil (WQ.any ?_)
            refine WA.done (by kernel_rfl) ?_
            exact WQ.meetN [(2, _)] ⟨rfl, trivial⟩ ⟨_, _, rfl, (H.pick (L' := []) (by repeat (first | exact Pick.nil | refine Pick.cons (by repeat (first | exact Rem.head | apply Rem.tail)) ?_))), e11⟩
      ·
        rintro e w ⟨b12, M, rfl, H, q18⟩
        obtain rfl := Option.some.inj q18
        refine WQ.then ?_
        refine WC.ret ?_
        (repeat (first | refine WQ.thenRet ?_ | refine WQ.inBlockRet ?_ | refine WQ.cutRet ?_ | refine WQ.scRet ?_))
        obtain rfl := Option.some.inj h
        exact WQ.ret1 rfl rfl H.ext rfl
    ·
      replace hk9 : ¬ ((300 : Int) < (p0.length : Int)) := of_decide_eq_false hk9
      rw [if_neg hk9] at h
      refine WC.skip ?_
      refine WQ.then ?_
      refine WC.seq ?_
      refine WC.region ?_
      refine WR.step (Ex.assign rfl) (Wn.none rfl) rfl rfl ?_
      refine WR.nil ?_
      refine WQ.then ?_
      refine WC.seq ?_
      refine WC.seq ?_
      refine WC.region ?_
      refine WR.step (Ex.assign rfl) (Wn.none rfl) rfl rfl ?_
      refine WR.nil ?_
      refine WQ.then ?_
      obtain ⟨o19, e20, h⟩ := bnd h
      refine WC.cutX (fun e w => ∃ (s21 : List UInt8) (M : Mem), e = [(3, S s4), (4, S s5), (5, ptr b5 0), (6, S s21)] ∧ St w0 M0 M [.blk b5 (.cells #[I n6, I n7] 25)] w ∧ some (.inl s21) = some o19) [] ?_ ?_ (trivial)
      ·
        refine WC.block ?_
        refine WC.loopP (fun m e w => ∃ (s22 : List UInt8) (n23 : Int) (M : Mem), e = [(0, vp0), (3, S s4), (4, S s5), (5, ptr b5 0), (6, S s22), (7, I n23)] ∧ St w0 M0 M [.blk b5 (.cells #[I n6, I n7] 25)] w ∧ Sl M encS vp0 p0 ∧ L_UnfoldMatchesSpec_L1 p0 s4 s5 n6 n7 m s22 n23 = some o19) FU [(0, _), (3, _), (4, _), (5, _), (6, _), (7, _)] ⟨rfl, rfl, rfl, rfl, rfl, rfl, trivial⟩ ⟨_, _, _, rfl, H, hp0, e20⟩ ?_
        rintro m24 e w ⟨s22, n23, M, rfl, H, hp0, e20⟩
        rcases m24 with _ | m24
        · rw [L_UnfoldMatchesSpec_L1] at e20; cases e20
        rw [L_UnfoldMatchesSpec_L1] at e20
        refine WC.seq ?_
        refine WC.seq ?_
        refine WC.region ?_
        refine WR.step (Ex.move rfl) (Wn.none rfl) rfl rfl ?_
        refine WR.step (Ex.move rfl) (Wn.none rfl) rfl rfl ?_
        refine WR.step (Ex.lenSl Tryd.underlying35 hp0 rfl) (Wn.none rfl) rfl rfl ?_
        refine WR.step (Ex.lss rfl rfl) (Wn.none rfl) rfl rfl ?_
        refine WR.nil ?_
        refine WQ.then ?_
        refine WC.condB rfl (fun hk25 => ?_) (fun hk25 => ?_)
        ·
          replace hk25 : n23 < (p0.length : Int) := of_decide_eq_true hk25
          rw [if_pos hk25] at e20
          refine WC.skip ?_
          refine WQ.then ?_
          refine WC.seq ?_
          refine WC.block ?_
          refine WC.seq ?_
          obtain ⟨o26, e27, e20⟩ := bnd e20
          refine WC.cutX (fun e w => ∃ (b28 : Bool) (M : Mem), e = [(0, vp0), (3, S s4), (4, S s5), (5, ptr b5 0), (6, S s22), (7, I n23), (8, Value.bool b28)] ∧ St w0 M0 M [.blk b5 (.cells #[I n6, I n7] 25)] w ∧ Sl M encS vp0 p0 ∧ some b28 = some o26) [] ?_ ?_ (trivial)
          ·
            by_cases hk29 : (0 : Int) < n23
            ·
              rw [if_pos hk29] at e27
              obtain ⟨a30, hxa30, e27⟩ := bnd e27
              by_cases hk31 : a30 = []
              ·
                rw [if_pos hk31] at e27
                refine WC.region ?_
                refine WR.step (Ex.move rfl) (Wn.none rfl) rfl rfl ?_
                refine WR.stepE (v' := .bool true) (Ex.gtr rfl rfl) (congrArg Value.bool (decide_eq_true hk29)) (Wn.none rfl) rfl rfl ?_
                refine WR.step (Ex.move rfl) (Wn.none rfl) rfl rfl ?_
                refine WR.step (Ex.move rfl) (Wn.some rfl rfl rfl) rfl rfl ?_
                refine WR.step (Ex.move rfl) (Wn.some rfl rfl rfl) rfl rfl ?_
                refine WR.idxC Tryd.underlying35 Tryd.sizeOf9 (hp0) rfl rfl hxa30 (Wn.some rfl rfl rfl) rfl ?_
                intro p45 hc45
                refine WR.step (Ex.loadM H rfl hc45 Tryd.isAgg9) (Wn.some rfl rfl rfl) rfl rfl ?_
                refine WR.stepE (v' := .bool true) (Ex.strEql rfl rfl) (congrArg Value.bool (decide_eq_true hk31)) (Wn.some rfl rfl rfl) rfl rfl ?_
                refine WR.step (Ex.move rfl) (Wn.some rfl rfl rfl) rfl rfl ?_
                refine WR.skipG (b := true) rfl rfl rfl rfl rfl ?_
                refine WR.skipG (b := true) rfl rfl rfl rfl rfl ?_
                refine WR.skipG (b := true) rfl rfl rfl rfl rfl ?_
                refine WR.skipG (b := true) rfl rfl rfl rfl rfl ?_
                refine WR.skipG (b := true) rfl rfl rfl rfl rfl ?_
                refine WR.skipG (b := true) rfl rfl rfl rfl rfl ?_
                refine WR.skipG (b := true) rfl rfl rfl rfl rfl ?_
                refine WR.step (Ex.pickT rfl rfl) (Wn.some rfl rfl rfl) rfl rfl ?_
                refine WR.step (Ex.pickT rfl rfl) (Wn.none rfl) rfl rfl ?_
                refine WR.step (Ex.assign rfl) (Wn.none rfl) rfl rfl ?_
                refine WR.nil ?_
                exact WQ.meetN [(0, _), (3, _), (4, _), (5, _), (6, _), (7, _), (8, _)] ⟨rfl, rfl, rfl, rfl, rfl, rfl, rfl, trivial⟩ ⟨_, _, rfl, H, hp0, e27⟩
              ·
                rw [if_neg hk31] at e27
                obtain ⟨a32, hxa32, e27⟩ := bnd e27
                obtain ⟨c33, hxc33, e27⟩ := bnd e27
                obtain ⟨b34, hx35, e27⟩ := bnd e27
                refine WC.region ?_
                refine WR.step (Ex.move rfl) (Wn.none rfl) rfl rfl ?_
                refine WR.stepE (v' := .bool true) (Ex.gtr rfl rfl) (congrArg Value.bool (decide_eq_true hk29)) (Wn.none rfl) rfl rfl ?_
                refine WR.step (Ex.move rfl) (Wn.none rfl) rfl rfl ?_
                refine WR.step (Ex.move rfl) (Wn.some rfl rfl rfl) rfl rfl ?_
                refine WR.step (Ex.move rfl) (Wn.some rfl rfl rfl) rfl rfl ?_
                refine WR.idxC Tryd.underlying35 Tryd.sizeOf9 (hp0) rfl rfl hxa30 (Wn.some rfl rfl rfl) rfl ?_
                intro p45 hc45
                refine WR.step (Ex.loadM H rfl hc45 Tryd.isAgg9) (Wn.some rfl rfl rfl) rfl rfl ?_
                refine WR.stepE (v' := .bool false) (Ex.strEql rfl rfl) (congrArg Value.bool (decide_eq_false hk31)) (Wn.some rfl rfl rfl) rfl rfl ?_
                refine WR.step (Ex.move rfl) (Wn.some rfl rfl rfl) rfl rfl ?_
                refine WR.step (Ex.move rfl) (Wn.some rfl rfl rfl) rfl rfl ?_
                refine WR.step (Ex.move rfl) (Wn.some rfl rfl rfl) rfl rfl ?_
                refine WR.idxC Tryd.underlying35 Tryd.sizeOf9 (hp0) rfl rfl hxa32 (Wn.some rfl rfl rfl) rfl ?_
                intro p51 hc51
                refine WR.step (Ex.loadM H rfl hc51 Tryd.isAgg9) (Wn.some rfl rfl rfl) rfl rfl ?_
                refine WR.step (Ex.idxStrC Tryd.underlying9 rfl rfl hxc33) (Wn.some rfl rfl rfl) rfl rfl ?_
                refine WR.call H (R_Blank_ct hx35) rfl trivial (Wn.some rfl rfl rfl) rfl ?_
                intro v54 M w H hle hR
                replace hp0 := hp0.mono hle
                replace hc45 := hc45.mono hle
                replace hc51 := hc51.mono hle
                obtain rfl := hR
                refine WR.step (Ex.not rfl) (Wn.some rfl rfl rfl) rfl rfl ?_
                refine WR.step (Ex.pickF rfl rfl) (Wn.some rfl rfl rfl) rfl rfl ?_
                refine WR.step (Ex.pickT rfl rfl) (Wn.none rfl) rfl rfl ?_
                refine WR.step (Ex.assign rfl) (Wn.none rfl) rfl rfl ?_
                refine WR.nil ?_
                exact WQ.meetN [(0, _), (3, _), (4, _), (5, _), (6, _), (7, _), (8, _)] ⟨rfl, rfl, rfl, rfl, rfl, rfl, rfl, trivial⟩ ⟨_, _, rfl, H, hp0, e27⟩
            ·
              rw [if_neg hk29] at e27
              refine WC.region ?_
              refine WR.step (Ex.move rfl) (Wn.none rfl) rfl rfl ?_
              refine WR.stepE (v' := .bool false) (Ex.gtr rfl rfl) (congrArg Value.bool (decide_eq_false hk29)) (Wn.none rfl) rfl rfl ?_
              refine WR.step (Ex.move rfl) (Wn.none rfl) rfl rfl ?_
              refine WR.skipG (b := false) rfl rfl rfl rfl rfl ?_
              refine WR.skipG (b := false) rfl rfl rfl rfl rfl ?_
              refine WR.skipG (b := false) rfl rfl rfl rfl rfl ?_
              refine WR.skipG (b := false) rfl rfl rfl rfl rfl ?_
              refine WR.skipG (b := false) rfl rfl rfl rfl rfl ?_
              refine WR.skipG (b := false) rfl rfl rfl rfl rfl ?_
              refine WR.skipU rfl rfl rfl rfl rfl ?_
              refine WR.skipU rfl rfl rfl rfl rfl ?_
              refine WR.skipU rfl rfl rfl rfl rfl ?_
              refine WR.skipU rfl rfl rfl rfl rfl ?_
              refine WR.skipU rfl rfl rfl rfl rfl ?_
              refine WR.skipU rfl rfl rfl rfl rfl ?_
              refine WR.skipU rfl rfl rfl rfl rfl ?_
              refine WR.skipG (b := false) rfl rfl rfl rfl rfl ?_
              refine WR.step (Ex.pickF rfl rfl) (Wn.none rfl) rfl rfl ?_
              refine WR.step (Ex.assign rfl) (Wn.none rfl) rfl rfl ?_
              refine WR.nil ?_
              exact WQ.meetN [(0, _), (3, _), (4, _), (5, _), (6, _), (7, _), (8, _)] ⟨rfl, rfl, rfl, rfl, rfl, rfl, rfl, trivial⟩ ⟨_, _, rfl, H, hp0, e27⟩
          ·
            rintro e w ⟨b28, M, rfl, H, hp0, q36⟩
            obtain rfl := Option.some.inj q36
            refine WQ.then ?_
            refine WC.seq ?_
            refine WC.seq ?_
            refine WC.region ?_
            refine WR.step (Ex.assign rfl) (Wn.none rfl) rfl rfl ?_
            refine WR.nil ?_
            refine WQ.then ?_
            obtain ⟨o37, e38, e20⟩ := bnd e20
            refine WC.cutX (fun e w => ∃ (b39 : Bool) (M : Mem), e = [(0, vp0), (3, S s4), (4, S s5), (5, ptr b5 0), (6, S s22), (7, I n23), (8, Value.bool b39)] ∧ St w0 M0 M [.blk b5 (.cells #[I n6, I n7] 25)] w ∧ Sl M encS vp0 p0 ∧ some b39 = some o37) [] ?_ ?_ (trivial)
            ·
              refine WC.block ?_
              refine WC.loopP (fun m e w => ∃ (b40 : Bool) (n41 : Int) (M : Mem), e = [(0, vp0), (3, S s4), (4, S s5), (5, ptr b5 0), (6, S s22), (7, I n23), (8, Value.bool b40), (9, I n41)] ∧ St w0 M0 M [.blk b5 (.cells #[I n6, I n7] 25)] w ∧ Sl M encS vp0 p0 ∧ L_UnfoldMatchesSpec_L2 p0 n23 m b40 n41 = some o37) FU [(0, _), (3, _), (4, _), (5, _), (6, _), (7, _), (8, _), (9, _)] ⟨rfl, rfl, rfl, rfl, rfl, rfl, rfl, rfl, trivial⟩ ⟨_, _, _, rfl, H, hp0, e38⟩ ?_
              rintro m42 e w ⟨b40, n41, M, rfl, H, hp0, e38⟩
              rcases m42 with _ | m42
              · rw [L_UnfoldMatchesSpec_L2] at e38; cases e38
              rw [L_UnfoldMatchesSpec_L2] at e38
              refine WC.seq ?_
              refine WC.seq ?_
              obtain ⟨a43, hxa43, e38⟩ := bnd e38
              refine WC.region ?_
              refine WR.step (Ex.move rfl) (Wn.none rfl) rfl rfl ?_
              refine WR.step (Ex.move rfl) (Wn.none rfl) rfl rfl ?_
              refine WR.step (Ex.move rfl) (Wn.none rfl) rfl rfl ?_
              refine WR.idxC Tryd.underlying35 Tryd.sizeOf9 (hp0) rfl rfl hxa43 (Wn.none rfl) rfl ?_
              intro p61 hc61
              refine WR.step (Ex.loadM H rfl hc61 Tryd.isAgg9) (Wn.none rfl) rfl rfl ?_
              refine WR.step (Ex.lenStr Tryd.underlying9 rfl) (Wn.none rfl) rfl rfl ?_
              refine WR.step (Ex.lss rfl rfl) (Wn.none rfl) rfl rfl ?_
              refine WR.nil ?_
              refine WQ.then ?_
              refine WC.condB rfl (fun hk44 => ?_) (fun hk44 => ?_)
              ·
                replace hk44 : n41 < (a43.length : Int) := of_decide_eq_true hk44
                rw [if_pos hk44] at e38
                refine WC.skip ?_
                refine WQ.then ?_
                refine WC.seq ?_
                refine WC.block ?_
                obtain ⟨o45, e46, e38⟩ := bnd e38
                refine WC.cutX (fun e w => ∃ (b47 : Bool) (M : Mem), e = [(0, vp0), (3, S s4), (4, S s5), (5, ptr b5 0), (6, S s22), (7, I n23), (8, Value.bool b47), (9, I n41)] ∧ St w0 M0 M [.blk b5 (.cells #[I n6, I n7] 25)] w ∧ Sl M encS vp0 p0 ∧ some b47 = some o45) [] ?_ ?_ (trivial)
                ·
                  rcases b40 with _ | _
                  ·
                    rw [if_neg Bool.false_ne_true] at e46
                    obtain ⟨a48, hxa48, e46⟩ := bnd e46
                    obtain ⟨c49, hxc49, e46⟩ := bnd e46
                    obtain ⟨b50, hx51, e46⟩ := bnd e46
                    refine WC.region ?_
                    refine WR.step (Ex.move rfl) (Wn.none rfl) rfl rfl ?_
                    refine WR.step (Ex.move rfl) (Wn.none rfl) rfl rfl ?_
                    refine WR.step (Ex.move rfl) (Wn.some rfl rfl rfl) rfl rfl ?_
                    refine WR.step (Ex.move rfl) (Wn.some rfl rfl rfl) rfl rfl ?_
                    refine WR.idxC Tryd.underlying35 Tryd.sizeOf9 (hp0) rfl rfl hxa48 (Wn.some rfl rfl rfl) rfl ?_
                    intro p71 hc71
                    refine WR.step (Ex.loadM H rfl hc71 Tryd.isAgg9) (Wn.some rfl rfl rfl) rfl rfl ?_
                    refine WR.step (Ex.move rfl) (Wn.some rfl rfl rfl) rfl rfl ?_
                    refine WR.step (Ex.idxStrC Tryd.underlying9 rfl rfl hxc49) (Wn.some rfl rfl rfl) rfl rfl ?_
                    refine WR.call H (R_OneOf_ct hx51) rfl trivial (Wn.some rfl rfl rfl) rfl ?_
                    intro v75 M w H hle hR
                    replace hp0 := hp0.mono hle
                    replace hc61 := hc61.mono hle
                    replace hc71 := hc71.mono hle
                    obtain rfl := hR
                    refine WR.step (Ex.pickF rfl rfl) (Wn.none rfl) rfl rfl ?_
                    refine WR.step (Ex.assign rfl) (Wn.none rfl) rfl rfl ?_
                    refine WR.nil ?_
                    exact WQ.meetN [(0, _), (3, _), (4, _), (5, _), (6, _), (7, _), (8, _), (9, _)] ⟨rfl, rfl, rfl, rfl, rfl, rfl, rfl, rfl, trivial⟩ ⟨_, _, rfl, H, hp0, e46⟩
                  ·
                    rw [if_pos rfl] at e46
                    refine WC.region ?_
                    refine WR.step (Ex.move rfl) (Wn.none rfl) rfl rfl ?_
                    refine WR.step (Ex.move rfl) (Wn.none rfl) rfl rfl ?_
                    refine WR.skipG (b := true) rfl rfl rfl rfl rfl ?_
                    refine WR.skipG (b := true) rfl rfl rfl rfl rfl ?_
                    refine WR.skipG (b := true) rfl rfl rfl rfl rfl ?_
                    refine WR.skipG (b := true) rfl rfl rfl rfl rfl ?_
                    refine WR.skipG (b := true) rfl rfl rfl rfl rfl ?_
                    refine WR.skipG (b := true) rfl rfl rfl rfl rfl ?_
                    refine WR.skipG (b := true) rfl rfl rfl rfl rfl ?_
                    refine WR.step (Ex.pickT rfl rfl) (Wn.none rfl) rfl rfl ?_
                    refine WR.step (Ex.assign rfl) (Wn.none rfl) rfl rfl ?_
                    refine WR.nil ?_
                    exact WQ.meetN [(0, _), (3, _), (4, _), (5, _), (6, _), (7, _), (8, _), (9, _)] ⟨rfl, rfl, rfl, rfl, rfl, rfl, rfl, rfl, trivial⟩ ⟨_, _, rfl, H, hp0, e46⟩
                ·
                  rintro e w ⟨b47, M, rfl, H, hp0, q52⟩
                  obtain rfl := Option.some.inj q52
                  refine WQ.inBlock ?_
                  refine WQ.then ?_
                  obtain ⟨n53, hxn53, e38⟩ := bnd e38
                  refine WC.region ?_
                  refine WR.step (Ex.move rfl) (Wn.none rfl) rfl rfl ?_
                  refine WR.step (Ex.addC rfl rfl hxn53) (Wn.none rfl) rfl rfl ?_
                  refine WR.step (Ex.assign rfl) (Wn.none rfl) rfl rfl ?_
                  refine WR.nil ?_
                  exact WQ.againP m42 [(0, _), (3, _), (4, _), (5, _), (6, _), (7, _), (8, _), (9, _)] ⟨rfl, rfl, rfl, rfl, rfl, rfl, rfl, rfl, trivial⟩ ⟨_, _, _, rfl, H, hp0, e38⟩ (Nat.lt_succ_self _)
              ·
                replace hk44 : ¬ (n41 < (a43.length : Int)) := of_decide_eq_false hk44
                rw [if_neg hk44] at e38
                refine WC.exit ?_
                refine WQ.thenExit ?_
                refine WQ.thenExit ?_
                refine WQ.exitHere ?_
                exact WQ.meetN [(0, _), (3, _), (4, _), (5, _), (6, _), (7, _), (8, _)] ⟨rfl, rfl, rfl, rfl, rfl, rfl, rfl, trivial⟩ ⟨_, _, rfl, H, hp0, e38⟩
            ·
              rintro e w ⟨b39, M, rfl, H, hp0, q54⟩
              obtain rfl := Option.some.inj q54
              refine WQ.then ?_
              refine WC.seq ?_
              refine WC.seq ?_
              refine WC.region ?_
              refine WR.step (Ex.move rfl) (Wn.none rfl) rfl rfl ?_
              refine WR.nil ?_
              refine WQ.then ?_
              refine WC.condB rfl (fun hk55 => ?_) (fun hk55 => ?_)
              ·
                subst hk55
                rw [if_pos rfl] at e20
                refine WC.seq ?_
                obtain ⟨o56, e57, e20⟩ := bnd e20
                refine WC.cutX (fun e w => ∃ (b58 : Bool) (M : Mem), e = [(2, Value.bool b58)] ∧ St w0 M0 M [] w ∧ some b58 = some o56) [] ?_ ?_ (trivial)
                ·
                  obtain ⟨⟨n59, n60⟩, hx61, e57⟩ := bnd e57
                  try dsimp only at e57
                  by_cases hk62 : n6 = n59 ∧ n7 = n60
                  ·
                    rw [if_pos hk62] at e57
                    by_cases hk63 : s4 = []
                    ·
                      rw [if_pos hk63] at e57
                      refine WC.draw (m := 13) rfl rfl H ?_
                      intro w H
                      refine WA.take (i := 1) rfl (by kernel_rfl) (by kernel_rfl) (by kernel_rfl) (fun _ => Ex.move rfl) (Wn.none rfl) rfl rfl (fun _ _ => rfl) ?_
                      refine WA.two (i := 0) (j := 2) (by kernel_rfl) rfl rfl ?_ ?_
                      ·
                        refine WR.step (Ex.loadAgg H rfl (by repeat (first | exact List.Mem.head _ | apply List.Mem.tail)) Tryd.isAgg25 Tryd.sizeOf25 (by rfl)) (Wn.none rfl) rfl rfl ?_
                        refine WR.nil (WQ.any ?_)
                        refine WA.one (i := 2) (by kernel_rfl) rfl ?_
                        refine WR.call H (R_At_ct hx61) rfl trivial (Wn.none rfl) rfl ?_
                        intro v80 M w H hle hR
                        replace hp0 := hp0.mono hle
                        try dsimp only at hR
                        obtain rfl := hR
                        refine WR.nil (WQ.any ?_)
                        refine WA.one (i := 3) (by kernel_rfl) rfl ?_
                        refine WR.stepE (v' := .bool true) (Ex.eqlAgg rfl rfl (by kernel_rfl) (xeq25 n6 n59 n7 n60)) (congrArg Value.bool (decide_eq_true hk62)) (Wn.none rfl) rfl rfl ?_
                        refine WR.nil (WQ.any ?_)
                        refine WA.one (i := 4) (by kernel_rfl) rfl ?_
                        refine WR.step (Ex.move rfl) (Wn.none rfl) rfl rfl ?_
                        refine WR.nil (WQ.any ?_)
                        refine WA.one (i := 5) (by kernel_rfl) rfl ?_
                        refine WR.step (Ex.move rfl) (Wn.some rfl rfl rfl) rfl rfl ?_
                        refine WR.nil (WQ.any ?_)
                        refine WA.one (i := 6) (by kernel_rfl) rfl ?_
                        refine WR.stepE (v' := .bool true) (Ex.strEql rfl rfl) (congrArg Value.bool (decide_eq_true hk63)) (Wn.some rfl rfl rfl) rfl rfl ?_
                        refine WR.nil (WQ.any ?_)
                        refine WA.one (i := 7) (by kernel_rfl) rfl ?_
                        refine WR.step (Ex.pickT rfl rfl) (Wn.none rfl) rfl rfl ?_
                        refine WR.nil (WQ.any ?_)
                        refine WA.one (i := 8) (by kernel_rfl) rfl ?_
                        refine WR.step (Ex.move rfl) (Wn.none rfl) rfl rfl ?_
                        refine WR.nil (WQ.any ?_)
                        refine WA.one (i := 9) (by kernel_rfl) rfl ?_
                        refine WR.step (Ex.move rfl) (Wn.some rfl rfl rfl) rfl rfl ?_
                        refine WR.nil (WQ.any ?_)
                        refine WA.one (i := 10) (by kernel_rfl) rfl ?_
                        refine WR.step (Ex.strEql rfl rfl) (Wn.some rfl rfl rfl) rfl rfl ?_
                        refine WR.nil (WQ.any ?_)
                        refine WA.one (i := 11) (by kernel_rfl) rfl ?_
                        refine WR.step (Ex.pickT rfl rfl) (Wn.none rfl) rfl rfl ?_
                        refine WR.nil (WQ.any ?_)
                        refine WA.one (i := 12) (by kernel_rfl) rfl ?_
                        refine WR.step (Ex.assign rfl) (Wn.none rfl) rfl rfl ?_
                        refine WR.nil (WQ.any ?_)
                        refine WA.done (by kernel_rfl) ?_
                        exact WQ.meetN [(2, _)] ⟨rfl, trivial⟩ ⟨_, _, rfl, (H.pick (L' := []) (by repeat (first | exact Pick.nil | refine Pick.cons (by repeat (first | exact Rem.head | apply Rem.tail)) ?_))), e57⟩
                      ·
                        refine WR.call H (R_At_ct hx61) rfl trivial (Wn.none rfl) rfl ?_
                        intro v80 M w H hle hR
                        replace hp0 := hp0.mono hle
                        try dsimp only at hR
                        obtain rfl := hR
                        refine WR.nil (WQ.any ?_)
                        refine WA.one (i := 0) (by kernel_rfl) rfl ?_
                        refine WR.step (Ex.loadAgg H rfl (by repeat (first | exact List.Mem.head _ | apply List.Mem.tail)) Tryd.isAgg25 Tryd.sizeOf25 (by rfl)) (Wn.none rfl) rfl rfl ?_
                        refine WR.nil (WQ.any ?_)
                        refine WA.one (i := 3) (by kernel_rfl) rfl ?_
                        refine WR.stepE (v' := .bool true) (Ex.eqlAgg rfl rfl (by kernel_rfl) (xeq25 n6 n59 n7 n60)) (congrArg Value.bool (decide_eq_true hk62)) (Wn.none rfl) rfl rfl ?_
                        refine WR.nil (WQ.any ?_)
                        refine WA.one (i := 4) (by kernel_rfl) rfl ?_
                        refine WR.step (Ex.move rfl) (Wn.none rfl) rfl rfl ?_
                        refine WR.nil (WQ.any ?_)
                        refine WA.one (i := 5) (by kernel_rfl) rfl ?_
                        refine WR.step (Ex.move rfl) (Wn.some rfl rfl rfl) rfl rfl ?_
                        refine WR.nil (WQ.any ?_)
                        refine WA.one (i := 6) (by kernel_rfl) rfl ?_
                        refine WR.stepE (v' := .bool true) (Ex.strEql rfl rfl) (congrArg Value.bool (decide_eq_true hk63)) (Wn.some rfl rfl rfl) rfl rfl ?_
                        refine WR.nil (WQ.any ?_)
                        refine WA.one (i := 7) (by kernel_rfl) rfl ?_
                        refine WR.step (Ex.pickT rfl rfl) (Wn.none rfl) rfl rfl ?_
                        refine WR.nil (WQ.any ?_)
                        refine WA.one (i := 8) (by kernel_rfl) rfl ?_
                        refine WR.step (Ex.move rfl) (Wn.none rfl) rfl rfl ?_
                        refine WR.nil (WQ.any ?_)
                        refine WA.one (i := 9) (by kernel_rfl) rfl ?_
                        refine WR.step (Ex.move rfl) (Wn.some rfl rfl rfl) rfl rfl ?_
                        refine WR.nil (WQ.any ?_)
                        refine WA.one (i := 10) (by kernel_rfl) rfl ?_
                        refine WR.step (Ex.strEql rfl rfl) (Wn.some rfl rfl rfl) rfl rfl ?_
                        refine WR.nil (WQ.any ?_)
                        refine WA.one (i := 11) (by kernel_rfl) rfl ?_
                        refine WR.step (Ex.pickT rfl rfl) (Wn.none rfl) rfl rfl ?_
                        refine WR.nil (WQ.any ?_)
                        refine WA.one (i := 12) (by kernel_rfl) rfl ?_
                        refine WR.step (Ex.assign rfl) (Wn.none rfl) rfl rfl ?_
                        refine WR.nil (WQ.any ?_)
                        refine WA.done (by kernel_rfl) ?_
                        exact WQ.meetN [(2, _)] ⟨rfl, trivial⟩ ⟨_, _, rfl, (H.pick (L' := []) (by repeat (first | exact Pick.nil | refine Pick.cons (by repeat (first | exact Rem.head | apply Rem.tail)) ?_))), e57⟩
                    ·
                      rw [if_neg hk63] at e57
                      refine WC.draw (m := 13) rfl rfl H ?_
                      intro w H
                      refine WA.take (i := 1) rfl (by kernel_rfl) (by kernel_rfl) (by kernel_rfl) (fun _ => Ex.move rfl) (Wn.none rfl) rfl rfl (fun _ _ => rfl) ?_
                      refine WA.two (i := 0) (j := 2) (by kernel_rfl) rfl rfl ?_ ?_
                      ·
                        refine WR.step (Ex.loadAgg H rfl (by repeat (first | exact List.Mem.head _ | apply List.Mem.tail)) Tryd.isAgg25 Tryd.sizeOf25 (by rfl)) (Wn.none rfl) rfl rfl ?_
                        refine WR.nil (WQ.any ?_)
                        refine WA.one (i := 2) (by kernel_rfl) rfl ?_
                        refine WR.call H (R_At_ct hx61) rfl trivial (Wn.none rfl) rfl ?_
                        intro v80 M w H hle hR
                        replace hp0 := hp0.mono hle
                        try dsimp only at hR
                        obtain rfl := hR
                        refine WR.nil (WQ.any ?_)
                        refine WA.one (i := 3) (by kernel_rfl) rfl ?_
                        refine WR.stepE (v' := .bool true) (Ex.eqlAgg rfl rfl (by kernel_rfl) (xeq25 n6 n59 n7 n60)) (congrArg Value.bool (decide_eq_true hk62)) (Wn.none rfl) rfl rfl ?_
                        refine WR.nil (WQ.any ?_)
                        refine WA.one (i := 4) (by kernel_rfl) rfl ?_
                        refine WR.step (Ex.move rfl) (Wn.none rfl) rfl rfl ?_
                        refine WR.nil (WQ.any ?_)
                        refine WA.one (i := 5) (by kernel_rfl) rfl ?_
                        refine WR.step (Ex.move rfl) (Wn.some rfl rfl rfl) rfl rfl ?_
                        refine WR.nil (WQ.any ?_)
                        refine WA.one (i := 6) (by kernel_rfl) rfl ?_
                        refine WR.stepE (v' := .bool false) (Ex.strEql rfl rfl) (congrArg Value.bool (decide_eq_false hk63)) (Wn.some rfl rfl rfl) rfl rfl ?_
                        refine WR.nil (WQ.any ?_)
                        refine WA.one (i := 7) (by kernel_rfl) rfl ?_
                        refine WR.step (Ex.pickT rfl rfl) (Wn.none rfl) rfl rfl ?_
                        refine WR.nil (WQ.any ?_)
                        refine WA.one (i := 8) (by kernel_rfl) rfl ?_
                        refine WR.step (Ex.move rfl) (Wn.none rfl) rfl rfl ?_
                        refine WR.nil (WQ.any ?_)
                        refine WA.one (i := 9) (by kernel_rfl) rfl ?_
                        refine WR.skipG (b := false) rfl rfl rfl rfl rfl ?_
                        refine WR.nil (WQ.any ?_)
                        refine WA.one (i := 10) (by kernel_rfl) rfl ?_
                        refine WR.skipG (b := false) rfl rfl rfl rfl rfl ?_
                        refine WR.nil (WQ.any ?_)
                        refine WA.one (i := 11) (by kernel_rfl) rfl ?_
                        refine WR.step (Ex.pickF rfl rfl) (Wn.none rfl) rfl rfl ?_
                        refine WR.nil (WQ.any ?_)
                        refine WA.one (i := 12) (by kernel_rfl) rfl ?_
                        refine WR.step (Ex.assign rfl) (Wn.none rfl) rfl rfl ?_
                        refine WR.nil (WQ.any ?_)
                        refine WA.done (by kernel_rfl) ?_
                        exact WQ.meetN [(2, _)] ⟨rfl, trivial⟩ ⟨_, _, rfl, (H.pick (L' := []) (by repeat (first | exact Pick.nil | refine Pick.cons (by repeat (first | exact Rem.head | apply Rem.tail)) ?_))), e57⟩
                      ·
                        refine WR.call H (R_At_ct hx61) rfl trivial (Wn.none rfl) rfl ?_
                        intro v80 M w H hle hR
                        replace hp0 := hp0.mono hle
                        try dsimp only at hR
                        obtain rfl := hR
                        refine WR.nil (WQ.any ?_)
                        refine WA.one (i := 0) (by kernel_rfl) rfl ?_
                        refine WR.step (Ex.loadAgg H rfl (by repeat (first | exact List.Mem.head _ | apply List.Mem.tail)) Tryd.isAgg25 Tryd.sizeOf25 (by rfl)) (Wn.none rfl) rfl rfl ?_
                        refine WR.nil (WQ.any ?_)
                        refine WA.one (i := 3) (by kernel_rfl) rfl ?_
                        refine WR.stepE (v' := .bool true) (Ex.eqlAgg rfl rfl (by kernel_rfl) (xeq25 n6 n59 n7 n60)) (congrArg Value.bool (decide_eq_true hk62)) (Wn.none rfl) rfl rfl ?_
                        refine WR.nil (WQ.any ?_)
                        refine WA.one (i := 4) (by kernel_rfl) rfl ?_
                        refine WR.step (Ex.move rfl) (Wn.none rfl) rfl rfl ?_
                        refine WR.nil (WQ.any ?_)
                        refine WA.one (i := 5) (by kernel_rfl) rfl ?_
                        refine WR.step (Ex.move rfl) (Wn.some rfl rfl rfl) rfl rfl ?_
                        refine WR.nil (WQ.any ?_)
                        refine WA.one (i := 6) (by kernel_rfl) rfl ?_
                        refine WR.stepE (v' := .bool false) (Ex.strEql rfl rfl) (congrArg Value.bool (decide_eq_false hk63)) (Wn.some rfl rfl rfl) rfl rfl ?_
                        refine WR.nil (WQ.any ?_)
                        refine WA.one (i := 7) (by kernel_rfl) rfl ?_
                        refine WR.step (Ex.pickT rfl rfl) (Wn.none rfl) rfl rfl ?_
                        refine WR.nil (WQ.any ?_)
                        refine WA.one (i := 8) (by kernel_rfl) rfl ?_
                        refine WR.step (Ex.move rfl) (Wn.none rfl) rfl rfl ?_
                        refine WR.nil (WQ.any ?_)
                        refine WA.one (i := 9) (by kernel_rfl) rfl ?_
                        refine WR.skipG (b := false) rfl rfl rfl rfl rfl ?_
                        refine WR.nil (WQ.any ?_)
                        refine WA.one (i := 10) (by kernel_rfl) rfl ?_
                        refine WR.skipG (b := false) rfl rfl rfl rfl rfl ?_
                        refine WR.nil (WQ.any ?_)
                        refine WA.one (i := 11) (by kernel_rfl) rfl ?_
                        refine WR.step (Ex.pickF rfl rfl) (Wn.none rfl) rfl rfl ?_
                        refine WR.nil (WQ.any ?_)
                        refine WA.one (i := 12) (by kernel_rfl) rfl ?_
                        refine WR.step (Ex.assign rfl) (Wn.none rfl) rfl rfl ?_
                        refine WR.nil (WQ.any ?_)
                        refine WA.done (by kernel_rfl) ?_
                        exact WQ.meetN [(2, _)] ⟨rfl, trivial⟩ ⟨_, _, rfl, (H.pick (L' := []) (by repeat (first | exact Pick.nil | refine Pick.cons (by repeat (first | exact Rem.head | apply Rem.tail)) ?_))), e57⟩
                  ·
                    rw [if_neg hk62] at e57
                    refine WC.draw (m := 13) rfl rfl H ?_
                    intro w H
                    refine WA.take (i := 1) rfl (by kernel_rfl) (by kernel_rfl) (by kernel_rfl) (fun _ => Ex.move rfl) (Wn.none rfl) rfl rfl (fun _ _ => rfl) ?_
                    refine WA.two (i := 0) (j := 2) (by kernel_rfl) rfl rfl ?_ ?_
                    ·
                      refine WR.step (Ex.loadAgg H rfl (by repeat (first | exact List.Mem.head _ | apply List.Mem.tail)) Tryd.isAgg25 Tryd.sizeOf25 (by rfl)) (Wn.none rfl) rfl rfl ?_
                      refine WR.nil (WQ.any ?_)
                      refine WA.one (i := 2) (by kernel_rfl) rfl ?_
                      refine WR.call H (R_At_ct hx61) rfl trivial (Wn.none rfl) rfl ?_
                      intro v80 M w H hle hR
                      replace hp0 := hp0.mono hle
                      try dsimp only at hR
                      obtain rfl := hR
                      refine WR.nil (WQ.any ?_)
                      refine WA.one (i := 3) (by kernel_rfl) rfl ?_
                      refine WR.stepE (v' := .bool false) (Ex.eqlAgg rfl rfl (by kernel_rfl) (xeq25 n6 n59 n7 n60)) (congrArg Value.bool (decide_eq_false hk62)) (Wn.none rfl) rfl rfl ?_
                      refine WR.nil (WQ.any ?_)
                      refine WA.one (i := 4) (by kernel_rfl) rfl ?_
                      refine WR.step (Ex.move rfl) (Wn.none rfl) rfl rfl ?_
                      refine WR.nil (WQ.any ?_)
                      refine WA.one (i := 5) (by kernel_rfl) rfl ?_
                      refine WR.skipG (b := false) rfl rfl rfl rfl rfl ?_
                      refine WR.nil (WQ.any ?_)
                      refine WA.one (i := 6) (by kernel_rfl) rfl ?_
                      refine WR.skipG (b := false) rfl rfl rfl rfl rfl ?_
                      refine WR.nil (WQ.any ?_)
                      refine WA.one (i := 7) (by kernel_rfl) rfl ?_
                      refine WR.step (Ex.pickF rfl rfl) (Wn.none rfl) rfl rfl ?_
                      refine WR.nil (WQ.any ?_)
                      refine WA.one (i := 8) (by kernel_rfl) rfl ?_
                      refine WR.step (Ex.move rfl) (Wn.none rfl) rfl rfl ?_
                      refine WR.nil (WQ.any ?_)
                      refine WA.one (i := 9) (by kernel_rfl) rfl ?_
                      refine WR.skipG (b := false) rfl rfl rfl rfl rfl ?_
                      refine WR.nil (WQ.any ?_)
                      refine WA.one (i := 10) (by kernel_rfl) rfl ?_
                      refine WR.skipG (b := false) rfl rfl rfl rfl rfl ?_
                      refine WR.nil (WQ.any ?_)
                      refine WA.one (i := 11) (by kernel_rfl) rfl ?_
                      refine WR.step (Ex.pickF rfl rfl) (Wn.none rfl) rfl rfl ?_
                      refine WR.nil (WQ.any ?_)
                      refine WA.one (i := 12) (by kernel_rfl) rfl ?_
                      refine WR.step (Ex.assign rfl) (Wn.none rfl) rfl rfl ?_
                      refine WR.nil (WQ.any ?_)
                      refine WA.done (by kernel_rfl) ?_
                      exact WQ.meetN [(2, _)] ⟨rfl, trivial⟩ ⟨_, _, rfl, (H.pick (L' := []) (by repeat (first | exact Pick.nil | refine Pick.cons (by repeat (first | exact Rem.head | apply Rem.tail)) ?_))), e57⟩
                    ·
                      refine WR.call H (R_At_ct hx61) rfl trivial (Wn.none rfl) rfl ?_
                      intro v80 M w H hle hR
                      replace hp0 := hp0.mono hle
                      try dsimp only at hR
                      obtain rfl := hR
                      refine WR.nil (WQ.any ?_)
                      refine WA.one (i := 0) (by kernel_rfl) rfl ?_
                      refine WR.step (Ex.loadAgg H rfl (by repeat (first | exact List.Mem.head _ | apply List.Mem.tail)) Tryd.isAgg25 Tryd.sizeOf25 (by rfl)) (Wn.none rfl) rfl rfl ?_
                      refine WR.nil (WQ.any ?_)
                      refine WA.one (i := 3) (by kernel_rfl) rfl ?_
                      refine WR.stepE (v' := .bool false) (Ex.eqlAgg rfl rfl (by kernel_rfl) (xeq25 n6 n59 n7 n60)) (congrArg Value.bool (decide_eq_false hk62)) (Wn.none rfl) rfl rfl ?_
                      refine WR.nil (WQ.any ?_)
                      refine WA.one (i := 4) (by kernel_rfl) rfl ?_
                      refine WR.step (Ex.move rfl) (Wn.none rfl) rfl rfl ?_
                      refine WR.nil (WQ.any ?_)
                      refine WA.one (i := 5) (by kernel_rfl) rfl ?_
                      refine WR.skipG (b := false) rfl rfl rfl rfl rfl ?_
                      refine WR.nil (WQ.any ?_)
                      refine WA.one (i := 6) (by kernel_rfl) rfl ?_
                      refine WR.skipG (b := false) rfl rfl rfl rfl rfl ?_
                      refine WR.nil (WQ.any ?_)
                      refine WA.one (i := 7) (by kernel_rfl) rfl ?_
                      refine WR.step (Ex.pickF rfl rfl) (Wn.none rfl) rfl rfl ?_
                      refine WR.nil (WQ.any ?_)
                      refine WA.one (i := 8) (by kernel_rfl) rfl ?_
                      refine WR.step (Ex.move rfl) (Wn.none rfl) rfl rfl ?_
                      refine WR.nil (WQ.any ?_)
                      refine WA.one (i := 9) (by kernel_rfl) rfl ?_
                      refine WR.skipG (b := false) rfl rfl rfl rfl rfl ?_
                      refine WR.nil (WQ.any ?_)
                      refine WA.one (i := 10) (by kernel_rfl) rfl ?_
                      refine WR.skipG (b := false) rfl rfl rfl rfl rfl ?_
                      refine WR.nil (WQ.any ?_)
                      refine WA.one (i := 11) (by kernel_rfl) rfl ?_
                      refine WR.step (Ex.pickF rfl rfl) (Wn.none rfl) rfl rfl ?_
                      refine WR.nil (WQ.any ?_)
                      refine WA.one (i := 12) (by kernel_rfl) rfl ?_
                      refine WR.step (Ex.assign rfl) (Wn.none rfl) rfl rfl ?_
                      refine WR.nil (WQ.any ?_)
                      refine WA.done (by kernel_rfl) ?_
                      exact WQ.meetN [(2, _)] ⟨rfl, trivial⟩ ⟨_, _, rfl, (H.pick (L' := []) (by repeat (first | exact Pick.nil | refine Pick.cons (by repeat (first | exact Rem.head | apply Rem.tail)) ?_))), e57⟩
                ·
                  rintro e w ⟨b58, M, rfl, H, q64⟩
                  obtain rfl := Option.some.inj q64
                  refine WQ.then ?_
                  refine WC.ret ?_
                  (repeat (first | refine WQ.thenRet ?_ | refine WQ.inBlockRet ?_ | refine WQ.cutRet ?_ | refine WQ.scRet ?_))
                  obtain rfl := Option.some.inj e20
                  try dsimp only at h
                  obtain rfl := Option.some.inj h
                  exact WQ.ret1 rfl rfl H.ext rfl
              ·
                subst hk55
                rw [if_neg Bool.false_ne_true] at e20
                refine WC.skip ?_
                refine WQ.then ?_
                obtain ⟨a65, hxa65, e20⟩ := bnd e20
                obtain ⟨s66, hxs66, e20⟩ := bnd e20
                refine WC.region ?_
                refine WR.step (Ex.move rfl) (Wn.none rfl) rfl rfl ?_
                refine WR.step (Ex.move rfl) (Wn.none rfl) rfl rfl ?_
                refine WR.step (Ex.move rfl) (Wn.none rfl) rfl rfl ?_
                refine WR.idxC Tryd.underlying35 Tryd.sizeOf9 (hp0) rfl rfl hxa65 (Wn.none rfl) rfl ?_
                intro p93 hc93
                refine WR.step (Ex.loadM H rfl hc93 Tryd.isAgg9) (Wn.none rfl) rfl rfl ?_
                refine WR.step (Ex.strAddC rfl rfl hxs66) (Wn.none rfl) rfl rfl ?_
                refine WR.step (Ex.assign rfl) (Wn.none rfl) rfl rfl ?_
                refine WR.nil ?_
                refine WQ.inBlock ?_
                refine WQ.then ?_
                obtain ⟨n67, hxn67, e20⟩ := bnd e20
                refine WC.region ?_
                refine WR.step (Ex.move rfl) (Wn.none rfl) rfl rfl ?_
                refine WR.step (Ex.addC rfl rfl hxn67) (Wn.none rfl) rfl rfl ?_
                refine WR.step (Ex.assign rfl) (Wn.none rfl) rfl rfl ?_
                refine WR.nil ?_
                exact WQ.againP m24 [(0, _), (3, _), (4, _), (5, _), (6, _), (7, _)] ⟨rfl, rfl, rfl, rfl, rfl, rfl, trivial⟩ ⟨_, _, _, rfl, H, hp0, e20⟩ (Nat.lt_succ_self _)
        ·
          replace hk25 : ¬ (n23 < (p0.length : Int)) := of_decide_eq_false hk25
          rw [if_neg hk25] at e20
          refine WC.exit ?_
          refine WQ.thenExit ?_
          refine WQ.thenExit ?_
          refine WQ.exitHere ?_
          exact WQ.meetN [(3, _), (4, _), (5, _), (6, _)] ⟨rfl, rfl, rfl, rfl, trivial⟩ ⟨_, _, rfl, H, e20⟩
      ·
        rintro e w ⟨s21, M, rfl, H, q68⟩
        obtain rfl := Option.some.inj q68
        try dsimp only at h
        refine WQ.then ?_
        refine WC.seq ?_
        refine WC.seq ?_
        refine WC.region ?_
        refine WR.step (Ex.move rfl) (Wn.none rfl) rfl rfl ?_
        refine WR.step (Ex.lenStr Tryd.underlying9 rfl) (Wn.none rfl) rfl rfl ?_
        refine WR.step (Ex.gtr rfl rfl) (Wn.none rfl) rfl rfl ?_
        refine WR.nil ?_
        refine WQ.then ?_
        refine WC.condB rfl (fun hk69 => ?_) (fun hk69 => ?_)
        ·
          replace hk69 : (8000 : Int) < (s21.length : Int) := of_decide_eq_true hk69
          rw [if_pos hk69] at h
          refine WC.seq ?_
          obtain ⟨o70, e71, h⟩ := bnd h
          refine WC.cutX (fun e w => ∃ (b72 : Bool) (M : Mem), e = [(2, Value.bool b72)] ∧ St w0 M0 M [] w ∧ some b72 = some o70) [] ?_ ?_ (trivial)
          ·
            obtain ⟨⟨n73, n74⟩, hx75, e71⟩ := bnd e71
            try dsimp only at e71
            by_cases hk76 : n6 = n73 ∧ n7 = n74
            ·
              rw [if_pos hk76] at e71
              by_cases hk77 : s4 = []
              ·
                rw [if_pos hk77] at e71
                refine WC.draw (m := 12) rfl rfl H ?_
                intro w H
                refine WA.two (i := 0) (j := 1) (by kernel_rfl) rfl rfl ?_ ?_
                ·
                  refine WR.step (Ex.loadAgg H rfl (by repeat (first | exact List.Mem.head _ | apply List.Mem.tail)) Tryd.isAgg25 Tryd.sizeOf25 (by rfl)) (Wn.none rfl) rfl rfl ?_
                  refine WR.nil (WQ.any ?_)
                  refine WA.one (i := 1) (by kernel_rfl) rfl ?_
                  refine WR.call H (R_At_ct hx75) rfl trivial (Wn.none rfl) rfl ?_
                  intro v100 M w H hle hR
                  try dsimp only at hR
                  obtain rfl := hR
                  refine WR.nil (WQ.any ?_)
                  refine WA.one (i := 2) (by kernel_rfl) rfl ?_
                  refine WR.stepE (v' := .bool true) (Ex.eqlAgg rfl rfl (by kernel_rfl) (xeq25 n6 n73 n7 n74)) (congrArg Value.bool (decide_eq_true hk76)) (Wn.none rfl) rfl rfl ?_
                  refine WR.nil (WQ.any ?_)
                  refine WA.one (i := 3) (by kernel_rfl) rfl ?_
                  refine WR.step (Ex.move rfl) (Wn.none rfl) rfl rfl ?_
                  refine WR.nil (WQ.any ?_)
                  refine WA.one (i := 4) (by kernel_rfl) rfl ?_
                  refine WR.step (Ex.move rfl) (Wn.some rfl rfl rfl) rfl rfl ?_
                  refine WR.nil (WQ.any ?_)
                  refine WA.one (i := 5) (by kernel_rfl) rfl ?_
                  refine WR.stepE (v' := .bool true) (Ex.strEql rfl rfl) (congrArg Value.bool (decide_eq_true hk77)) (Wn.some rfl rfl rfl) rfl rfl ?_
                  refine WR.nil (WQ.any ?_)
                  refine WA.one (i := 6) (by kernel_rfl) rfl ?_
                  refine WR.step (Ex.pickT rfl rfl) (Wn.none rfl) rfl rfl ?_
                  refine WR.nil (WQ.any ?_)
                  refine WA.one (i := 7) (by kernel_rfl) rfl ?_
                  refine WR.step (Ex.move rfl) (Wn.none rfl) rfl rfl ?_
                  refine WR.nil (WQ.any ?_)
                  refine WA.one (i := 8) (by kernel_rfl) rfl ?_
                  refine WR.step (Ex.move rfl) (Wn.some rfl rfl rfl) rfl rfl ?_
                  refine WR.nil (WQ.any ?_)
                  refine WA.one (i := 9) (by kernel_rfl) rfl ?_
                  refine WR.step (Ex.strEql rfl rfl) (Wn.some rfl rfl rfl) rfl rfl ?_
                  refine WR.nil (WQ.any ?_)
                  refine WA.one (i := 10) (by kernel_rfl) rfl ?_
                  refine WR.step (Ex.pickT rfl rfl) (Wn.none rfl) rfl rfl ?_
                  refine WR.nil (WQ.any ?_)
                  refine WA.one (i := 11) (by kernel_rfl) rfl ?_
                  refine WR.step (Ex.assign rfl) (Wn.none rfl) rfl rfl ?_
                  refine WR.nil (WQ.any ?_)
                  refine WA.done (by kernel_rfl) ?_
                  exact WQ.meetN [(2, _)] ⟨rfl, trivial⟩ ⟨_, _, rfl, (H.pick (L' := []) (by repeat (first | exact Pick.nil | refine Pick.cons (by repeat (first | exact Rem.head | apply Rem.tail)) ?_))), e71⟩
                ·
                  refine WR.call H (R_At_ct hx75) rfl trivial (Wn.none rfl) rfl ?_
                  intro v100 M w H hle hR
                  try dsimp only at hR
                  obtain rfl := hR
                  refine WR.nil (WQ.any ?_)
                  refine WA.one (i := 0) (by kernel_rfl) rfl ?_
                  refine WR.step (Ex.loadAgg H rfl (by repeat (first | exact List.Mem.head _ | apply List.Mem.tail)) Tryd.isAgg25 Tryd.sizeOf25 (by rfl)) (Wn.none rfl) rfl rfl ?_
                  refine WR.nil (WQ.any ?_)
                  refine WA.one (i := 2) (by kernel_rfl) rfl ?_
                  refine WR.stepE (v' := .bool true) (Ex.eqlAgg rfl rfl (by kernel_rfl) (xeq25 n6 n73 n7 n74)) (congrArg Value.bool (decide_eq_true hk76)) (Wn.none rfl) rfl rfl ?_
                  refine WR.nil (WQ.any ?_)
                  refine WA.one (i := 3) (by kernel_rfl) rfl ?_
                  refine WR.step (Ex.move rfl) (Wn.none rfl) rfl rfl ?_
                  refine WR.nil (WQ.any ?_)
                  refine WA.one (i := 4) (by kernel_rfl) rfl ?_
                  refine WR.step (Ex.move rfl) (Wn.some rfl rfl rfl) rfl rfl ?_
                  refine WR.nil (WQ.any ?_)
                  refine WA.one (i := 5) (by kernel_rfl) rfl ?_
                  refine WR.stepE (v' := .bool true) (Ex.strEql rfl rfl) (congrArg Value.bool (decide_eq_true hk77)) (Wn.some rfl rfl rfl) rfl rfl ?_
                  refine WR.nil (WQ.any ?_)
                  refine WA.one (i := 6) (by kernel_rfl) rfl ?_
                  refine WR.step (Ex.pickT rfl rfl) (Wn.none rfl) rfl rfl ?_
                  refine WR.nil (WQ.any ?_)
                  refine WA.one (i := 7) (by kernel_rfl) rfl ?_
                  refine WR.step (Ex.move rfl) (Wn.none rfl) rfl rfl ?_
                  refine WR.nil (WQ.any ?_)
                  refine WA.one (i := 8) (by kernel_rfl) rfl ?_
                  refine WR.step (Ex.move rfl) (Wn.some rfl rfl rfl) rfl rfl ?_
                  refine WR.nil (WQ.any ?_)
                  refine WA.one (i := 9) (by kernel_rfl) rfl ?_
                  refine WR.step (Ex.strEql rfl rfl) (Wn.some rfl rfl rfl) rfl rfl ?_
                  refine WR.nil (WQ.any ?_)
                  refine WA.one (i := 10) (by kernel_rfl) rfl ?_
                  refine WR.step (Ex.pickT rfl rfl) (Wn.none rfl) rfl rfl ?_
                  refine WR.nil (WQ.any ?_)
                  refine WA.one (i := 11) (by kernel_rfl) rfl ?_
                  refine WR.step (Ex.assign rfl) (Wn.none rfl) rfl rfl ?_
                  refine WR.nil (WQ.any ?_)
                  refine WA.done (by kernel_rfl) ?_
                  exact WQ.meetN [(2, _)] ⟨rfl, trivial⟩ ⟨_, _, rfl, (H.pick (L' := []) (by repeat (first | exact Pick.nil | refine Pick.cons (by repeat (first | exact Rem.head | apply Rem.tail)) ?_))), e71⟩
              ·
                rw [if_neg hk77] at e71
                refine WC.draw (m := 12) rfl rfl H ?_
                intro w H
                refine WA.two (i := 0) (j := 1) (by kernel_rfl) rfl rfl ?_ ?_
                ·
                  refine WR.step (Ex.loadAgg H rfl (by repeat (first | exact List.Mem.head _ | apply List.Mem.tail)) Tryd.isAgg25 Tryd.sizeOf25 (by rfl)) (Wn.none rfl) rfl rfl ?_
                  refine WR.nil (WQ.any ?_)
                  refine WA.one (i := 1) (by kernel_rfl) rfl ?_
                  refine WR.call H (R_At_ct hx75) rfl trivial (Wn.none rfl) rfl ?_
                  intro v100 M w H hle hR
                  try dsimp only at hR
                  obtain rfl := hR
                  refine WR.nil (WQ.any ?_)
                  refine WA.one (i := 2) (by kernel_rfl) rfl ?_
                  refine WR.stepE (v' := .bool true) (Ex.eqlAgg rfl rfl (by kernel_rfl) (xeq25 n6 n73 n7 n74)) (congrArg Value.bool (decide_eq_true hk76)) (Wn.none rfl) rfl rfl ?_
                  refine WR.nil (WQ.any ?_)
                  refine WA.one (i := 3) (by kernel_rfl) rfl ?_
                  refine WR.step (Ex.move rfl) (Wn.none rfl) rfl rfl ?_
                  refine WR.nil (WQ.any ?_)
                  refine WA.one (i := 4) (by kernel_rfl) rfl ?_
                  refine WR.step (Ex.move rfl) (Wn.some rfl rfl rfl) rfl rfl ?_
                  refine WR.nil (WQ.any ?_)
                  refine WA.one (i := 5) (by kernel_rfl) rfl ?_
                  refine WR.stepE (v' := .bool false) (Ex.strEql rfl rfl) (congrArg Value.bool (decide_eq_false hk77)) (Wn.some rfl rfl rfl) rfl rfl ?_
                  refine WR.nil (WQ.any ?_)
                  refine WA.one (i := 6) (by kernel_rfl) rfl ?_
                  refine WR.step (Ex.pickT rfl rfl) (Wn.none rfl) rfl rfl ?_
                  refine WR.nil (WQ.any ?_)
                  refine WA.one (i := 7) (by kernel_rfl) rfl ?_
                  refine WR.step (Ex.move rfl) (Wn.none rfl) rfl rfl ?_
                  refine WR.nil (WQ.any ?_)
                  refine WA.one (i := 8) (by kernel_rfl) rfl ?_
                  refine WR.skipG (b := false) rfl rfl rfl rfl rfl ?_
                  refine WR.nil (WQ.any ?_)
                  refine WA.one (i := 9) (by kernel_rfl) rfl ?_
                  refine WR.skipG (b := false) rfl rfl rfl rfl rfl ?_
                  refine WR.nil (WQ.any ?_)
                  refine WA.one (i := 10) (by kernel_rfl) rfl ?_
                  refine WR.step (Ex.pickF rfl rfl) (Wn.none rfl) rfl rfl ?_
                  refine WR.nil (WQ.any ?_)
                  refine WA.one (i := 11) (by kernel_rfl) rfl ?_
                  refine WR.step (Ex.assign rfl) (Wn.none rfl) rfl rfl ?_
                  refine WR.nil (WQ.any ?_)
                  refine WA.done (by kernel_rfl) ?_
                  exact WQ.meetN [(2, _)] ⟨rfl, trivial⟩ ⟨_, _, rfl, (H.pick (L' := []) (by repeat (first | exact Pick.nil | refine Pick.cons (by repeat (first | exact Rem.head | apply Rem.tail)) ?_))), e71⟩
                ·
                  refine WR.call H (R_At_ct hx75) rfl trivial (Wn.none rfl) rfl ?_
                  intro v100 M w H hle hR
                  try dsimp only at hR
                  obtain rfl := hR
                  refine WR.nil (WQ.any ?_)
                  refine WA.one (i := 0) (by kernel_rfl) rfl ?_
                  refine WR.step (Ex.loadAgg H rfl (by repeat (first | exact List.Mem.head _ | apply List.Mem.tail)) Tryd.isAgg25 Tryd.sizeOf25 (by rfl)) (Wn.none rfl) rfl rfl ?_
                  refine WR.nil (WQ.any ?_)
                  refine WA.one (i := 2) (by kernel_rfl) rfl ?_
                  refine WR.stepE (v' := .bool true) (Ex.eqlAgg rfl rfl (by kernel_rfl) (xeq25 n6 n73 n7 n74)) (congrArg Value.bool (decide_eq_true hk76)) (Wn.none rfl) rfl rfl ?_
                  refine WR.nil (WQ.any ?_)
                  refine WA.one (i := 3) (by kernel_rfl) rfl ?_
                  refine WR.step (Ex.move rfl) (Wn.none rfl) rfl rfl ?_
                  refine WR.nil (WQ.any ?_)
                  refine WA.one (i := 4) (by kernel_rfl) rfl ?_
                  refine WR.step (Ex.move rfl) (Wn.some rfl rfl rfl) rfl rfl ?_
                  refine WR.nil (WQ.any ?_)
                  refine WA.one (i := 5) (by kernel_rfl) rfl ?_
                  refine WR.stepE (v' := .bool false) (Ex.strEql rfl rfl) (congrArg Value.bool (decide_eq_false hk77)) (Wn.some rfl rfl rfl) rfl rfl ?_
                  refine WR.nil (WQ.any ?_)
                  refine WA.one (i := 6) (by kernel_rfl) rfl ?_
                  refine WR.step (Ex.pickT rfl rfl) (Wn.none rfl) rfl rfl ?_
                  refine WR.nil (WQ.any ?_)
                  refine WA.one (i := 7) (by kernel_rfl) rfl ?_
                  refine WR.step (Ex.move rfl) (Wn.none rfl) rfl rfl ?_
                  refine WR.nil (WQ.any ?_)
                  refine WA.one (i := 8) (by kernel_rfl) rfl ?_
                  refine WR.skipG (b := false) rfl rfl rfl rfl rfl ?_
                  refine WR.nil (WQ.any ?_)
                  refine WA.one (i := 9) (by kernel_rfl) rfl ?_
                  refine WR.skipG (b := false) rfl rfl rfl rfl rfl ?_
                  refine WR.nil (WQ.any ?_)
                  refine WA.one (i := 10) (by kernel_rfl) rfl ?_
                  refine WR.step (Ex.pickF rfl rfl) (Wn.none rfl) rfl rfl ?_
                  refine WR.nil (WQ.any ?_)
                  refine WA.one (i := 11) (by kernel_rfl) rfl ?_
                  refine WR.step (Ex.assign rfl) (Wn.none rfl) rfl rfl ?_
                  refine WR.nil (WQ.any ?_)
                  refine WA.done (by kernel_rfl) ?_
                  exact WQ.meetN [(2, _)] ⟨rfl, trivial⟩ ⟨_, _, rfl, (H.pick (L' := []) (by repeat (first | exact Pick.nil | refine Pick.cons (by repeat (first | exact Rem.head | apply Rem.tail)) ?_))), e71⟩
            ·
              rw [if_neg hk76] at e71
              refine WC.draw (m := 12) rfl rfl H ?_
              intro w H
              refine WA.two (i := 0) (j := 1) (by kernel_rfl) rfl rfl ?_ ?_
              ·
                refine WR.step (Ex.loadAgg H rfl (by repeat (first | exact List.Mem.head _ | apply List.Mem.tail)) Tryd.isAgg25 Tryd.sizeOf25 (by rfl)) (Wn.none rfl) rfl rfl ?_
                refine WR.nil (WQ.any ?_)
                refine WA.one (i := 1) (by kernel_rfl) rfl ?_
                refine WR.call H (R_At_ct hx75) rfl trivial (Wn.none rfl) rfl ?_
                intro v100 M w H hle hR
                try dsimp only at hR
                obtain rfl := hR
                refine WR.nil (WQ.any ?_)
                refine WA.one (i := 2) (by kernel_rfl) rfl ?_
                refine WR.stepE (v' := .bool false) (Ex.eqlAgg rfl rfl (by kernel_rfl) (xeq25 n6 n73 n7 n74)) (congrArg Value.bool (decide_eq_false hk76)) (Wn.none rfl) rfl rfl ?_
                refine WR.nil (WQ.any ?_)
                refine WA.one (i := 3) (by kernel_rfl) rfl ?_
                refine WR.step (Ex.move rfl) (Wn.none rfl) rfl rfl ?_
                refine WR.nil (WQ.any ?_)
                refine WA.one (i := 4) (by kernel_rfl) rfl ?_
                refine WR.skipG (b := false) rfl rfl rfl rfl rfl ?_
                refine WR.nil (WQ.any ?_)
                refine WA.one (i := 5) (by kernel_rfl) rfl ?_
                refine WR.skipG (b := false) rfl rfl rfl rfl rfl ?_
                refine WR.nil (WQ.any ?_)
                refine WA.one (i := 6) (by kernel_rfl) rfl ?_
                refine WR.step (Ex.pickF rfl rfl) (Wn.none rfl) rfl rfl ?_
                refine WR.nil (WQ.any ?_)
                refine WA.one (i := 7) (by kernel_rfl) rfl ?_
                refine WR.step (Ex.move rfl) (Wn.none rfl) rfl rfl ?_
                refine WR.nil (WQ.any ?_)
                refine WA.one (i := 8) (by kernel_rfl) rfl ?_
                refine WR.skipG (b := false) rfl rfl rfl rfl rfl ?_
                refine WR.nil (WQ.any ?_)
                refine WA.one (i := 9) (by kernel_rfl) rfl ?_
                refine WR.skipG (b := false) rfl rfl rfl rfl rfl ?_
                refine WR.nil (WQ.any ?_)
                refine WA.one (i := 10) (by kernel_rfl) rfl ?_
                refine WR.step (Ex.pickF rfl rfl) (Wn.none rfl) rfl rfl ?_
                refine WR.nil (WQ.any ?_)
                refine WA.one (i := 11) (by kernel_rfl) rfl ?_
                refine WR.step (Ex.assign rfl) (Wn.none rfl) rfl rfl ?_
                refine WR.nil (WQ.any ?_)
                refine WA.done (by kernel_rfl) ?_
                exact WQ.meetN [(2, _)] ⟨rfl, trivial⟩ ⟨_, _, rfl, (H.pick (L' := []) (by repeat (first | exact Pick.nil | refine Pick.cons (by repeat (first | exact Rem.head | apply Rem.tail)) ?_))), e71⟩
              ·
                refine WR.call H (R_At_ct hx75) rfl trivial (Wn.none rfl) rfl ?_
                intro v100 M w H hle hR
                try dsimp only at hR
                obtain rfl := hR
                refine WR.nil (WQ.any ?_)
                refine WA.one (i := 0) (by kernel_rfl) rfl ?_
                refine WR.step (Ex.loadAgg H rfl (by repeat (first | exact List.Mem.head _ | apply List.Mem.tail)) Tryd.isAgg25 Tryd.sizeOf25 (by rfl)) (Wn.none rfl) rfl rfl ?_
                refine WR.nil (WQ.any ?_)
                refine WA.one (i := 2) (by kernel_rfl) rfl ?_
                refine WR.stepE (v' := .bool false) (Ex.eqlAgg rfl rfl (by kernel_rfl) (xeq25 n6 n73 n7 n74)) (congrArg Value.bool (decide_eq_false hk76)) (Wn.none rfl) rfl rfl ?_
                refine WR.nil (WQ.any ?_)
                refine WA.one (i := 3) (by kernel_rfl) rfl ?_
                refine WR.step (Ex.move rfl) (Wn.none rfl) rfl rfl ?_
                refine WR.nil (WQ.any ?_)
                refine WA.one (i := 4) (by kernel_rfl) rfl ?_
                refine WR.skipG (b := false) rfl rfl rfl rfl rfl ?_
                refine WR.nil (WQ.any ?_)
                refine WA.one (i := 5) (by kernel_rfl) rfl ?_
                refine WR.skipG (b := false) rfl rfl rfl rfl rfl ?_
                refine WR.nil (WQ.any ?_)
                refine WA.one (i := 6) (by kernel_rfl) rfl ?_
                refine WR.step (Ex.pickF rfl rfl) (Wn.none rfl) rfl rfl ?_
                refine WR.nil (WQ.any ?_)
                refine WA.one (i := 7) (by kernel_rfl) rfl ?_
                refine WR.step (Ex.move rfl) (Wn.none rfl) rfl rfl ?_
                refine WR.nil (WQ.any ?_)
                refine WA.one (i := 8) (by kernel_rfl) rfl ?_
                refine WR.skipG (b := false) rfl rfl rfl rfl rfl ?_
                refine WR.nil (WQ.any ?_)
                refine WA.one (i := 9) (by kernel_rfl) rfl ?_
                refine WR.skipG (b := false) rfl rfl rfl rfl rfl ?_
                refine WR.nil (WQ.any ?_)
                refine WA.one (i := 10) (by kernel_rfl) rfl ?_
                refine WR.step (Ex.pickF rfl rfl) (Wn.none rfl) rfl rfl ?_
                refine WR.nil (WQ.any ?_)
                refine WA.one (i := 11) (by kernel_rfl) rfl ?_
                refine WR.step (Ex.assign rfl) (Wn.none rfl) rfl rfl ?_
                refine WR.nil (WQ.any ?_)
                refine WA.done (by kernel_rfl) ?_
                exact WQ.meetN [(2, _)] ⟨rfl, trivial⟩ ⟨_, _, rfl, (H.pick (L' := []) (by repeat (first | exact Pick.nil | refine Pick.cons (by repeat (first | exact Rem.head | apply Rem.tail)) ?_))), e71⟩
          ·
            rintro e w ⟨b72, M, rfl, H, q78⟩
            obtain rfl := Option.some.inj q78
            refine WQ.then ?_
            refine WC.ret ?_
            (repeat (first | refine WQ.thenRet ?_ | refine WQ.inBlockRet ?_ | refine WQ.cutRet ?_ | refine WQ.scRet ?_))
            obtain rfl := Option.some.inj h
            exact WQ.ret1 rfl rfl H.ext rfl
        ·
          replace hk69 : ¬ ((8000 : Int) < (s21.length : Int)) := of_decide_eq_false hk69
          rw [if_neg hk69] at h
          refine WC.skip ?_
          refine WQ.then ?_
          refine WC.seq ?_
          obtain ⟨n79, hx80, h⟩ := bnd h
          refine WC.region ?_
          refine WR.step (Ex.move rfl) (Wn.none rfl) rfl rfl ?_
          refine WR.call H (R_Find_ct hx80) rfl trivial (Wn.none rfl) rfl ?_
          intro v111 M w H hle hR
          obtain rfl := hR
          refine WR.step (Ex.assign rfl) (Wn.none rfl) rfl rfl ?_
          refine WR.nil ?_
          refine WQ.then ?_
          refine WC.seq ?_
          refine WC.seq ?_
          obtain ⟨o81, e82, h⟩ := bnd h
          refine WC.cutX (fun e w => ∃ (b83 : Bool) (M : Mem), e = [(3, S s4), (4, S s5), (5, ptr b5 0), (6, S s21), (10, I n79), (120, Value.bool b83)] ∧ St w0 M0 M [.blk b5 (.cells #[I n6, I n7] 25)] w ∧ some b83 = some o81) [] ?_ ?_ (trivial)
          ·
            by_cases hk84 : n79 < (0 : Int)
            ·
              rw [if_pos hk84] at e82
              refine WC.region ?_
              refine WR.step (Ex.move rfl) (Wn.none rfl) rfl rfl ?_
              refine WR.stepE (v' := .bool true) (Ex.lss rfl rfl) (congrArg Value.bool (decide_eq_true hk84)) (Wn.none rfl) rfl rfl ?_
              refine WR.step (Ex.move rfl) (Wn.none rfl) rfl rfl ?_
              refine WR.skipG (b := true) rfl rfl rfl rfl rfl ?_
              refine WR.skipG (b := true) rfl rfl rfl rfl rfl ?_
              refine WR.skipG (b := true) rfl rfl rfl rfl rfl ?_
              refine WR.skipG (b := true) rfl rfl rfl rfl rfl ?_
              refine WR.skipG (b := true) rfl rfl rfl rfl rfl ?_
              refine WR.step (Ex.pickT rfl rfl) (Wn.none rfl) rfl rfl ?_
              refine WR.nil ?_
              exact WQ.meetN [(3, _), (4, _), (5, _), (6, _), (10, _), (120, _)] ⟨rfl, rfl, rfl, rfl, rfl, rfl, trivial⟩ ⟨_, _, rfl, H, e82⟩
            ·
              rw [if_neg hk84] at e82
              obtain ⟨s85, hxs85, e82⟩ := bnd e82
              obtain ⟨b86, hx87, e82⟩ := bnd e82
              refine WC.region ?_
              refine WR.step (Ex.move rfl) (Wn.none rfl) rfl rfl ?_
              refine WR.stepE (v' := .bool false) (Ex.lss rfl rfl) (congrArg Value.bool (decide_eq_false hk84)) (Wn.none rfl) rfl rfl ?_
              refine WR.step (Ex.move rfl) (Wn.none rfl) rfl rfl ?_
              refine WR.step (Ex.move rfl) (Wn.some rfl rfl rfl) rfl rfl ?_
              refine WR.step (Ex.move rfl) (Wn.some rfl rfl rfl) rfl rfl ?_
              refine WR.step (Ex.sliceH Tryd.underlying9 rfl rfl hxs85) (Wn.some rfl rfl rfl) rfl rfl ?_
              refine WR.call H (R_FieldName_ct hx87) rfl trivial (Wn.some rfl rfl rfl) rfl ?_
              intro v118 M w H hle hR
              obtain rfl := hR
              refine WR.step (Ex.not rfl) (Wn.some rfl rfl rfl) rfl rfl ?_
              refine WR.step (Ex.pickF rfl rfl) (Wn.none rfl) rfl rfl ?_
              refine WR.nil ?_
              exact WQ.meetN [(3, _), (4, _), (5, _), (6, _), (10, _), (120, _)] ⟨rfl, rfl, rfl, rfl, rfl, rfl, trivial⟩ ⟨_, _, rfl, H, e82⟩
          ·
            rintro e w ⟨b83, M, rfl, H, q88⟩
            obtain rfl := Option.some.inj q88
            refine WQ.then ?_
            refine WC.condB rfl (fun hk89 => ?_) (fun hk89 => ?_)
            ·
              subst hk89
              rw [if_pos rfl] at h
              refine WC.seq ?_
              obtain ⟨o90, e91, h⟩ := bnd h
              refine WC.cutX (fun e w => ∃ (b92 : Bool) (M : Mem), e = [(2, Value.bool b92)] ∧ St w0 M0 M [] w ∧ some b92 = some o90) [] ?_ ?_ (trivial)
              ·
                obtain ⟨⟨n93, n94⟩, hx95, e91⟩ := bnd e91
                try dsimp only at e91
                by_cases hk96 : n6 = n93 ∧ n7 = n94
                ·
                  rw [if_pos hk96] at e91
                  by_cases hk97 : s4 = []
                  ·
                    rw [if_pos hk97] at e91
                    refine WC.draw (m := 12) rfl rfl H ?_
                    intro w H
                    refine WA.two (i := 0) (j := 1) (by kernel_rfl) rfl rfl ?_ ?_
                    ·
                      refine WR.step (Ex.loadAgg H rfl (by repeat (first | exact List.Mem.head _ | apply List.Mem.tail)) Tryd.isAgg25 Tryd.sizeOf25 (by rfl)) (Wn.none rfl) rfl rfl ?_
                      refine WR.nil (WQ.any ?_)
                      refine WA.one (i := 1) (by kernel_rfl) rfl ?_
                      refine WR.call H (R_At_ct hx95) rfl trivial (Wn.none rfl) rfl ?_
                      intro v122 M w H hle hR
                      try dsimp only at hR
                      obtain rfl := hR
                      refine WR.nil (WQ.any ?_)
                      refine WA.one (i := 2) (by kernel_rfl) rfl ?_
                      refine WR.stepE (v' := .bool true) (Ex.eqlAgg rfl rfl (by kernel_rfl) (xeq25 n6 n93 n7 n94)) (congrArg Value.bool (decide_eq_true hk96)) (Wn.none rfl) rfl rfl ?_
                      refine WR.nil (WQ.any ?_)
                      refine WA.one (i := 3) (by kernel_rfl) rfl ?_
                      refine WR.step (Ex.move rfl) (Wn.none rfl) rfl rfl ?_
                      refine WR.nil (WQ.any ?_)
                      refine WA.one (i := 4) (by kernel_rfl) rfl ?_
                      refine WR.step (Ex.move rfl) (Wn.some rfl rfl rfl) rfl rfl ?_
                      refine WR.nil (WQ.any ?_)
                      refine WA.one (i := 5) (by kernel_rfl) rfl ?_
                      refine WR.stepE (v' := .bool true) (Ex.strEql rfl rfl) (congrArg Value.bool (decide_eq_true hk97)) (Wn.some rfl rfl rfl) rfl rfl ?_
                      refine WR.nil (WQ.any ?_)
                      refine WA.one (i := 6) (by kernel_rfl) rfl ?_
                      refine WR.step (Ex.pickT rfl rfl) (Wn.none rfl) rfl rfl ?_
                      refine WR.nil (WQ.any ?_)
                      refine WA.one (i := 7) (by kernel_rfl) rfl ?_
                      refine WR.step (Ex.move rfl) (Wn.none rfl) rfl rfl ?_
                      refine WR.nil (WQ.any ?_)
                      refine WA.one (i := 8) (by kernel_rfl) rfl ?_
                      refine WR.step (Ex.move rfl) (Wn.some rfl rfl rfl) rfl rfl ?_
                      refine WR.nil (WQ.any ?_)
                      refine WA.one (i := 9) (by kernel_rfl) rfl ?_
                      refine WR.step (Ex.strEql rfl rfl) (Wn.some rfl rfl rfl) rfl rfl ?_
                      refine WR.nil (WQ.any ?_)
                      refine WA.one (i := 10) (by kernel_rfl) rfl ?_
                      refine WR.step (Ex.pickT rfl rfl) (Wn.none rfl) rfl rfl ?_
                      refine WR.nil (WQ.any ?_)
                      refine WA.one (i := 11) (by kernel_rfl) rfl ?_
                      refine WR.step (Ex.assign rfl) (Wn.none rfl) rfl rfl ?_
                      refine WR.nil (WQ.any ?_)
                      refine WA.done (by kernel_rfl) ?_
                      exact WQ.meetN [(2, _)] ⟨rfl, trivial⟩ ⟨_, _, rfl, (H.pick (L' := []) (by repeat (first | exact Pick.nil | refine Pick.cons (by repeat (first | exact Rem.head | apply Rem.tail)) ?_))), e91⟩
                    ·
                      refine WR.call H (R_At_ct hx95) rfl trivial (Wn.none rfl) rfl ?_
                      intro v122 M w H hle hR
                      try dsimp only at hR
                      obtain rfl := hR
                      refine WR.nil (WQ.any ?_)
                      refine WA.one (i := 0) (by kernel_rfl) rfl ?_
                      refine WR.step (Ex.loadAgg H rfl (by repeat (first | exact List.Mem.head _ | apply List.Mem.tail)) Tryd.isAgg25 Tryd.sizeOf25 (by rfl)) (Wn.none rfl) rfl rfl ?_
                      refine WR.nil (WQ.any ?_)
                      refine WA.one (i := 2) (by kernel_rfl) rfl ?_
                      refine WR.stepE (v' := .bool true) (Ex.eqlAgg rfl rfl (by kernel_rfl) (xeq25 n6 n93 n7 n94)) (congrArg Value.bool (decide_eq_true hk96)) (Wn.none rfl) rfl rfl ?_
                      refine WR.nil (WQ.any ?_)
                      refine WA.one (i := 3) (by kernel_rfl) rfl ?_
                      refine WR.step (Ex.move rfl) (Wn.none rfl) rfl rfl ?_
                      refine WR.nil (WQ.any ?_)
                      refine WA.one (i := 4) (by kernel_rfl) rfl ?_
                      refine WR.step (Ex.move rfl) (Wn.some rfl rfl rfl) rfl rfl ?_
                      refine WR.nil (WQ.any ?_)
                      refine WA.one (i := 5) (by kernel_rfl) rfl ?_
                      refine WR.stepE (v' := .bool true) (Ex.strEql rfl rfl) (congrArg Value.bool (decide_eq_true hk97)) (Wn.some rfl rfl rfl) rfl rfl ?_
                      refine WR.nil (WQ.any ?_)
                      refine WA.one (i := 6) (by kernel_rfl) rfl ?_
                      refine WR.step (Ex.pickT rfl rfl) (Wn.none rfl) rfl rfl ?_
                      refine WR.nil (WQ.any ?_)
                      refine WA.one (i := 7) (by kernel_rfl) rfl ?_
                      refine WR.step (Ex.move rfl) (Wn.none rfl) rfl rfl ?_
                      refine WR.nil (WQ.any ?_)
                      refine WA.one (i := 8) (by kernel_rfl) rfl ?_
                      refine WR.step (Ex.move rfl) (Wn.some rfl rfl rfl) rfl rfl ?_
                      refine WR.nil (WQ.any ?_)
                      refine WA.one (i := 9) (by kernel_rfl) rfl ?_
                      refine WR.step (Ex.strEql rfl rfl) (Wn.some rfl rfl rfl) rfl rfl ?_
                      refine WR.nil (WQ.any ?_)
                      refine WA.one (i := 10) (by kernel_rfl) rfl ?_
                      refine WR.step (Ex.pickT rfl rfl) (Wn.none rfl) rfl rfl ?_
                      refine WR.nil (WQ.any ?_)
                      refine WA.one (i := 11) (by kernel_rfl) rfl ?_
                      refine WR.step (Ex.assign rfl) (Wn.none rfl) rfl rfl ?_
                      refine WR.nil (WQ.any ?_)
                      refine WA.done (by kernel_rfl) ?_
                      exact WQ.meetN [(2, _)] ⟨rfl, trivial⟩ ⟨_, _, rfl, (H.pick (L' := []) (by repeat (first | exact Pick.nil | refine Pick.cons (by repeat (first | exact Rem.head | apply Rem.tail)) ?_))), e91⟩
                  ·
                    rw [if_neg hk97] at e91
                    refine WC.draw (m := 12) rfl rfl H ?_
                    intro w H
                    refine WA.two (i := 0) (j := 1) (by kernel_rfl) rfl rfl ?_ ?_
                    ·
                      refine WR.step (Ex.loadAgg H rfl (by repeat (first | exact List.Mem.head _ | apply List.Mem.tail)) Tryd.isAgg25 Tryd.sizeOf25 (by rfl)) (Wn.none rfl) rfl rfl ?_
                      refine WR.nil (WQ.any ?_)
                      refine WA.one (i := 1) (by kernel_rfl) rfl ?_
                      refine WR.call H (R_At_ct hx95) rfl trivial (Wn.none rfl) rfl ?_
                      intro v122 M w H hle hR
                      try dsimp only at hR
                      obtain rfl := hR
                      refine WR.nil (WQ.any ?_)
                      refine WA.one (i := 2) (by kernel_rfl) rfl ?_
                      refine WR.stepE (v' := .bool true) (Ex.eqlAgg rfl rfl (by kernel_rfl) (xeq25 n6 n93 n7 n94)) (congrArg Value.bool (decide_eq_true hk96)) (Wn.none rfl) rfl rfl ?_
                      refine WR.nil (WQ.any ?_)
                      refine WA.one (i := 3) (by kernel_rfl) rfl ?_
                      refine WR.step (Ex.move rfl) (Wn.none rfl) rfl rfl ?_
                      refine WR.nil (WQ.any ?_)
                      refine WA.one (i := 4) (by kernel_rfl) rfl ?_
                      refine WR.step (Ex.move rfl) (Wn.some rfl rfl rfl) rfl rfl ?_
                      refine WR.nil (WQ.any ?_)
                      refine WA.one (i := 5) (by kernel_rfl) rfl ?_
                      refine WR.stepE (v' := .bool false) (Ex.strEql rfl rfl) (congrArg Value.bool (decide_eq_false hk97)) (Wn.some rfl rfl rfl) rfl rfl ?_
                      refine WR.nil (WQ.any ?_)
                      refine WA.one (i := 6) (by kernel_rfl) rfl ?_
                      refine WR.step (Ex.pickT rfl rfl) (Wn.none rfl) rfl rfl ?_
                      refine WR.nil (WQ.any ?_)
                      refine WA.one (i := 7) (by kernel_rfl) rfl ?_
                      refine WR.step (Ex.move rfl) (Wn.none rfl) rfl rfl ?_
                      refine WR.nil (WQ.any ?_)
                      refine WA.one (i := 8) (by kernel_rfl) rfl ?_
                      refine WR.skipG (b := false) rfl rfl rfl rfl rfl ?_
                      refine WR.nil (WQ.any ?_)
                      refine WA.one (i := 9) (by kernel_rfl) rfl ?_
                      refine WR.skipG (b := false) rfl rfl rfl rfl rfl ?_
                      refine WR.nil (WQ.any ?_)
                      refine WA.one (i := 10) (by kernel_rfl) rfl ?_
                      refine WR.step (Ex.pickF rfl rfl) (Wn.none rfl) rfl rfl ?_
                      refine WR.nil (WQ.any ?_)
                      refine WA.one (i := 11) (by kernel_rfl) rfl ?_
                      refine WR.step (Ex.assign rfl) (Wn.none rfl) rfl rfl ?_
                      refine WR.nil (WQ.any ?_)
                      refine WA.done (by kernel_rfl) ?_
                      exact WQ.meetN [(2, _)] ⟨rfl, trivial⟩ ⟨_, _, rfl, (H.pick (L' := []) (by repeat (first | exact Pick.nil | refine Pick.cons (by repeat (first | exact Rem.head | apply Rem.tail)) ?_))), e91⟩
                    ·
                      refine WR.call H (R_At_ct hx95) rfl trivial (Wn.none rfl) rfl ?_
                      intro v122 M w H hle hR
                      try dsimp only at hR
                      obtain rfl := hR
                      refine WR.nil (WQ.any ?_)
                      refine WA.one (i := 0) (by kernel_rfl) rfl ?_
                      refine WR.step (Ex.loadAgg H rfl (by repeat (first | exact List.Mem.head _ | apply List.Mem.tail)) Tryd.isAgg25 Tryd.sizeOf25 (by rfl)) (Wn.none rfl) rfl rfl ?_
                      refine WR.nil (WQ.any ?_)
                      refine WA.one (i := 2) (by kernel_rfl) rfl ?_
                      refine WR.stepE (v' := .bool true) (Ex.eqlAgg rfl rfl (by kernel_rfl) (xeq25 n6 n93 n7 n94)) (congrArg Value.bool (decide_eq_true hk96)) (Wn.none rfl) rfl rfl ?_
                      refine WR.nil (WQ.any ?_)
                      refine WA.one (i := 3) (by kernel_rfl) rfl ?_
                      refine WR.step (Ex.move rfl) (Wn.none rfl) rfl rfl ?_
                      refine WR.nil (WQ.any ?_)
                      refine WA.one (i := 4) (by kernel_rfl) rfl ?_
                      refine WR.step (Ex.move rfl) (Wn.some rfl rfl rfl) rfl rfl ?_
                      refine WR.nil (WQ.any ?_)
                      refine WA.one (i := 5) (by kernel_rfl) rfl ?_
                      refine WR.stepE (v' := .bool false) (Ex.strEql rfl rfl) (congrArg Value.bool (decide_eq_false hk97)) (Wn.some rfl rfl rfl) rfl rfl ?_
                      refine WR.nil (WQ.any ?_)
                      refine WA.one (i := 6) (by kernel_rfl) rfl ?_
                      refine WR.step (Ex.pickT rfl rfl) (Wn.none rfl) rfl rfl ?_
                      refine WR.nil (WQ.any ?_)
                      refine WA.one (i := 7) (by kernel_rfl) rfl ?_
                      refine WR.step (Ex.move rfl) (Wn.none rfl) rfl rfl ?_
                      refine WR.nil (WQ.any ?_)
                      refine WA.one (i := 8) (by kernel_rfl) rfl ?_
                      refine WR.skipG (b := false) rfl rfl rfl rfl rfl ?_
                      refine WR.nil (WQ.any ?_)
                      refine WA.one (i := 9) (by kernel_rfl) rfl ?_
                      refine WR.skipG (b := false) rfl rfl rfl rfl rfl ?_
                      refine WR.nil (WQ.any ?_)
                      refine WA.one (i := 10) (by kernel_rfl) rfl ?_
                      refine WR.step (Ex.pickF rfl rfl) (Wn.none rfl) rfl rfl ?_
                      refine WR.nil (WQ.any ?_)
                      refine WA.one (i := 11) (by kernel_rfl) rfl ?_
                      refine WR.step (Ex.assign rfl) (Wn.none rfl) rfl rfl ?_
                      refine WR.nil (WQ.any ?_)
                      refine WA.done (by kernel_rfl) ?_
                      exact WQ.meetN [(2, _)] ⟨rfl, trivial⟩ ⟨_, _, rfl, (H.pick (L' := []) (by repeat (first | exact Pick.nil | refine Pick.cons (by repeat (first | exact Rem.head | apply Rem.tail)) ?_))), e91⟩
                ·
                  rw [if_neg hk96] at e91
                  refine WC.draw (m := 12) rfl rfl H ?_
                  intro w H
                  refine WA.two (i := 0) (j := 1) (by kernel_rfl) rfl rfl ?_ ?_
                  ·
                    refine WR.step (Ex.loadAgg H rfl (by repeat (first | exact List.Mem.head _ | apply List.Mem.tail)) Tryd.isAgg25 Tryd.sizeOf25 (by rfl)) (Wn.none rfl) rfl rfl ?_
                    refine WR.nil (WQ.any ?_)
                    refine WA.one (i := 1) (by kernel_rfl) rfl ?_
                    refine WR.call H (R_At_ct hx95) rfl trivial (Wn.none rfl) rfl ?_
                    intro v122 M w H hle hR
                    try dsimp only at hR
                    obtain rfl := hR
                    refine WR.nil (WQ.any ?_)
                    refine WA.one (i := 2) (by kernel_rfl) rfl ?_
                    refine WR.stepE (v' := .bool false) (Ex.eqlAgg rfl rfl (by kernel_rfl) (xeq25 n6 n93 n7 n94)) (congrArg Value.bool (decide_eq_false hk96)) (Wn.none rfl) rfl rfl ?_
                    refine WR.nil (WQ.any ?_)
                    refine WA.one (i := 3) (by kernel_rfl) rfl ?_
                    refine WR.step (Ex.move rfl) (Wn.none rfl) rfl rfl ?_
                    refine WR.nil (WQ.any ?_)
                    refine WA.one (i := 4) (by kernel_rfl) rfl ?_
                    refine WR.skipG (b := false) rfl rfl rfl rfl rfl ?_
                    refine WR.nil (WQ.any ?_)
                    refine WA.one (i := 5) (by kernel_rfl) rfl ?_
                    refine WR.skipG (b := false) rfl rfl rfl rfl rfl ?_
                    refine WR.nil (WQ.any ?_)
                    refine WA.one (i := 6) (by kernel_rfl) rfl ?_
                    refine WR.step (Ex.pickF rfl rfl) (Wn.none rfl) rfl rfl ?_
                    refine WR.nil (WQ.any ?_)
                    refine WA.one (i := 7) (by kernel_rfl) rfl ?_
                    refine WR.step (Ex.move rfl) (Wn.none rfl) rfl rfl ?_
                    refine WR.nil (WQ.any ?_)
                    refine WA.one (i := 8) (by kernel_rfl) rfl ?_
                    refine WR.skipG (b := false) rfl rfl rfl rfl rfl ?_
                    refine WR.nil (WQ.any ?_)
                    refine WA.one (i := 9) (by kernel_rfl) rfl ?_
                    refine WR.skipG (b := false) rfl rfl rfl rfl rfl ?_
                    refine WR.nil (WQ.any ?_)
                    refine WA.one (i := 10) (by kernel_rfl) rfl ?_
                    refine WR.step (Ex.pickF rfl rfl) (Wn.none rfl) rfl rfl ?_
                    refine WR.nil (WQ.any ?_)
                    refine WA.one (i := 11) (by kernel_rfl) rfl ?_
                    refine WR.step (Ex.assign rfl) (Wn.none rfl) rfl rfl ?_
                    refine WR.nil (WQ.any ?_)
                    refine WA.done (by kernel_rfl) ?_
                    exact WQ.meetN [(2, _)] ⟨rfl, trivial⟩ ⟨_, _, rfl, (H.pick (L' := []) (by repeat (first | exact Pick.nil | refine Pick.cons (by repeat (first | exact Rem.head | apply Rem.tail)) ?_))), e91⟩
                  ·
                    refine WR.call H (R_At_ct hx95) rfl trivial (Wn.none rfl) rfl ?_
                    intro v122 M w H hle hR
                    try dsimp only at hR
                    obtain rfl := hR
                    refine WR.nil (WQ.any ?_)
                    refine WA.one (i := 0) (by kernel_rfl) rfl ?_
                    refine WR.step (Ex.loadAgg H rfl (by repeat (first | exact List.Mem.head _ | apply List.Mem.tail)) Tryd.isAgg25 Tryd.sizeOf25 (by rfl)) (Wn.none rfl) rfl rfl ?_
                    refine WR.nil (WQ.any ?_)
                    refine WA.one (i := 2) (by kernel_rfl) rfl ?_
                    refine WR.stepE (v' := .bool false) (Ex.eqlAgg rfl rfl (by kernel_rfl) (xeq25 n6 n93 n7 n94)) (congrArg Value.bool (decide_eq_false hk96)) (Wn.none rfl) rfl rfl ?_
                    refine WR.nil (WQ.any ?_)
                    refine WA.one (i := 3) (by kernel_rfl) rfl ?_
                    refine WR.step (Ex.move rfl) (Wn.none rfl) rfl rfl ?_
                    refine WR.nil (WQ.any ?_)
                    refine WA.one (i := 4) (by kernel_rfl) rfl ?_
                    refine WR.skipG (b := false) rfl rfl rfl rfl rfl ?_
                    refine WR.nil (WQ.any ?_)
                    refine WA.one (i := 5) (by kernel_rfl) rfl ?_
                    refine WR.skipG (b := false) rfl rfl rfl rfl rfl ?_
                    refine WR.nil (WQ.any ?_)
                    refine WA.one (i := 6) (by kernel_rfl) rfl ?_
                    refine WR.step (Ex.pickF rfl rfl) (Wn.none rfl) rfl rfl ?_
                    refine WR.nil (WQ.any ?_)
                    refine WA.one (i := 7) (by kernel_rfl) rfl ?_
                    refine WR.step (Ex.move rfl) (Wn.none rfl) rfl rfl ?_
                    refine WR.nil (WQ.any ?_)
                    refine WA.one (i := 8) (by kernel_rfl) rfl ?_
                    refine WR.skipG (b := false) rfl rfl rfl rfl rfl ?_
                    refine WR.nil (WQ.any ?_)
                    refine WA.one (i := 9) (by kernel_rfl) rfl ?_
                    refine WR.skipG (b := false) rfl rfl rfl rfl rfl ?_
                    refine WR.nil (WQ.any ?_)
                    refine WA.one (i := 10) (by kernel_rfl) rfl ?_
                    refine WR.step (Ex.pickF rfl rfl) (Wn.none rfl) rfl rfl ?_
                    refine WR.nil (WQ.any ?_)
                    refine WA.one (i := 11) (by kernel_rfl) rfl ?_
                    refine WR.step (Ex.assign rfl) (Wn.none rfl) rfl rfl ?_
                    refine WR.nil (WQ.any ?_)
                    refine WA.done (by kernel_rfl) ?_
                    exact WQ.meetN [(2, _)] ⟨rfl, trivial⟩ ⟨_, _, rfl, (H.pick (L' := []) (by repeat (first | exact Pick.nil | refine Pick.cons (by repeat (first | exact Rem.head | apply Rem.tail)) ?_))), e91⟩
              ·
                rintro e w ⟨b92, M, rfl, H, q98⟩
                obtain rfl := Option.some.inj q98
                refine WQ.then ?_
                refine WC.ret ?_
                (repeat (first | refine WQ.thenRet ?_ | refine WQ.inBlockRet ?_ | refine WQ.cutRet ?_ | refine WQ.scRet ?_))
                obtain rfl := Option.some.inj h
                exact WQ.ret1 rfl rfl H.ext rfl
            ·
              subst hk89
              rw [if_neg Bool.false_ne_true] at h
              refine WC.skip ?_
              refine WQ.then ?_
              refine WC.seq ?_
              obtain ⟨n99, hxn99, h⟩ := bnd h
              obtain ⟨s100, hxs100, h⟩ := bnd h
              obtain ⟨s101, hx102, h⟩ := bnd h
              refine WC.region ?_
              refine WR.step (Ex.move rfl) (Wn.none rfl) rfl rfl ?_
              refine WR.step (Ex.move rfl) (Wn.none rfl) rfl rfl ?_
              refine WR.step (Ex.addC rfl rfl hxn99) (Wn.none rfl) rfl rfl ?_
              refine WR.step (Ex.sliceL Tryd.underlying9 rfl rfl hxs100) (Wn.none rfl) rfl rfl ?_
              refine WR.call H (R_Trim_ct hx102) rfl trivial (Wn.none rfl) rfl ?_
              intro v136 M w H hle hR
              obtain rfl := hR
              refine WR.step (Ex.assign rfl) (Wn.none rfl) rfl rfl ?_
              refine WR.nil ?_
              refine WQ.then ?_
              refine WC.seq ?_
              refine WC.seq ?_
              refine WC.region ?_
              refine WR.step (Ex.move rfl) (Wn.none rfl) rfl rfl ?_
              refine WR.step (Ex.lenStr Tryd.underlying9 rfl) (Wn.none rfl) rfl rfl ?_
              refine WR.step (Ex.gtr rfl rfl) (Wn.none rfl) rfl rfl ?_
              refine WR.nil ?_
              refine WQ.then ?_
              refine WC.condB rfl (fun hk103 => ?_) (fun hk103 => ?_)
              ·
                replace hk103 : (4000 : Int) < (s101.length : Int) := of_decide_eq_true hk103
                rw [if_pos hk103] at h
                refine WC.seq ?_
                obtain ⟨o104, e105, h⟩ := bnd h
                refine WC.cutX (fun e w => ∃ (b106 : Bool) (M : Mem), e = [(2, Value.bool b106)] ∧ St w0 M0 M [] w ∧ some b106 = some o104) [] ?_ ?_ (trivial)
                ·
                  obtain ⟨⟨n107, n108⟩, hx109, e105⟩ := bnd e105
                  try dsimp only at e105
                  by_cases hk110 : n6 = n107 ∧ n7 = n108
                  ·
                    rw [if_pos hk110] at e105
                    by_cases hk111 : s4 = []
                    ·
                      rw [if_pos hk111] at e105
                      refine WC.draw (m := 12) rfl rfl H ?_
                      intro w H
                      refine WA.two (i := 0) (j := 1) (by kernel_rfl) rfl rfl ?_ ?_
                      ·
                        refine WR.step (Ex.loadAgg H rfl (by repeat (first | exact List.Mem.head _ | apply List.Mem.tail)) Tryd.isAgg25 Tryd.sizeOf25 (by rfl)) (Wn.none rfl) rfl rfl ?_
                        refine WR.nil (WQ.any ?_)
                        refine WA.one (i := 1) (by kernel_rfl) rfl ?_
                        refine WR.call H (R_At_ct hx109) rfl trivial (Wn.none rfl) rfl ?_
                        intro v141 M w H hle hR
                        try dsimp only at hR
                        obtain rfl := hR
                        refine WR.nil (WQ.any ?_)
                        refine WA.one (i := 2) (by kernel_rfl) rfl ?_
                        refine WR.stepE (v' := .bool true) (Ex.eqlAgg rfl rfl (by kernel_rfl) (xeq25 n6 n107 n7 n108)) (congrArg Value.bool (decide_eq_true hk110)) (Wn.none rfl) rfl rfl ?_
                        refine WR.nil (WQ.any ?_)
                        refine WA.one (i := 3) (by kernel_rfl) rfl ?_
                        refine WR.step (Ex.move rfl) (Wn.none rfl) rfl rfl ?_
                        refine WR.nil (WQ.any ?_)
                        refine WA.one (i := 4) (by kernel_rfl) rfl ?_
                        refine WR.step (Ex.move rfl) (Wn.some rfl rfl rfl) rfl rfl ?_
                        refine WR.nil (WQ.any ?_)
                        refine WA.one (i := 5) (by kernel_rfl) rfl ?_
                        refine WR.stepE (v' := .bool true) (Ex.strEql rfl rfl) (congrArg Value.bool (decide_eq_true hk111)) (Wn.some rfl rfl rfl) rfl rfl ?_
                        refine WR.nil (WQ.any ?_)
                        refine WA.one (i := 6) (by kernel_rfl) rfl ?_
                        refine WR.step (Ex.pickT rfl rfl) (Wn.none rfl) rfl rfl ?_
                        refine WR.nil (WQ.any ?_)
                        refine WA.one (i := 7) (by kernel_rfl) rfl ?_
                        refine WR.step (Ex.move rfl) (Wn.none rfl) rfl rfl ?_
                        refine WR.nil (WQ.any ?_)
                        refine WA.one (i := 8) (by kernel_rfl) rfl ?_
                        refine WR.step (Ex.move rfl) (Wn.some rfl rfl rfl) rfl rfl ?_
                        refine WR.nil (WQ.any ?_)
                        refine WA.one (i := 9) (by kernel_rfl) rfl ?_
                        refine WR.step (Ex.strEql rfl rfl) (Wn.some rfl rfl rfl) rfl rfl ?_
                        refine WR.nil (WQ.any ?_)
                        refine WA.one (i := 10) (by kernel_rfl) rfl ?_
                        refine WR.step (Ex.pickT rfl rfl) (Wn.none rfl) rfl rfl ?_
                        refine WR.nil (WQ.any ?_)
                        refine WA.one (i := 11) (by kernel_rfl) rfl ?_
                        refine WR.step (Ex.assign rfl) (Wn.none rfl) rfl rfl ?_
                        refine WR.nil (WQ.any ?_)
                        refine WA.done (by kernel_rfl) ?_
                        exact WQ.meetN [(2, _)] ⟨rfl, trivial⟩ ⟨_, _, rfl, (H.pick (L' := []) (by repeat (first | exact Pick.nil | refine Pick.cons (by repeat (first | exact Rem.head | apply Rem.tail)) ?_))), e105⟩
                      ·
                        refine WR.call H (R_At_ct hx109) rfl trivial (Wn.none rfl) rfl ?_
                        intro v141 M w H hle hR
                        try dsimp only at hR
                        obtain rfl := hR
                        refine WR.nil (WQ.any ?_)
                        refine WA.one (i := 0) (by kernel_rfl) rfl ?_
                        refine WR.step (Ex.loadAgg H rfl (by repeat (first | exact List.Mem.head _ | apply List.Mem.tail)) Tryd.isAgg25 Tryd.sizeOf25 (by rfl)) (Wn.none rfl) rfl rfl ?_
                        refine WR.nil (WQ.any ?_)
                        refine WA.one (i := 2) (by kernel_rfl) rfl ?_
                        refine WR.stepE (v' := .bool true) (Ex.eqlAgg rfl rfl (by kernel_rfl) (xeq25 n6 n107 n7 n108)) (congrArg Value.bool (decide_eq_true hk110)) (Wn.none rfl) rfl rfl ?_
                        refine WR.nil (WQ.any ?_)
                        refine WA.one (i := 3) (by kernel_rfl) rfl ?_
                        refine WR.step (Ex.move rfl) (Wn.none rfl) rfl rfl ?_
                        refine WR.nil (WQ.any ?_)
                        refine WA.one (i := 4) (by kernel_rfl) rfl ?_
                        refine WR.step (Ex.move rfl) (Wn.some rfl rfl rfl) rfl rfl ?_
                        refine WR.nil (WQ.any ?_)
                        refine WA.one (i := 5) (by kernel_rfl) rfl ?_
                        refine WR.stepE (v' := .bool true) (Ex.strEql rfl rfl) (congrArg Value.bool (decide_eq_true hk111)) (Wn.some rfl rfl rfl) rfl rfl ?_
                        refine WR.nil (WQ.any ?_)
                        refine WA.one (i := 6) (by kernel_rfl) rfl ?_
                        refine WR.step (Ex.pickT rfl rfl) (Wn.none rfl) rfl rfl ?_
                        refine WR.nil (WQ.any ?_)
                        refine WA.one (i := 7) (by kernel_rfl) rfl ?_
                        refine WR.step (Ex.move rfl) (Wn.none rfl) rfl rfl ?_
                        refine WR.nil (WQ.any ?_)
                        refine WA.one (i := 8) (by kernel_rfl) rfl ?_
                        refine WR.step (Ex.move rfl) (Wn.some rfl rfl rfl) rfl rfl ?_
                        refine WR.nil (WQ.any ?_)
                        refine WA.one (i := 9) (by kernel_rfl) rfl ?_
                        refine WR.step (Ex.strEql rfl rfl) (Wn.some rfl rfl rfl) rfl rfl ?_
                        refine WR.nil (WQ.any ?_)
                        refine WA.one (i := 10) (by kernel_rfl) rfl ?_
                        refine WR.step (Ex.pickT rfl rfl) (Wn.none rfl) rfl rfl ?_
                        refine WR.nil (WQ.any ?_)
                        refine WA.one (i := 11) (by kernel_rfl) rfl ?_
                        refine WR.step (Ex.assign rfl) (Wn.none rfl) rfl rfl ?_
                        refine WR.nil (WQ.any ?_)
                        refine WA.done (by kernel_rfl) ?_
                        exact WQ.meetN [(2, _)] ⟨rfl, trivial⟩ ⟨_, _, rfl, (H.pick (L' := []) (by repeat (first | exact Pick.nil | refine Pick.cons (by repeat (first | exact Rem.head | apply Rem.tail)) ?_))), e105⟩
                    ·
                      rw [if_neg hk111] at e105
                      refine WC.draw (m := 12) rfl rfl H ?_
                      intro w H
                      refine WA.two (i := 0) (j := 1) (by kernel_rfl) rfl rfl ?_ ?_
                      ·
                        refine WR.step (Ex.loadAgg H rfl (by repeat (first | exact List.Mem.head _ | apply List.Mem.tail)) Tryd.isAgg25 Tryd.sizeOf25 (by rfl)) (Wn.none rfl) rfl rfl ?_
                        refine WR.nil (WQ.any ?_)
                        refine WA.one (i := 1) (by kernel_rfl) rfl ?_
                        refine WR.call H (R_At_ct hx109) rfl trivial (Wn.none rfl) rfl ?_
                        intro v141 M w H hle hR
                        try dsimp only at hR
                        obtain rfl := hR
                        refine WR.nil (WQ.any ?_)
                        refine WA.one (i := 2) (by kernel_rfl) rfl ?_
                        refine WR.stepE (v' := .bool true) (Ex.eqlAgg rfl rfl (by kernel_rfl) (xeq25 n6 n107 n7 n108)) (congrArg Value.bool (decide_eq_true hk110)) (Wn.none rfl) rfl rfl ?_
                        refine WR.nil (WQ.any ?_)
                        refine WA.one (i := 3) (by kernel_rfl) rfl ?_
                        refine WR.step (Ex.move rfl) (Wn.none rfl) rfl rfl ?_
                        refine WR.nil (WQ.any ?_)
                        refine WA.one (i := 4) (by kernel_rfl) rfl ?_
                        refine WR.step (Ex.move rfl) (Wn.some rfl rfl rfl) rfl rfl ?_
                        refine WR.nil (WQ.any ?_)
                        refine WA.one (i := 5) (by kernel_rfl) rfl ?_
                        refine WR.stepE (v' := .bool false) (Ex.strEql rfl rfl) (congrArg Value.bool (decide_eq_false hk111)) (Wn.some rfl rfl rfl) rfl rfl ?_
                        refine WR.nil (WQ.any ?_)
                        refine WA.one (i := 6) (by kernel_rfl) rfl ?_
                        refine WR.step (Ex.pickT rfl rfl) (Wn.none rfl) rfl rfl ?_
                        refine WR.nil (WQ.any ?_)
                        refine WA.one (i := 7) (by kernel_rfl) rfl ?_
                        refine WR.step (Ex.move rfl) (Wn.none rfl) rfl rfl ?_
                        refine WR.nil (WQ.any ?_)
                        refine WA.one (i := 8) (by kernel_rfl) rfl ?_
                        refine WR.skipG (b := false) rfl rfl rfl rfl rfl ?_
                        refine WR.nil (WQ.any ?_)
                        refine WA.one (i := 9) (by kernel_rfl) rfl ?_
                        refine WR.skipG (b := false) rfl rfl rfl rfl rfl ?_
                        refine WR.nil (WQ.any ?_)
                        refine WA.one (i := 10) (by kernel_rfl) rfl ?_
                        refine WR.step (Ex.pickF rfl rfl) (Wn.none rfl) rfl rfl ?_
                        refine WR.nil (WQ.any ?_)
                        refine WA.one (i := 11) (by kernel_rfl) rfl ?_
                        refine WR.step (Ex.assign rfl) (Wn.none rfl) rfl rfl ?_
                        refine WR.nil (WQ.any ?_)
                        refine WA.done (by kernel_rfl) ?_
                        exact WQ.meetN [(2, _)] ⟨rfl, trivial⟩ ⟨_, _, rfl, (H.pick (L' := []) (by repeat (first | exact Pick.nil | refine Pick.cons (by repeat (first | exact Rem.head | apply Rem.tail)) ?_))), e105⟩
                      ·
                        refine WR.call H (R_At_ct hx109) rfl trivial (Wn.none rfl) rfl ?_
                        intro v141 M w H hle hR
                        try dsimp only at hR
                        obtain rfl := hR
                        refine WR.nil (WQ.any ?_)
                        refine WA.one (i := 0) (by kernel_rfl) rfl ?_
                        refine WR.step (Ex.loadAgg H rfl (by repeat (first | exact List.Mem.head _ | apply List.Mem.tail)) Tryd.isAgg25 Tryd.sizeOf25 (by rfl)) (Wn.none rfl) rfl rfl ?_
                        refine WR.nil (WQ.any ?_)
                        refine WA.one (i := 2) (by kernel_rfl) rfl ?_
                        refine WR.stepE (v' := .bool true) (Ex.eqlAgg rfl rfl (by kernel_rfl) (xeq25 n6 n107 n7 n108)) (congrArg Value.bool (decide_eq_true hk110)) (Wn.none rfl) rfl rfl ?_
                        refine WR.nil (WQ.any ?_)
                        refine WA.one (i := 3) (by kernel_rfl) rfl ?_
                        refine WR.step (Ex.move rfl) (Wn.none rfl) rfl rfl ?_
                        refine WR.nil (WQ.any ?_)
                        refine WA.one (i := 4) (by kernel_rfl) rfl ?_
                        refine WR.step (Ex.move rfl) (Wn.some rfl rfl rfl) rfl rfl ?_
                        refine WR.nil (WQ.any ?_)
                        refine WA.one (i := 5) (by kernel_rfl) rfl ?_
                        refine WR.stepE (v' := .bool false) (Ex.strEql rfl rfl) (congrArg Value.bool (decide_eq_false hk111)) (Wn.some rfl rfl rfl) rfl rfl ?_
                        refine WR.nil (WQ.any ?_)
                        refine WA.one (i := 6) (by kernel_rfl) rfl ?_
                        refine WR.step (Ex.pickT rfl rfl) (Wn.none rfl) rfl rfl ?_
                        refine WR.nil (WQ.any ?_)
                        refine WA.one (i := 7) (by kernel_rfl) rfl ?_
                        refine WR.step (Ex.move rfl) (Wn.none rfl) rfl rfl ?_
                        refine WR.nil (WQ.any ?_)
                        refine WA.one (i := 8) (by kernel_rfl) rfl ?_
                        refine WR.skipG (b := false) rfl rfl rfl rfl rfl ?_
                        refine WR.nil (WQ.any ?_)
                        refine WA.one (i := 9) (by kernel_rfl) rfl ?_
                        refine WR.skipG (b := false) rfl rfl rfl rfl rfl ?_
                        refine WR.nil (WQ.any ?_)
                        refine WA.one (i := 10) (by kernel_rfl) rfl ?_
                        refine WR.step (Ex.pickF rfl rfl) (Wn.none rfl) rfl rfl ?_
                        refine WR.nil (WQ.any ?_)
                        refine WA.one (i := 11) (by kernel_rfl) rfl ?_
                        refine WR.step (Ex.assign rfl) (Wn.none rfl) rfl rfl ?_
                        refine WR.nil (WQ.any ?_)
                        refine WA.done (by kernel_rfl) ?_
                        exact WQ.meetN [(2, _)] ⟨rfl, trivial⟩ ⟨_, _, rfl, (H.pick (L' := []) (by repeat (first | exact Pick.nil | refine Pick.cons (by repeat (first | exact Rem.head | apply Rem.tail)) ?_))), e105⟩
                  ·
                    rw [if_neg hk110] at e105
                    refine WC.draw (m := 12) rfl rfl H ?_
                    intro w H
                    refine WA.two (i := 0) (j := 1) (by kernel_rfl) rfl rfl ?_ ?_
                    ·
                      refine WR.step (Ex.loadAgg H rfl (by repeat (first | exact List.Mem.head _ | apply List.Mem.tail)) Tryd.isAgg25 Tryd.sizeOf25 (by rfl)) (Wn.none rfl) rfl rfl ?_
                      refine WR.nil (WQ.any ?_)
                      refine WA.one (i := 1) (by kernel_rfl) rfl ?_
                      refine WR.call H (R_At_ct hx109) rfl trivial (Wn.none rfl) rfl ?_
                      intro v141 M w H hle hR
                      try dsimp only at hR
                      obtain rfl := hR
                      refine WR.nil (WQ.any ?_)
                      refine WA.one (i := 2) (by kernel_rfl) rfl ?_
                      refine WR.stepE (v' := .bool false) (Ex.eqlAgg rfl rfl (by kernel_rfl) (xeq25 n6 n107 n7 n108)) (congrArg Value.bool (decide_eq_false hk110)) (Wn.none rfl) rfl rfl ?_
                      refine WR.nil (WQ.any ?_)
                      refine WA.one (i := 3) (by kernel_rfl) rfl ?_
                      refine WR.step (Ex.move rfl) (Wn.none rfl) rfl rfl ?_
                      refine WR.nil (WQ.any ?_)
                      refine WA.one (i := 4) (by kernel_rfl) rfl ?_
                      refine WR.skipG (b := false) rfl rfl rfl rfl rfl ?_
                      refine WR.nil (WQ.any ?_)
                      refine WA.one (i := 5) (by kernel_rfl) rfl ?_
                      refine WR.skipG (b := false) rfl rfl rfl rfl rfl ?_
                      refine WR.nil (WQ.any ?_)
                      refine WA.one (i := 6) (by kernel_rfl) rfl ?_
                      refine WR.step (Ex.pickF rfl rfl) (Wn.none rfl) rfl rfl ?_
                      refine WR.nil (WQ.any ?_)
                      refine WA.one (i := 7) (by kernel_rfl) rfl ?_
                      refine WR.step (Ex.move rfl) (Wn.none rfl) rfl rfl ?_
                      refine WR.nil (WQ.any ?_)
                      refine WA.one (i := 8) (by kernel_rfl) rfl ?_
                      refine WR.skipG (b := false) rfl rfl rfl rfl rfl ?_
                      refine WR.nil (WQ.any ?_)
                      refine WA.one (i := 9) (by kernel_rfl) rfl ?_
                      refine WR.skipG (b := false) rfl rfl rfl rfl rfl ?_
                      refine WR.nil (WQ.any ?_)
                      refine WA.one (i := 10) (by kernel_rfl) rfl ?_
                      refine WR.step (Ex.pickF rfl rfl) (Wn.none rfl) rfl rfl ?_
                      refine WR.nil (WQ.any ?_)
                      refine WA.one (i := 11) (by kernel_rfl) rfl ?_
                      refine WR.step (Ex.assign rfl) (Wn.none rfl) rfl rfl ?_
                      refine WR.nil (WQ.any ?_)
                      refine WA.done (by kernel_rfl) ?_
                      exact WQ.meetN [(2, _)] ⟨rfl, trivial⟩ ⟨_, _, rfl, (H.pick (L' := []) (by repeat (first | exact Pick.nil | refine Pick.cons (by repeat (first | exact Rem.head | apply Rem.tail)) ?_))), e105⟩
                    ·
                      refine WR.call H (R_At_ct hx109) rfl trivial (Wn.none rfl) rfl ?_
                      intro v141 M w H hle hR
                      try dsimp only at hR
                      obtain rfl := hR
                      refine WR.nil (WQ.any ?_)
                      refine WA.one (i := 0) (by kernel_rfl) rfl ?_
                      refine WR.step (Ex.loadAgg H rfl (by repeat (first | exact List.Mem.head _ | apply List.Mem.tail)) Tryd.isAgg25 Tryd.sizeOf25 (by rfl)) (Wn.none rfl) rfl rfl ?_
                      refine WR.nil (WQ.any ?_)
                      refine WA.one (i := 2) (by kernel_rfl) rfl ?_
                      refine WR.stepE (v' := .bool false) (Ex.eqlAgg rfl rfl (by kernel_rfl) (xeq25 n6 n107 n7 n108)) (congrArg Value.bool (decide_eq_false hk110)) (Wn.none rfl) rfl rfl ?_
                      refine WR.nil (WQ.any ?_)
                      refine WA.one (i := 3) (by kernel_rfl) rfl ?_
                      refine WR.step (Ex.move rfl) (Wn.none rfl) rfl rfl ?_
                      refine WR.nil (WQ.any ?_)
                      refine WA.one (i := 4) (by kernel_rfl) rfl ?_
                      refine WR.skipG (b := false) rfl rfl rfl rfl rfl ?_
                      refine WR.nil (WQ.any ?_)
                      refine WA.one (i := 5) (by kernel_rfl) rfl ?_
                      refine WR.skipG (b := false) rfl rfl rfl rfl rfl ?_
                      refine WR.nil (WQ.any ?_)
                      refine WA.one (i := 6) (by kernel_rfl) rfl ?_
                      refine WR.step (Ex.pickF rfl rfl) (Wn.none rfl) rfl rfl ?_
                      refine WR.nil (WQ.any ?_)
                      refine WA.one (i := 7) (by kernel_rfl) rfl ?_
                      refine WR.step (Ex.move rfl) (Wn.none rfl) rfl rfl ?_
                      refine WR.nil (WQ.any ?_)
                      refine WA.one (i := 8) (by kernel_rfl) rfl ?_
                      refine WR.skipG (b := false) rfl rfl rfl rfl rfl ?_
                      refine WR.nil (WQ.any ?_)
                      refine WA.one (i := 9) (by kernel_rfl) rfl ?_
                      refine WR.skipG (b := false) rfl rfl rfl rfl rfl ?_
                      refine WR.nil (WQ.any ?_)
                      refine WA.one (i := 10) (by kernel_rfl) rfl ?_
                      refine WR.step (Ex.pickF rfl rfl) (Wn.none rfl) rfl rfl ?_
                      refine WR.nil (WQ.any ?_)
                      refine WA.one (i := 11) (by kernel_rfl) rfl ?_
                      refine WR.step (Ex.assign rfl) (Wn.none rfl) rfl rfl ?_
                      refine WR.nil (WQ.any ?_)
                      refine WA.done (by kernel_rfl) ?_
                      exact WQ.meetN [(2, _)] ⟨rfl, trivial⟩ ⟨_, _, rfl, (H.pick (L' := []) (by repeat (first | exact Pick.nil | refine Pick.cons (by repeat (first | exact Rem.head | apply Rem.tail)) ?_))), e105⟩
                ·
                  rintro e w ⟨b106, M, rfl, H, q112⟩
                  obtain rfl := Option.some.inj q112
                  refine WQ.then ?_
                  refine WC.ret ?_
                  (repeat (first | refine WQ.thenRet ?_ | refine WQ.inBlockRet ?_ | refine WQ.cutRet ?_ | refine WQ.scRet ?_))
                  obtain rfl := Option.some.inj h
                  exact WQ.ret1 rfl rfl H.ext rfl
              ·
                replace hk103 : ¬ ((4000 : Int) < (s101.length : Int)) := of_decide_eq_false hk103
                rw [if_neg hk103] at h
                refine WC.skip ?_
                refine WQ.then ?_
                refine WC.seq ?_
                obtain ⟨o113, e114, h⟩ := bnd h
                refine WC.cutX (fun e w => ∃ (b115 : Bool) (M : Mem), e = [(2, Value.bool b115)] ∧ St w0 M0 M [] w ∧ some b115 = some o113) [] ?_ ?_ (trivial)
                ·
                  by_cases hk116 : n6 = (0 : Int)
                  ·
                    rw [if_pos hk116] at e114
                    obtain ⟨s117, hxs117, e114⟩ := bnd e114
                    by_cases hk118 : s4 = s117
                    ·
                      rw [if_pos hk118] at e114
                      refine WC.region ?_
                      refine WR.step (Ex.fieldAddr Tryd.underlying25 rfl Tryd.sizeOf3 (by decide) rfl) (Wn.none rfl) rfl rfl ?_
                      refine WR.step (Ex.load1 H rfl (by repeat (first | exact List.Mem.head _ | apply List.Mem.tail)) Tryd.isAgg3 (by rfl)) (Wn.none rfl) rfl rfl ?_
                      refine WR.stepE (v' := .bool true) (Ex.eql rfl rfl) (congrArg Value.bool (decide_eq_true hk116)) (Wn.none rfl) rfl rfl ?_
                      refine WR.step (Ex.move rfl) (Wn.none rfl) rfl rfl ?_
                      refine WR.step (Ex.move rfl) (Wn.some rfl rfl rfl) rfl rfl ?_
                      refine WR.step (Ex.move rfl) (Wn.some rfl rfl rfl) rfl rfl ?_
                      refine WR.step (Ex.move rfl) (Wn.some rfl rfl rfl) rfl rfl ?_
                      refine WR.step (Ex.sliceH Tryd.underlying9 rfl rfl hxs117) (Wn.some rfl rfl rfl) rfl rfl ?_
                      refine WR.stepE (v' := .bool true) (Ex.strEql rfl rfl) (congrArg Value.bool (decide_eq_true hk118)) (Wn.some rfl rfl rfl) rfl rfl ?_
                      refine WR.step (Ex.pickT rfl rfl) (Wn.none rfl) rfl rfl ?_
                      refine WR.step (Ex.move rfl) (Wn.none rfl) rfl rfl ?_
                      refine WR.step (Ex.move rfl) (Wn.some rfl rfl rfl) rfl rfl ?_
                      refine WR.step (Ex.move rfl) (Wn.some rfl rfl rfl) rfl rfl ?_
                      refine WR.step (Ex.strEql rfl rfl) (Wn.some rfl rfl rfl) rfl rfl ?_
                      refine WR.step (Ex.pickT rfl rfl) (Wn.none rfl) rfl rfl ?_
                      refine WR.step (Ex.assign rfl) (Wn.none rfl) rfl rfl ?_
                      refine WR.nil ?_
                      exact WQ.meetN [(2, _)] ⟨rfl, trivial⟩ ⟨_, _, rfl, (H.pick (L' := []) (by repeat (first | exact Pick.nil | refine Pick.cons (by repeat (first | exact Rem.head | apply Rem.tail)) ?_))), e114⟩
                    ·
                      rw [if_neg hk118] at e114
                      refine WC.region ?_
                      refine WR.step (Ex.fieldAddr Tryd.underlying25 rfl Tryd.sizeOf3 (by decide) rfl) (Wn.none rfl) rfl rfl ?_
                      refine WR.step (Ex.load1 H rfl (by repeat (first | exact List.Mem.head _ | apply List.Mem.tail)) Tryd.isAgg3 (by rfl)) (Wn.none rfl) rfl rfl ?_
                      refine WR.stepE (v' := .bool true) (Ex.eql rfl rfl) (congrArg Value.bool (decide_eq_true hk116)) (Wn.none rfl) rfl rfl ?_
                      refine WR.step (Ex.move rfl) (Wn.none rfl) rfl rfl ?_
                      refine WR.step (Ex.move rfl) (Wn.some rfl rfl rfl) rfl rfl ?_
                      refine WR.step (Ex.move rfl) (Wn.some rfl rfl rfl) rfl rfl ?_
                      refine WR.step (Ex.move rfl) (Wn.some rfl rfl rfl) rfl rfl ?_
                      refine WR.step (Ex.sliceH Tryd.underlying9 rfl rfl hxs117) (Wn.some rfl rfl rfl) rfl rfl ?_
                      refine WR.stepE (v' := .bool false) (Ex.strEql rfl rfl) (congrArg Value.bool (decide_eq_false hk118)) (Wn.some rfl rfl rfl) rfl rfl ?_
                      refine WR.step (Ex.pickT rfl rfl) (Wn.none rfl) rfl rfl ?_
                      refine WR.step (Ex.move rfl) (Wn.none rfl) rfl rfl ?_
                      refine WR.skipG (b := false) rfl rfl rfl rfl rfl ?_
                      refine WR.skipG (b := false) rfl rfl rfl rfl rfl ?_
                      refine WR.skipG (b := false) rfl rfl rfl rfl rfl ?_
                      refine WR.step (Ex.pickF rfl rfl) (Wn.none rfl) rfl rfl ?_
                      refine WR.step (Ex.assign rfl) (Wn.none rfl) rfl rfl ?_
                      refine WR.nil ?_
                      exact WQ.meetN [(2, _)] ⟨rfl, trivial⟩ ⟨_, _, rfl, (H.pick (L' := []) (by repeat (first | exact Pick.nil | refine Pick.cons (by repeat (first | exact Rem.head | apply Rem.tail)) ?_))), e114⟩
                  ·
                    rw [if_neg hk116] at e114
                    refine WC.region ?_
                    refine WR.step (Ex.fieldAddr Tryd.underlying25 rfl Tryd.sizeOf3 (by decide) rfl) (Wn.none rfl) rfl rfl ?_
                    refine WR.step (Ex.load1 H rfl (by repeat (first | exact List.Mem.head _ | apply List.Mem.tail)) Tryd.isAgg3 (by rfl)) (Wn.none rfl) rfl rfl ?_
                    refine WR.stepE (v' := .bool false) (Ex.eql rfl rfl) (congrArg Value.bool (decide_eq_false hk116)) (Wn.none rfl) rfl rfl ?_
                    refine WR.step (Ex.move rfl) (Wn.none rfl) rfl rfl ?_
                    refine WR.skipG (b := false) rfl rfl rfl rfl rfl ?_
                    refine WR.skipG (b := false) rfl rfl rfl rfl rfl ?_
                    refine WR.skipG (b := false) rfl rfl rfl rfl rfl ?_
                    refine WR.skipG (b := false) rfl rfl rfl rfl rfl ?_
                    refine WR.skipG (b := false) rfl rfl rfl rfl rfl ?_
                    refine WR.step (Ex.pickF rfl rfl) (Wn.none rfl) rfl rfl ?_
                    refine WR.step (Ex.move rfl) (Wn.none rfl) rfl rfl ?_
                    refine WR.skipG (b := false) rfl rfl rfl rfl rfl ?_
                    refine WR.skipG (b := false) rfl rfl rfl rfl rfl ?_
                    refine WR.skipG (b := false) rfl rfl rfl rfl rfl ?_
                    refine WR.step (Ex.pickF rfl rfl) (Wn.none rfl) rfl rfl ?_
                    refine WR.step (Ex.assign rfl) (Wn.none rfl) rfl rfl ?_
                    refine WR.nil ?_
                    exact WQ.meetN [(2, _)] ⟨rfl, trivial⟩ ⟨_, _, rfl, (H.pick (L' := []) (by repeat (first | exact Pick.nil | refine Pick.cons (by repeat (first | exact Rem.head | apply Rem.tail)) ?_))), e114⟩
                ·
                  rintro e w ⟨b115, M, rfl, H, q119⟩
                  obtain rfl := Option.some.inj q119
                  refine WQ.then ?_
                  refine WC.ret ?_
                  (repeat (first | refine WQ.thenRet ?_ | refine WQ.inBlockRet ?_ | refine WQ.cutRet ?_ | refine WQ.scRet ?_))
                  obtain rfl := Option.some.inj h
                  exact WQ.ret1 rfl rfl H.ext rfl
end Go.Proofs.YtolmifddbjdepaaDoor
