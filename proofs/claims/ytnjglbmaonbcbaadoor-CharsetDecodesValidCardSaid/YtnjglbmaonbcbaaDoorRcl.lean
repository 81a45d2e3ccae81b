/-
  the reference: characters: walks over the program's own operations, written by a program of this repository (wip/tools/gen.py) out of a plan.
-/
import Derived.Test.YtnjglbmaonbcbaaDoorUsr
import Derived.KernelRfl
set_option linter.unusedVariables false
set_option linter.unusedSimpArgs false
namespace Go.Proofs.YtnjglbmaonbcbaaDoor
open Go Go.RowKit Go.Ph

open Go.Ph.Gr Go.Ph.Utf
theorem class_spec (n : Int) : Ct Tryd.prog 35 [I n] (fun _ => True) (fun r _ => r = I (cls n)) := by
  refine Ct.of Tryd.func35 (enters Tryd.func35 (by kernel_rfl) rfl) rfl rfl rfl ?_
  intro w0 M0 H hp
  refine WC.seq ?_
  refine WC.region ?_
  refine WR.step (Ex.assign rfl) (Wn.none rfl) rfl rfl ?_
  refine WR.nil ?_
  refine WQ.then ?_
  refine WC.seq ?_
  refine WC.block ?_
  refine WC.seq ?_
  refine WC.region ?_
  refine WR.step (Ex.move rfl) (Wn.none rfl) rfl rfl ?_
  refine WR.split (Ex.eql rfl rfl) (Wn.none rfl) rfl rfl (fun h1_1 => ?_) (fun h1_1 => ?_)
  ·
    refine WR.step (Ex.assign rfl) (Wn.none rfl) rfl rfl ?_
    refine WR.nil ?_
    refine WQ.then ?_
    refine WC.condT rfl ?_
    refine WC.seq ?_
    refine WC.region ?_
    refine WR.step (Ex.assign rfl) (Wn.none rfl) rfl rfl ?_
    refine WR.nil ?_
    refine WQ.then ?_
    refine WC.ret ?_
    (repeat (first | refine WQ.thenRet ?_ | refine WQ.inBlockRet ?_))
    refine WQ.ret1 rfl rfl H.ext ?_
    exact by rw [cls, if_pos (by omega)]
  ·
    refine WR.step (Ex.assign rfl) (Wn.none rfl) rfl rfl ?_
    refine WR.nil ?_
    refine WQ.then ?_
    refine WC.condF rfl ?_
    refine WC.seq ?_
    refine WC.region ?_
    refine WR.step (Ex.move rfl) (Wn.none rfl) rfl rfl ?_
    refine WR.split (Ex.eql rfl rfl) (Wn.none rfl) rfl rfl (fun h3_1 => ?_) (fun h3_1 => ?_)
    ·
      refine WR.step (Ex.assign rfl) (Wn.none rfl) rfl rfl ?_
      refine WR.nil ?_
      refine WQ.then ?_
      refine WC.condT rfl ?_
      refine WC.seq ?_
      refine WC.region ?_
      refine WR.step (Ex.assign rfl) (Wn.none rfl) rfl rfl ?_
      refine WR.nil ?_
      refine WQ.then ?_
      refine WC.ret ?_
      (repeat (first | refine WQ.thenRet ?_ | refine WQ.inBlockRet ?_))
      refine WQ.ret1 rfl rfl H.ext ?_
      exact by rw [cls, if_neg (by omega), if_pos (by omega)]
    ·
      refine WR.step (Ex.assign rfl) (Wn.none rfl) rfl rfl ?_
      refine WR.nil ?_
      refine WQ.then ?_
      refine WC.condF rfl ?_
      refine WC.seq ?_
      refine WC.region ?_
      refine WR.step (Ex.move rfl) (Wn.none rfl) rfl rfl ?_
      refine WR.callB H (in_spec _ _ _) rfl (trivial) (Wn.none rfl) rfl (fun h5_1 => ?_) (fun h5_1 => ?_)
      ·
        intro M w H hle
        refine WR.step (Ex.move rfl) (Wn.none rfl) rfl rfl ?_
        refine WR.skipG (b := true) rfl rfl rfl rfl rfl ?_
        refine WR.skipG (b := true) rfl rfl rfl rfl rfl ?_
        refine WR.step (Ex.pickT rfl rfl) (Wn.none rfl) rfl rfl ?_
        refine WR.step (Ex.assign rfl) (Wn.none rfl) rfl rfl ?_
        refine WR.nil ?_
        refine WQ.then ?_
        refine WC.condT rfl ?_
        refine WC.seq ?_
        refine WC.region ?_
        refine WR.step (Ex.assign rfl) (Wn.none rfl) rfl rfl ?_
        refine WR.nil ?_
        refine WQ.then ?_
        refine WC.ret ?_
        (repeat (first | refine WQ.thenRet ?_ | refine WQ.inBlockRet ?_))
        refine WQ.ret1 rfl rfl H.ext ?_
        exact by rw [cls, if_neg (by omega), if_neg (by omega), if_pos (by omega)]
      ·
        intro M w H hle
        refine WR.step (Ex.move rfl) (Wn.none rfl) rfl rfl ?_
        refine WR.step (Ex.move rfl) (Wn.some rfl rfl rfl) rfl rfl ?_
        refine WR.callB H (in_spec _ _ _) rfl (trivial) (Wn.some rfl rfl rfl) rfl (fun h5_4 => ?_) (fun h5_4 => ?_)
        ·
          intro M w H hle
          refine WR.step (Ex.pickF rfl rfl) (Wn.none rfl) rfl rfl ?_
          refine WR.step (Ex.assign rfl) (Wn.none rfl) rfl rfl ?_
          refine WR.nil ?_
          refine WQ.then ?_
          refine WC.condT rfl ?_
          refine WC.seq ?_
          refine WC.region ?_
          refine WR.step (Ex.assign rfl) (Wn.none rfl) rfl rfl ?_
          refine WR.nil ?_
          refine WQ.then ?_
          refine WC.ret ?_
          (repeat (first | refine WQ.thenRet ?_ | refine WQ.inBlockRet ?_))
          refine WQ.ret1 rfl rfl H.ext ?_
          exact by rw [cls, if_neg (by omega), if_neg (by omega), if_pos (by omega)]
        ·
          intro M w H hle
          refine WR.step (Ex.pickF rfl rfl) (Wn.none rfl) rfl rfl ?_
          refine WR.step (Ex.assign rfl) (Wn.none rfl) rfl rfl ?_
          refine WR.nil ?_
          refine WQ.then ?_
          refine WC.condF rfl ?_
          refine WC.seq ?_
          refine WC.region ?_
          refine WR.step (Ex.move rfl) (Wn.none rfl) rfl rfl ?_
          refine WR.callB H (in_spec _ _ _) rfl (trivial) (Wn.none rfl) rfl (fun h7_1 => ?_) (fun h7_1 => ?_)
          ·
            intro M w H hle
            refine WR.step (Ex.move rfl) (Wn.none rfl) rfl rfl ?_
            refine WR.skipG (b := true) rfl rfl rfl rfl rfl ?_
            refine WR.skipG (b := true) rfl rfl rfl rfl rfl ?_
            refine WR.step (Ex.pickT rfl rfl) (Wn.none rfl) rfl rfl ?_
            refine WR.step (Ex.move rfl) (Wn.none rfl) rfl rfl ?_
            refine WR.skipG (b := true) rfl rfl rfl rfl rfl ?_
            refine WR.skipG (b := true) rfl rfl rfl rfl rfl ?_
            refine WR.step (Ex.pickT rfl rfl) (Wn.none rfl) rfl rfl ?_
            refine WR.step (Ex.move rfl) (Wn.none rfl) rfl rfl ?_
            refine WR.skipG (b := true) rfl rfl rfl rfl rfl ?_
            refine WR.skipG (b := true) rfl rfl rfl rfl rfl ?_
            refine WR.step (Ex.pickT rfl rfl) (Wn.none rfl) rfl rfl ?_
            refine WR.step (Ex.move rfl) (Wn.none rfl) rfl rfl ?_
            refine WR.skipG (b := true) rfl rfl rfl rfl rfl ?_
            refine WR.skipG (b := true) rfl rfl rfl rfl rfl ?_
            refine WR.step (Ex.pickT rfl rfl) (Wn.none rfl) rfl rfl ?_
            refine WR.step (Ex.move rfl) (Wn.none rfl) rfl rfl ?_
            refine WR.skipG (b := true) rfl rfl rfl rfl rfl ?_
            refine WR.skipG (b := true) rfl rfl rfl rfl rfl ?_
            refine WR.step (Ex.pickT rfl rfl) (Wn.none rfl) rfl rfl ?_
            refine WR.step (Ex.move rfl) (Wn.none rfl) rfl rfl ?_
            refine WR.skipG (b := true) rfl rfl rfl rfl rfl ?_
            refine WR.skipG (b := true) rfl rfl rfl rfl rfl ?_
            refine WR.step (Ex.pickT rfl rfl) (Wn.none rfl) rfl rfl ?_
            refine WR.step (Ex.assign rfl) (Wn.none rfl) rfl rfl ?_
            refine WR.nil ?_
            refine WQ.then ?_
            refine WC.condT rfl ?_
            refine WC.seq ?_
            refine WC.region ?_
            refine WR.step (Ex.assign rfl) (Wn.none rfl) rfl rfl ?_
            refine WR.nil ?_
            refine WQ.then ?_
            refine WC.ret ?_
            (repeat (first | refine WQ.thenRet ?_ | refine WQ.inBlockRet ?_))
            refine WQ.ret1 rfl rfl H.ext ?_
            exact by rw [cls, if_neg (by omega), if_neg (by omega), if_neg (by omega), if_pos (by omega)]
          ·
            intro M w H hle
            refine WR.step (Ex.move rfl) (Wn.none rfl) rfl rfl ?_
            refine WR.step (Ex.move rfl) (Wn.some rfl rfl rfl) rfl rfl ?_
            refine WR.callB H (in_spec _ _ _) rfl (trivial) (Wn.some rfl rfl rfl) rfl (fun h7_4 => ?_) (fun h7_4 => ?_)
            ·
              intro M w H hle
              refine WR.step (Ex.pickF rfl rfl) (Wn.none rfl) rfl rfl ?_
              refine WR.step (Ex.move rfl) (Wn.none rfl) rfl rfl ?_
              refine WR.skipG (b := true) rfl rfl rfl rfl rfl ?_
              refine WR.skipG (b := true) rfl rfl rfl rfl rfl ?_
              refine WR.step (Ex.pickT rfl rfl) (Wn.none rfl) rfl rfl ?_
              refine WR.step (Ex.move rfl) (Wn.none rfl) rfl rfl ?_
              refine WR.skipG (b := true) rfl rfl rfl rfl rfl ?_
              refine WR.skipG (b := true) rfl rfl rfl rfl rfl ?_
              refine WR.step (Ex.pickT rfl rfl) (Wn.none rfl) rfl rfl ?_
              refine WR.step (Ex.move rfl) (Wn.none rfl) rfl rfl ?_
              refine WR.skipG (b := true) rfl rfl rfl rfl rfl ?_
              refine WR.skipG (b := true) rfl rfl rfl rfl rfl ?_
              refine WR.step (Ex.pickT rfl rfl) (Wn.none rfl) rfl rfl ?_
              refine WR.step (Ex.move rfl) (Wn.none rfl) rfl rfl ?_
              refine WR.skipG (b := true) rfl rfl rfl rfl rfl ?_
              refine WR.skipG (b := true) rfl rfl rfl rfl rfl ?_
              refine WR.step (Ex.pickT rfl rfl) (Wn.none rfl) rfl rfl ?_
              refine WR.step (Ex.move rfl) (Wn.none rfl) rfl rfl ?_
              refine WR.skipG (b := true) rfl rfl rfl rfl rfl ?_
              refine WR.skipG (b := true) rfl rfl rfl rfl rfl ?_
              refine WR.step (Ex.pickT rfl rfl) (Wn.none rfl) rfl rfl ?_
              refine WR.step (Ex.assign rfl) (Wn.none rfl) rfl rfl ?_
              refine WR.nil ?_
              refine WQ.then ?_
              refine WC.condT rfl ?_
              refine WC.seq ?_
              refine WC.region ?_
              refine WR.step (Ex.assign rfl) (Wn.none rfl) rfl rfl ?_
              refine WR.nil ?_
              refine WQ.then ?_
              refine WC.ret ?_
              (repeat (first | refine WQ.thenRet ?_ | refine WQ.inBlockRet ?_))
              refine WQ.ret1 rfl rfl H.ext ?_
              exact by rw [cls, if_neg (by omega), if_neg (by omega), if_neg (by omega), if_pos (by omega)]
            ·
              intro M w H hle
              refine WR.step (Ex.pickF rfl rfl) (Wn.none rfl) rfl rfl ?_
              refine WR.step (Ex.move rfl) (Wn.none rfl) rfl rfl ?_
              refine WR.step (Ex.move rfl) (Wn.some rfl rfl rfl) rfl rfl ?_
              refine WR.callB H (in_spec _ _ _) rfl (trivial) (Wn.some rfl rfl rfl) rfl (fun h7_8 => ?_) (fun h7_8 => ?_)
              ·
                intro M w H hle
                refine WR.step (Ex.pickF rfl rfl) (Wn.none rfl) rfl rfl ?_
                refine WR.step (Ex.move rfl) (Wn.none rfl) rfl rfl ?_
                refine WR.skipG (b := true) rfl rfl rfl rfl rfl ?_
                refine WR.skipG (b := true) rfl rfl rfl rfl rfl ?_
                refine WR.step (Ex.pickT rfl rfl) (Wn.none rfl) rfl rfl ?_
                refine WR.step (Ex.move rfl) (Wn.none rfl) rfl rfl ?_
                refine WR.skipG (b := true) rfl rfl rfl rfl rfl ?_
                refine WR.skipG (b := true) rfl rfl rfl rfl rfl ?_
                refine WR.step (Ex.pickT rfl rfl) (Wn.none rfl) rfl rfl ?_
                refine WR.step (Ex.move rfl) (Wn.none rfl) rfl rfl ?_
                refine WR.skipG (b := true) rfl rfl rfl rfl rfl ?_
                refine WR.skipG (b := true) rfl rfl rfl rfl rfl ?_
                refine WR.step (Ex.pickT rfl rfl) (Wn.none rfl) rfl rfl ?_
                refine WR.step (Ex.move rfl) (Wn.none rfl) rfl rfl ?_
                refine WR.skipG (b := true) rfl rfl rfl rfl rfl ?_
                refine WR.skipG (b := true) rfl rfl rfl rfl rfl ?_
                refine WR.step (Ex.pickT rfl rfl) (Wn.none rfl) rfl rfl ?_
                refine WR.step (Ex.assign rfl) (Wn.none rfl) rfl rfl ?_
                refine WR.nil ?_
                refine WQ.then ?_
                refine WC.condT rfl ?_
                refine WC.seq ?_
                refine WC.region ?_
                refine WR.step (Ex.assign rfl) (Wn.none rfl) rfl rfl ?_
                refine WR.nil ?_
                refine WQ.then ?_
                refine WC.ret ?_
                (repeat (first | refine WQ.thenRet ?_ | refine WQ.inBlockRet ?_))
                refine WQ.ret1 rfl rfl H.ext ?_
                exact by rw [cls, if_neg (by omega), if_neg (by omega), if_neg (by omega), if_pos (by omega)]
              ·
                intro M w H hle
                refine WR.step (Ex.pickF rfl rfl) (Wn.none rfl) rfl rfl ?_
                refine WR.step (Ex.move rfl) (Wn.none rfl) rfl rfl ?_
                refine WR.step (Ex.move rfl) (Wn.some rfl rfl rfl) rfl rfl ?_
                refine WR.callB H (in_spec _ _ _) rfl (trivial) (Wn.some rfl rfl rfl) rfl (fun h7_12 => ?_) (fun h7_12 => ?_)
                ·
                  intro M w H hle
                  refine WR.step (Ex.pickF rfl rfl) (Wn.none rfl) rfl rfl ?_
                  refine WR.step (Ex.move rfl) (Wn.none rfl) rfl rfl ?_
                  refine WR.skipG (b := true) rfl rfl rfl rfl rfl ?_
                  refine WR.skipG (b := true) rfl rfl rfl rfl rfl ?_
                  refine WR.step (Ex.pickT rfl rfl) (Wn.none rfl) rfl rfl ?_
                  refine WR.step (Ex.move rfl) (Wn.none rfl) rfl rfl ?_
                  refine WR.skipG (b := true) rfl rfl rfl rfl rfl ?_
                  refine WR.skipG (b := true) rfl rfl rfl rfl rfl ?_
                  refine WR.step (Ex.pickT rfl rfl) (Wn.none rfl) rfl rfl ?_
                  refine WR.step (Ex.move rfl) (Wn.none rfl) rfl rfl ?_
                  refine WR.skipG (b := true) rfl rfl rfl rfl rfl ?_
                  refine WR.skipG (b := true) rfl rfl rfl rfl rfl ?_
                  refine WR.step (Ex.pickT rfl rfl) (Wn.none rfl) rfl rfl ?_
                  refine WR.step (Ex.assign rfl) (Wn.none rfl) rfl rfl ?_
                  refine WR.nil ?_
                  refine WQ.then ?_
                  refine WC.condT rfl ?_
                  refine WC.seq ?_
                  refine WC.region ?_
                  refine WR.step (Ex.assign rfl) (Wn.none rfl) rfl rfl ?_
                  refine WR.nil ?_
                  refine WQ.then ?_
                  refine WC.ret ?_
                  (repeat (first | refine WQ.thenRet ?_ | refine WQ.inBlockRet ?_))
                  refine WQ.ret1 rfl rfl H.ext ?_
                  exact by rw [cls, if_neg (by omega), if_neg (by omega), if_neg (by omega), if_pos (by omega)]
                ·
                  intro M w H hle
                  refine WR.step (Ex.pickF rfl rfl) (Wn.none rfl) rfl rfl ?_
                  refine WR.step (Ex.move rfl) (Wn.none rfl) rfl rfl ?_
                  refine WR.step (Ex.move rfl) (Wn.some rfl rfl rfl) rfl rfl ?_
                  refine WR.callB H (in_spec _ _ _) rfl (trivial) (Wn.some rfl rfl rfl) rfl (fun h7_16 => ?_) (fun h7_16 => ?_)
                  ·
                    intro M w H hle
                    refine WR.step (Ex.pickF rfl rfl) (Wn.none rfl) rfl rfl ?_
                    refine WR.step (Ex.move rfl) (Wn.none rfl) rfl rfl ?_
                    refine WR.skipG (b := true) rfl rfl rfl rfl rfl ?_
                    refine WR.skipG (b := true) rfl rfl rfl rfl rfl ?_
                    refine WR.step (Ex.pickT rfl rfl) (Wn.none rfl) rfl rfl ?_
                    refine WR.step (Ex.move rfl) (Wn.none rfl) rfl rfl ?_
                    refine WR.skipG (b := true) rfl rfl rfl rfl rfl ?_
                    refine WR.skipG (b := true) rfl rfl rfl rfl rfl ?_
                    refine WR.step (Ex.pickT rfl rfl) (Wn.none rfl) rfl rfl ?_
                    refine WR.step (Ex.assign rfl) (Wn.none rfl) rfl rfl ?_
                    refine WR.nil ?_
                    refine WQ.then ?_
                    refine WC.condT rfl ?_
                    refine WC.seq ?_
                    refine WC.region ?_
                    refine WR.step (Ex.assign rfl) (Wn.none rfl) rfl rfl ?_
                    refine WR.nil ?_
                    refine WQ.then ?_
                    refine WC.ret ?_
                    (repeat (first | refine WQ.thenRet ?_ | refine WQ.inBlockRet ?_))
                    refine WQ.ret1 rfl rfl H.ext ?_
                    exact by rw [cls, if_neg (by omega), if_neg (by omega), if_neg (by omega), if_pos (by omega)]
                  ·
                    intro M w H hle
                    refine WR.step (Ex.pickF rfl rfl) (Wn.none rfl) rfl rfl ?_
                    refine WR.step (Ex.move rfl) (Wn.none rfl) rfl rfl ?_
                    refine WR.step (Ex.move rfl) (Wn.some rfl rfl rfl) rfl rfl ?_
                    refine WR.callB H (in_spec _ _ _) rfl (trivial) (Wn.some rfl rfl rfl) rfl (fun h7_20 => ?_) (fun h7_20 => ?_)
                    ·
                      intro M w H hle
                      refine WR.step (Ex.pickF rfl rfl) (Wn.none rfl) rfl rfl ?_
                      refine WR.step (Ex.move rfl) (Wn.none rfl) rfl rfl ?_
                      refine WR.skipG (b := true) rfl rfl rfl rfl rfl ?_
                      refine WR.skipG (b := true) rfl rfl rfl rfl rfl ?_
                      refine WR.step (Ex.pickT rfl rfl) (Wn.none rfl) rfl rfl ?_
                      refine WR.step (Ex.assign rfl) (Wn.none rfl) rfl rfl ?_
                      refine WR.nil ?_
                      refine WQ.then ?_
                      refine WC.condT rfl ?_
                      refine WC.seq ?_
                      refine WC.region ?_
                      refine WR.step (Ex.assign rfl) (Wn.none rfl) rfl rfl ?_
                      refine WR.nil ?_
                      refine WQ.then ?_
                      refine WC.ret ?_
                      (repeat (first | refine WQ.thenRet ?_ | refine WQ.inBlockRet ?_))
                      refine WQ.ret1 rfl rfl H.ext ?_
                      exact by rw [cls, if_neg (by omega), if_neg (by omega), if_neg (by omega), if_pos (by omega)]
                    ·
                      intro M w H hle
                      refine WR.step (Ex.pickF rfl rfl) (Wn.none rfl) rfl rfl ?_
                      refine WR.step (Ex.move rfl) (Wn.none rfl) rfl rfl ?_
                      refine WR.step (Ex.move rfl) (Wn.some rfl rfl rfl) rfl rfl ?_
                      refine WR.callB H (in_spec _ _ _) rfl (trivial) (Wn.some rfl rfl rfl) rfl (fun h7_24 => ?_) (fun h7_24 => ?_)
                      ·
                        intro M w H hle
                        refine WR.step (Ex.pickF rfl rfl) (Wn.none rfl) rfl rfl ?_
                        refine WR.step (Ex.assign rfl) (Wn.none rfl) rfl rfl ?_
                        refine WR.nil ?_
                        refine WQ.then ?_
                        refine WC.condT rfl ?_
                        refine WC.seq ?_
                        refine WC.region ?_
                        refine WR.step (Ex.assign rfl) (Wn.none rfl) rfl rfl ?_
                        refine WR.nil ?_
                        refine WQ.then ?_
                        refine WC.ret ?_
                        (repeat (first | refine WQ.thenRet ?_ | refine WQ.inBlockRet ?_))
                        refine WQ.ret1 rfl rfl H.ext ?_
                        exact by rw [cls, if_neg (by omega), if_neg (by omega), if_neg (by omega), if_pos (by omega)]
                      ·
                        intro M w H hle
                        refine WR.step (Ex.pickF rfl rfl) (Wn.none rfl) rfl rfl ?_
                        refine WR.step (Ex.assign rfl) (Wn.none rfl) rfl rfl ?_
                        refine WR.nil ?_
                        refine WQ.then ?_
                        refine WC.condF rfl ?_
                        refine WC.seq ?_
                        refine WC.region ?_
                        refine WR.step (Ex.move rfl) (Wn.none rfl) rfl rfl ?_
                        refine WR.split (Ex.eql rfl rfl) (Wn.none rfl) rfl rfl (fun h9_1 => ?_) (fun h9_1 => ?_)
                        ·
                          refine WR.step (Ex.assign rfl) (Wn.none rfl) rfl rfl ?_
                          refine WR.nil ?_
                          refine WQ.then ?_
                          refine WC.condT rfl ?_
                          refine WC.seq ?_
                          refine WC.region ?_
                          refine WR.step (Ex.assign rfl) (Wn.none rfl) rfl rfl ?_
                          refine WR.nil ?_
                          refine WQ.then ?_
                          refine WC.ret ?_
                          (repeat (first | refine WQ.thenRet ?_ | refine WQ.inBlockRet ?_))
                          refine WQ.ret1 rfl rfl H.ext ?_
                          exact by rw [cls, if_neg (by omega), if_neg (by omega), if_neg (by omega), if_neg (by omega), if_pos (by omega)]
                        ·
                          refine WR.step (Ex.assign rfl) (Wn.none rfl) rfl rfl ?_
                          refine WR.nil ?_
                          refine WQ.then ?_
                          refine WC.condF rfl ?_
                          refine WC.seq ?_
                          refine WC.region ?_
                          refine WR.step (Ex.move rfl) (Wn.none rfl) rfl rfl ?_
                          refine WR.callB H (in_spec _ _ _) rfl (trivial) (Wn.none rfl) rfl (fun h11_1 => ?_) (fun h11_1 => ?_)
                          ·
                            intro M w H hle
                            refine WR.step (Ex.assign rfl) (Wn.none rfl) rfl rfl ?_
                            refine WR.nil ?_
                            refine WQ.then ?_
                            refine WC.condT rfl ?_
                            refine WC.seq ?_
                            refine WC.region ?_
                            refine WR.step (Ex.assign rfl) (Wn.none rfl) rfl rfl ?_
                            refine WR.nil ?_
                            refine WQ.then ?_
                            refine WC.ret ?_
                            (repeat (first | refine WQ.thenRet ?_ | refine WQ.inBlockRet ?_))
                            refine WQ.ret1 rfl rfl H.ext ?_
                            exact by rw [cls, if_neg (by omega), if_neg (by omega), if_neg (by omega), if_neg (by omega), if_neg (by omega), if_pos (by omega)]
                          ·
                            intro M w H hle
                            refine WR.step (Ex.assign rfl) (Wn.none rfl) rfl rfl ?_
                            refine WR.nil ?_
                            refine WQ.then ?_
                            refine WC.condF rfl ?_
                            refine WC.seq ?_
                            refine WC.region ?_
                            refine WR.step (Ex.move rfl) (Wn.none rfl) rfl rfl ?_
                            refine WR.callB H (in_spec _ _ _) rfl (trivial) (Wn.none rfl) rfl (fun h13_1 => ?_) (fun h13_1 => ?_)
                            ·
                              intro M w H hle
                              refine WR.step (Ex.assign rfl) (Wn.none rfl) rfl rfl ?_
                              refine WR.nil ?_
                              refine WQ.then ?_
                              refine WC.condT rfl ?_
                              refine WC.seq ?_
                              refine WC.region ?_
                              refine WR.step (Ex.assign rfl) (Wn.none rfl) rfl rfl ?_
                              refine WR.nil ?_
                              refine WQ.then ?_
                              refine WC.ret ?_
                              (repeat (first | refine WQ.thenRet ?_ | refine WQ.inBlockRet ?_))
                              refine WQ.ret1 rfl rfl H.ext ?_
                              exact by rw [cls, if_neg (by omega), if_neg (by omega), if_neg (by omega), if_neg (by omega), if_neg (by omega), if_neg (by omega), if_pos (by omega)]
                            ·
                              intro M w H hle
                              refine WR.step (Ex.assign rfl) (Wn.none rfl) rfl rfl ?_
                              refine WR.nil ?_
                              refine WQ.then ?_
                              refine WC.condF rfl ?_
                              refine WC.seq ?_
                              refine WC.region ?_
                              refine WR.step (Ex.move rfl) (Wn.none rfl) rfl rfl ?_
                              refine WR.callB H (in_spec _ _ _) rfl (trivial) (Wn.none rfl) rfl (fun h15_1 => ?_) (fun h15_1 => ?_)
                              ·
                                intro M w H hle
                                refine WR.step (Ex.assign rfl) (Wn.none rfl) rfl rfl ?_
                                refine WR.nil ?_
                                refine WQ.then ?_
                                refine WC.condT rfl ?_
                                refine WC.seq ?_
                                refine WC.region ?_
                                refine WR.step (Ex.assign rfl) (Wn.none rfl) rfl rfl ?_
                                refine WR.nil ?_
                                refine WQ.then ?_
                                refine WC.ret ?_
                                (repeat (first | refine WQ.thenRet ?_ | refine WQ.inBlockRet ?_))
                                refine WQ.ret1 rfl rfl H.ext ?_
                                exact by rw [cls, if_neg (by omega), if_neg (by omega), if_neg (by omega), if_neg (by omega), if_neg (by omega), if_neg (by omega), if_neg (by omega), if_pos (by omega)]
                              ·
                                intro M w H hle
                                refine WR.step (Ex.assign rfl) (Wn.none rfl) rfl rfl ?_
                                refine WR.nil ?_
                                refine WQ.then ?_
                                refine WC.condF rfl ?_
                                refine WC.seq ?_
                                refine WC.region ?_
                                refine WR.step (Ex.move rfl) (Wn.none rfl) rfl rfl ?_
                                refine WR.callB H (in_spec _ _ _) rfl (trivial) (Wn.none rfl) rfl (fun h17_1 => ?_) (fun h17_1 => ?_)
                                ·
                                  intro M w H hle
                                  refine WR.step (Ex.assign rfl) (Wn.none rfl) rfl rfl ?_
                                  refine WR.nil ?_
                                  refine WQ.then ?_
                                  refine WC.condT rfl ?_
                                  refine WC.seq ?_
                                  refine WC.region ?_
                                  refine WR.step (Ex.assign rfl) (Wn.none rfl) rfl rfl ?_
                                  refine WR.nil ?_
                                  refine WQ.then ?_
                                  refine WC.ret ?_
                                  (repeat (first | refine WQ.thenRet ?_ | refine WQ.inBlockRet ?_))
                                  refine WQ.ret1 rfl rfl H.ext ?_
                                  exact by rw [cls, if_neg (by omega), if_neg (by omega), if_neg (by omega), if_neg (by omega), if_neg (by omega), if_neg (by omega), if_neg (by omega), if_neg (by omega), if_pos (by omega)]
                                ·
                                  intro M w H hle
                                  refine WR.step (Ex.assign rfl) (Wn.none rfl) rfl rfl ?_
                                  refine WR.nil ?_
                                  refine WQ.then ?_
                                  refine WC.condF rfl ?_
                                  refine WC.skip ?_
                                  refine WQ.inBlock ?_
                                  refine WQ.then ?_
                                  refine WC.seq ?_
                                  refine WC.region ?_
                                  refine WR.step (Ex.assign rfl) (Wn.none rfl) rfl rfl ?_
                                  refine WR.nil ?_
                                  refine WQ.then ?_
                                  refine WC.ret ?_
                                  (repeat (first | refine WQ.thenRet ?_ | refine WQ.inBlockRet ?_))
                                  refine WQ.ret1 rfl rfl H.ext ?_
                                  exact by rw [cls, if_neg (by omega), if_neg (by omega), if_neg (by omega), if_neg (by omega), if_neg (by omega), if_neg (by omega), if_neg (by omega), if_neg (by omega), if_neg (by omega)]

theorem rwide_spec (n : Int) : Ct Tryd.prog 40 [I n] (fun _ => True) (fun r _ => r = .bool (wid n)) := by
  refine Ct.of Tryd.func40 (enters Tryd.func40 (by kernel_rfl) rfl) rfl rfl rfl ?_
  intro w0 M0 H hp
  refine WC.seq ?_
  refine WC.region ?_
  refine WR.step (Ex.assign rfl) (Wn.none rfl) rfl rfl ?_
  refine WR.nil ?_
  refine WQ.then ?_
  refine WC.seq ?_
  refine WC.region ?_
  refine WR.step (Ex.move rfl) (Wn.none rfl) rfl rfl ?_
  refine WR.callB H (in_spec _ _ _) rfl (trivial) (Wn.none rfl) rfl (fun h1_1 => ?_) (fun h1_1 => ?_)
  ·
    intro M w H hle
    refine WR.step (Ex.move rfl) (Wn.none rfl) rfl rfl ?_
    refine WR.skipG (b := true) rfl rfl rfl rfl rfl ?_
    refine WR.skipG (b := true) rfl rfl rfl rfl rfl ?_
    refine WR.step (Ex.pickT rfl rfl) (Wn.none rfl) rfl rfl ?_
    refine WR.step (Ex.move rfl) (Wn.none rfl) rfl rfl ?_
    refine WR.skipG (b := true) rfl rfl rfl rfl rfl ?_
    refine WR.skipG (b := true) rfl rfl rfl rfl rfl ?_
    refine WR.step (Ex.pickT rfl rfl) (Wn.none rfl) rfl rfl ?_
    refine WR.step (Ex.move rfl) (Wn.none rfl) rfl rfl ?_
    refine WR.skipG (b := true) rfl rfl rfl rfl rfl ?_
    refine WR.skipG (b := true) rfl rfl rfl rfl rfl ?_
    refine WR.step (Ex.pickT rfl rfl) (Wn.none rfl) rfl rfl ?_
    refine WR.step (Ex.move rfl) (Wn.none rfl) rfl rfl ?_
    refine WR.skipG (b := true) rfl rfl rfl rfl rfl ?_
    refine WR.skipG (b := true) rfl rfl rfl rfl rfl ?_
    refine WR.step (Ex.pickT rfl rfl) (Wn.none rfl) rfl rfl ?_
    refine WR.step (Ex.move rfl) (Wn.none rfl) rfl rfl ?_
    refine WR.skipG (b := true) rfl rfl rfl rfl rfl ?_
    refine WR.skipG (b := true) rfl rfl rfl rfl rfl ?_
    refine WR.step (Ex.pickT rfl rfl) (Wn.none rfl) rfl rfl ?_
    refine WR.step (Ex.move rfl) (Wn.none rfl) rfl rfl ?_
    refine WR.skipG (b := true) rfl rfl rfl rfl rfl ?_
    refine WR.skipG (b := true) rfl rfl rfl rfl rfl ?_
    refine WR.step (Ex.pickT rfl rfl) (Wn.none rfl) rfl rfl ?_
    refine WR.step (Ex.move rfl) (Wn.none rfl) rfl rfl ?_
    refine WR.skipG (b := true) rfl rfl rfl rfl rfl ?_
    refine WR.skipG (b := true) rfl rfl rfl rfl rfl ?_
    refine WR.step (Ex.pickT rfl rfl) (Wn.none rfl) rfl rfl ?_
    refine WR.step (Ex.move rfl) (Wn.none rfl) rfl rfl ?_
    refine WR.skipG (b := true) rfl rfl rfl rfl rfl ?_
    refine WR.skipG (b := true) rfl rfl rfl rfl rfl ?_
    refine WR.step (Ex.pickT rfl rfl) (Wn.none rfl) rfl rfl ?_
    refine WR.step (Ex.assign rfl) (Wn.none rfl) rfl rfl ?_
    refine WR.nil ?_
    refine WQ.then ?_
    refine WC.ret ?_
    (repeat (first | refine WQ.thenRet ?_ | refine WQ.inBlockRet ?_))
    refine WQ.ret1 rfl rfl H.ext ?_
    refine congrArg Value.bool ?_
    unfold wid
    first | exact (decide_eq_true (by omega)).symm | exact decide_eq_decide.2 (by omega)
  ·
    intro M w H hle
    refine WR.step (Ex.move rfl) (Wn.none rfl) rfl rfl ?_
    refine WR.step (Ex.move rfl) (Wn.some rfl rfl rfl) rfl rfl ?_
    refine WR.callB H (in_spec _ _ _) rfl (trivial) (Wn.some rfl rfl rfl) rfl (fun h1_4 => ?_) (fun h1_4 => ?_)
    ·
      intro M w H hle
      refine WR.step (Ex.pickF rfl rfl) (Wn.none rfl) rfl rfl ?_
      refine WR.step (Ex.move rfl) (Wn.none rfl) rfl rfl ?_
      refine WR.skipG (b := true) rfl rfl rfl rfl rfl ?_
      refine WR.skipG (b := true) rfl rfl rfl rfl rfl ?_
      refine WR.step (Ex.pickT rfl rfl) (Wn.none rfl) rfl rfl ?_
      refine WR.step (Ex.move rfl) (Wn.none rfl) rfl rfl ?_
      refine WR.skipG (b := true) rfl rfl rfl rfl rfl ?_
      refine WR.skipG (b := true) rfl rfl rfl rfl rfl ?_
      refine WR.step (Ex.pickT rfl rfl) (Wn.none rfl) rfl rfl ?_
      refine WR.step (Ex.move rfl) (Wn.none rfl) rfl rfl ?_
      refine WR.skipG (b := true) rfl rfl rfl rfl rfl ?_
      refine WR.skipG (b := true) rfl rfl rfl rfl rfl ?_
      refine WR.step (Ex.pickT rfl rfl) (Wn.none rfl) rfl rfl ?_
      refine WR.step (Ex.move rfl) (Wn.none rfl) rfl rfl ?_
      refine WR.skipG (b := true) rfl rfl rfl rfl rfl ?_
      refine WR.skipG (b := true) rfl rfl rfl rfl rfl ?_
      refine WR.step (Ex.pickT rfl rfl) (Wn.none rfl) rfl rfl ?_
      refine WR.step (Ex.move rfl) (Wn.none rfl) rfl rfl ?_
      refine WR.skipG (b := true) rfl rfl rfl rfl rfl ?_
      refine WR.skipG (b := true) rfl rfl rfl rfl rfl ?_
      refine WR.step (Ex.pickT rfl rfl) (Wn.none rfl) rfl rfl ?_
      refine WR.step (Ex.move rfl) (Wn.none rfl) rfl rfl ?_
      refine WR.skipG (b := true) rfl rfl rfl rfl rfl ?_
      refine WR.skipG (b := true) rfl rfl rfl rfl rfl ?_
      refine WR.step (Ex.pickT rfl rfl) (Wn.none rfl) rfl rfl ?_
      refine WR.step (Ex.move rfl) (Wn.none rfl) rfl rfl ?_
      refine WR.skipG (b := true) rfl rfl rfl rfl rfl ?_
      refine WR.skipG (b := true) rfl rfl rfl rfl rfl ?_
      refine WR.step (Ex.pickT rfl rfl) (Wn.none rfl) rfl rfl ?_
      refine WR.step (Ex.assign rfl) (Wn.none rfl) rfl rfl ?_
      refine WR.nil ?_
      refine WQ.then ?_
      refine WC.ret ?_
      (repeat (first | refine WQ.thenRet ?_ | refine WQ.inBlockRet ?_))
      refine WQ.ret1 rfl rfl H.ext ?_
      refine congrArg Value.bool ?_
      unfold wid
      first | exact (decide_eq_true (by omega)).symm | exact decide_eq_decide.2 (by omega)
    ·
      intro M w H hle
      refine WR.step (Ex.pickF rfl rfl) (Wn.none rfl) rfl rfl ?_
      refine WR.step (Ex.move rfl) (Wn.none rfl) rfl rfl ?_
      refine WR.step (Ex.move rfl) (Wn.some rfl rfl rfl) rfl rfl ?_
      refine WR.callB H (in_spec _ _ _) rfl (trivial) (Wn.some rfl rfl rfl) rfl (fun h1_8 => ?_) (fun h1_8 => ?_)
      ·
        intro M w H hle
        refine WR.step (Ex.pickF rfl rfl) (Wn.none rfl) rfl rfl ?_
        refine WR.step (Ex.move rfl) (Wn.none rfl) rfl rfl ?_
        refine WR.skipG (b := true) rfl rfl rfl rfl rfl ?_
        refine WR.skipG (b := true) rfl rfl rfl rfl rfl ?_
        refine WR.step (Ex.pickT rfl rfl) (Wn.none rfl) rfl rfl ?_
        refine WR.step (Ex.move rfl) (Wn.none rfl) rfl rfl ?_
        refine WR.skipG (b := true) rfl rfl rfl rfl rfl ?_
        refine WR.skipG (b := true) rfl rfl rfl rfl rfl ?_
        refine WR.step (Ex.pickT rfl rfl) (Wn.none rfl) rfl rfl ?_
        refine WR.step (Ex.move rfl) (Wn.none rfl) rfl rfl ?_
        refine WR.skipG (b := true) rfl rfl rfl rfl rfl ?_
        refine WR.skipG (b := true) rfl rfl rfl rfl rfl ?_
        refine WR.step (Ex.pickT rfl rfl) (Wn.none rfl) rfl rfl ?_
        refine WR.step (Ex.move rfl) (Wn.none rfl) rfl rfl ?_
        refine WR.skipG (b := true) rfl rfl rfl rfl rfl ?_
        refine WR.skipG (b := true) rfl rfl rfl rfl rfl ?_
        refine WR.step (Ex.pickT rfl rfl) (Wn.none rfl) rfl rfl ?_
        refine WR.step (Ex.move rfl) (Wn.none rfl) rfl rfl ?_
        refine WR.skipG (b := true) rfl rfl rfl rfl rfl ?_
        refine WR.skipG (b := true) rfl rfl rfl rfl rfl ?_
        refine WR.step (Ex.pickT rfl rfl) (Wn.none rfl) rfl rfl ?_
        refine WR.step (Ex.move rfl) (Wn.none rfl) rfl rfl ?_
        refine WR.skipG (b := true) rfl rfl rfl rfl rfl ?_
        refine WR.skipG (b := true) rfl rfl rfl rfl rfl ?_
        refine WR.step (Ex.pickT rfl rfl) (Wn.none rfl) rfl rfl ?_
        refine WR.step (Ex.assign rfl) (Wn.none rfl) rfl rfl ?_
        refine WR.nil ?_
        refine WQ.then ?_
        refine WC.ret ?_
        (repeat (first | refine WQ.thenRet ?_ | refine WQ.inBlockRet ?_))
        refine WQ.ret1 rfl rfl H.ext ?_
        refine congrArg Value.bool ?_
        unfold wid
        first | exact (decide_eq_true (by omega)).symm | exact decide_eq_decide.2 (by omega)
      ·
        intro M w H hle
        refine WR.step (Ex.pickF rfl rfl) (Wn.none rfl) rfl rfl ?_
        refine WR.step (Ex.move rfl) (Wn.none rfl) rfl rfl ?_
        refine WR.step (Ex.move rfl) (Wn.some rfl rfl rfl) rfl rfl ?_
        refine WR.callB H (in_spec _ _ _) rfl (trivial) (Wn.some rfl rfl rfl) rfl (fun h1_12 => ?_) (fun h1_12 => ?_)
        ·
          intro M w H hle
          refine WR.step (Ex.pickF rfl rfl) (Wn.none rfl) rfl rfl ?_
          refine WR.step (Ex.move rfl) (Wn.none rfl) rfl rfl ?_
          refine WR.skipG (b := true) rfl rfl rfl rfl rfl ?_
          refine WR.skipG (b := true) rfl rfl rfl rfl rfl ?_
          refine WR.step (Ex.pickT rfl rfl) (Wn.none rfl) rfl rfl ?_
          refine WR.step (Ex.move rfl) (Wn.none rfl) rfl rfl ?_
          refine WR.skipG (b := true) rfl rfl rfl rfl rfl ?_
          refine WR.skipG (b := true) rfl rfl rfl rfl rfl ?_
          refine WR.step (Ex.pickT rfl rfl) (Wn.none rfl) rfl rfl ?_
          refine WR.step (Ex.move rfl) (Wn.none rfl) rfl rfl ?_
          refine WR.skipG (b := true) rfl rfl rfl rfl rfl ?_
          refine WR.skipG (b := true) rfl rfl rfl rfl rfl ?_
          refine WR.step (Ex.pickT rfl rfl) (Wn.none rfl) rfl rfl ?_
          refine WR.step (Ex.move rfl) (Wn.none rfl) rfl rfl ?_
          refine WR.skipG (b := true) rfl rfl rfl rfl rfl ?_
          refine WR.skipG (b := true) rfl rfl rfl rfl rfl ?_
          refine WR.step (Ex.pickT rfl rfl) (Wn.none rfl) rfl rfl ?_
          refine WR.step (Ex.move rfl) (Wn.none rfl) rfl rfl ?_
          refine WR.skipG (b := true) rfl rfl rfl rfl rfl ?_
          refine WR.skipG (b := true) rfl rfl rfl rfl rfl ?_
          refine WR.step (Ex.pickT rfl rfl) (Wn.none rfl) rfl rfl ?_
          refine WR.step (Ex.assign rfl) (Wn.none rfl) rfl rfl ?_
          refine WR.nil ?_
          refine WQ.then ?_
          refine WC.ret ?_
          (repeat (first | refine WQ.thenRet ?_ | refine WQ.inBlockRet ?_))
          refine WQ.ret1 rfl rfl H.ext ?_
          refine congrArg Value.bool ?_
          unfold wid
          first | exact (decide_eq_true (by omega)).symm | exact decide_eq_decide.2 (by omega)
        ·
          intro M w H hle
          refine WR.step (Ex.pickF rfl rfl) (Wn.none rfl) rfl rfl ?_
          refine WR.step (Ex.move rfl) (Wn.none rfl) rfl rfl ?_
          refine WR.step (Ex.move rfl) (Wn.some rfl rfl rfl) rfl rfl ?_
          refine WR.callB H (in_spec _ _ _) rfl (trivial) (Wn.some rfl rfl rfl) rfl (fun h1_16 => ?_) (fun h1_16 => ?_)
          ·
            intro M w H hle
            refine WR.step (Ex.pickF rfl rfl) (Wn.none rfl) rfl rfl ?_
            refine WR.step (Ex.move rfl) (Wn.none rfl) rfl rfl ?_
            refine WR.skipG (b := true) rfl rfl rfl rfl rfl ?_
            refine WR.skipG (b := true) rfl rfl rfl rfl rfl ?_
            refine WR.step (Ex.pickT rfl rfl) (Wn.none rfl) rfl rfl ?_
            refine WR.step (Ex.move rfl) (Wn.none rfl) rfl rfl ?_
            refine WR.skipG (b := true) rfl rfl rfl rfl rfl ?_
            refine WR.skipG (b := true) rfl rfl rfl rfl rfl ?_
            refine WR.step (Ex.pickT rfl rfl) (Wn.none rfl) rfl rfl ?_
            refine WR.step (Ex.move rfl) (Wn.none rfl) rfl rfl ?_
            refine WR.skipG (b := true) rfl rfl rfl rfl rfl ?_
            refine WR.skipG (b := true) rfl rfl rfl rfl rfl ?_
            refine WR.step (Ex.pickT rfl rfl) (Wn.none rfl) rfl rfl ?_
            refine WR.step (Ex.move rfl) (Wn.none rfl) rfl rfl ?_
            refine WR.skipG (b := true) rfl rfl rfl rfl rfl ?_
            refine WR.skipG (b := true) rfl rfl rfl rfl rfl ?_
            refine WR.step (Ex.pickT rfl rfl) (Wn.none rfl) rfl rfl ?_
            refine WR.step (Ex.assign rfl) (Wn.none rfl) rfl rfl ?_
            refine WR.nil ?_
            refine WQ.then ?_
            refine WC.ret ?_
            (repeat (first | refine WQ.thenRet ?_ | refine WQ.inBlockRet ?_))
            refine WQ.ret1 rfl rfl H.ext ?_
            refine congrArg Value.bool ?_
            unfold wid
            first | exact (decide_eq_true (by omega)).symm | exact decide_eq_decide.2 (by omega)
          ·
            intro M w H hle
            refine WR.step (Ex.pickF rfl rfl) (Wn.none rfl) rfl rfl ?_
            refine WR.step (Ex.move rfl) (Wn.none rfl) rfl rfl ?_
            refine WR.step (Ex.move rfl) (Wn.some rfl rfl rfl) rfl rfl ?_
            refine WR.callB H (in_spec _ _ _) rfl (trivial) (Wn.some rfl rfl rfl) rfl (fun h1_20 => ?_) (fun h1_20 => ?_)
            ·
              intro M w H hle
              refine WR.step (Ex.pickF rfl rfl) (Wn.none rfl) rfl rfl ?_
              refine WR.step (Ex.move rfl) (Wn.none rfl) rfl rfl ?_
              refine WR.skipG (b := true) rfl rfl rfl rfl rfl ?_
              refine WR.skipG (b := true) rfl rfl rfl rfl rfl ?_
              refine WR.step (Ex.pickT rfl rfl) (Wn.none rfl) rfl rfl ?_
              refine WR.step (Ex.move rfl) (Wn.none rfl) rfl rfl ?_
              refine WR.skipG (b := true) rfl rfl rfl rfl rfl ?_
              refine WR.skipG (b := true) rfl rfl rfl rfl rfl ?_
              refine WR.step (Ex.pickT rfl rfl) (Wn.none rfl) rfl rfl ?_
              refine WR.step (Ex.move rfl) (Wn.none rfl) rfl rfl ?_
              refine WR.skipG (b := true) rfl rfl rfl rfl rfl ?_
              refine WR.skipG (b := true) rfl rfl rfl rfl rfl ?_
              refine WR.step (Ex.pickT rfl rfl) (Wn.none rfl) rfl rfl ?_
              refine WR.step (Ex.assign rfl) (Wn.none rfl) rfl rfl ?_
              refine WR.nil ?_
              refine WQ.then ?_
              refine WC.ret ?_
              (repeat (first | refine WQ.thenRet ?_ | refine WQ.inBlockRet ?_))
              refine WQ.ret1 rfl rfl H.ext ?_
              refine congrArg Value.bool ?_
              unfold wid
              first | exact (decide_eq_true (by omega)).symm | exact decide_eq_decide.2 (by omega)
            ·
              intro M w H hle
              refine WR.step (Ex.pickF rfl rfl) (Wn.none rfl) rfl rfl ?_
              refine WR.step (Ex.move rfl) (Wn.none rfl) rfl rfl ?_
              refine WR.step (Ex.move rfl) (Wn.some rfl rfl rfl) rfl rfl ?_
              refine WR.callB H (in_spec _ _ _) rfl (trivial) (Wn.some rfl rfl rfl) rfl (fun h1_24 => ?_) (fun h1_24 => ?_)
              ·
                intro M w H hle
                refine WR.step (Ex.pickF rfl rfl) (Wn.none rfl) rfl rfl ?_
                refine WR.step (Ex.move rfl) (Wn.none rfl) rfl rfl ?_
                refine WR.skipG (b := true) rfl rfl rfl rfl rfl ?_
                refine WR.skipG (b := true) rfl rfl rfl rfl rfl ?_
                refine WR.step (Ex.pickT rfl rfl) (Wn.none rfl) rfl rfl ?_
                refine WR.step (Ex.move rfl) (Wn.none rfl) rfl rfl ?_
                refine WR.skipG (b := true) rfl rfl rfl rfl rfl ?_
                refine WR.skipG (b := true) rfl rfl rfl rfl rfl ?_
                refine WR.step (Ex.pickT rfl rfl) (Wn.none rfl) rfl rfl ?_
                refine WR.step (Ex.assign rfl) (Wn.none rfl) rfl rfl ?_
                refine WR.nil ?_
                refine WQ.then ?_
                refine WC.ret ?_
                (repeat (first | refine WQ.thenRet ?_ | refine WQ.inBlockRet ?_))
                refine WQ.ret1 rfl rfl H.ext ?_
                refine congrArg Value.bool ?_
                unfold wid
                first | exact (decide_eq_true (by omega)).symm | exact decide_eq_decide.2 (by omega)
              ·
                intro M w H hle
                refine WR.step (Ex.pickF rfl rfl) (Wn.none rfl) rfl rfl ?_
                refine WR.step (Ex.move rfl) (Wn.none rfl) rfl rfl ?_
                refine WR.step (Ex.move rfl) (Wn.some rfl rfl rfl) rfl rfl ?_
                refine WR.callB H (in_spec _ _ _) rfl (trivial) (Wn.some rfl rfl rfl) rfl (fun h1_28 => ?_) (fun h1_28 => ?_)
                ·
                  intro M w H hle
                  refine WR.step (Ex.pickF rfl rfl) (Wn.none rfl) rfl rfl ?_
                  refine WR.step (Ex.move rfl) (Wn.none rfl) rfl rfl ?_
                  refine WR.skipG (b := true) rfl rfl rfl rfl rfl ?_
                  refine WR.skipG (b := true) rfl rfl rfl rfl rfl ?_
                  refine WR.step (Ex.pickT rfl rfl) (Wn.none rfl) rfl rfl ?_
                  refine WR.step (Ex.assign rfl) (Wn.none rfl) rfl rfl ?_
                  refine WR.nil ?_
                  refine WQ.then ?_
                  refine WC.ret ?_
                  (repeat (first | refine WQ.thenRet ?_ | refine WQ.inBlockRet ?_))
                  refine WQ.ret1 rfl rfl H.ext ?_
                  refine congrArg Value.bool ?_
                  unfold wid
                  first | exact (decide_eq_true (by omega)).symm | exact decide_eq_decide.2 (by omega)
                ·
                  intro M w H hle
                  refine WR.step (Ex.pickF rfl rfl) (Wn.none rfl) rfl rfl ?_
                  refine WR.step (Ex.move rfl) (Wn.none rfl) rfl rfl ?_
                  refine WR.step (Ex.move rfl) (Wn.some rfl rfl rfl) rfl rfl ?_
                  refine WR.call H (in_spec _ _ _) rfl (trivial) (Wn.some rfl rfl rfl) rfl ?_
                  intro v35 M w H hle hr35
                  obtain rfl := hr35
                  refine WR.step (Ex.pickF rfl rfl) (Wn.none rfl) rfl rfl ?_
                  refine WR.step (Ex.assign rfl) (Wn.none rfl) rfl rfl ?_
                  refine WR.nil ?_
                  refine WQ.then ?_
                  refine WC.ret ?_
                  (repeat (first | refine WQ.thenRet ?_ | refine WQ.inBlockRet ?_))
                  refine WQ.ret1 rfl rfl H.ext ?_
                  refine congrArg Value.bool ?_
                  unfold wid
                  first | exact (decide_eq_true (by omega)).symm | exact decide_eq_decide.2 (by omega)

theorem rune_spec (l : List UInt8) (i : Nat) (hi : i < l.length) (hs : l.length ≤ 4611686018427387904) : Ct Tryd.prog 33 [S l, encN i] (fun _ => True) (fun r _ => r = .tuple #[I (rune (l.drop i)).1, encN (rune (l.drop i)).2]) := by
  refine Ct.of Tryd.func33 (enters Tryd.func33 (by kernel_rfl) rfl) rfl rfl rfl ?_
  intro w0 M0 H hp
  obtain ⟨u, hu⟩ : ∃ u, l[i]? = some u := ⟨_, List.getElem?_eq_getElem hi⟩
  have hcu : nat (l.drop i) 0 = u.toNat := by rw [nat_drop]; exact nat_of hu
  have hult := u.toNat_lt
  refine WC.seq ?_
  refine WC.region ?_
  refine WR.step (Ex.assign rfl) (Wn.none rfl) rfl rfl ?_
  refine WR.step (Ex.assign rfl) (Wn.none rfl) rfl rfl ?_
  refine WR.nil ?_
  refine WQ.then ?_
  refine WC.seq ?_
  refine WC.region ?_
  refine WR.step (Ex.move rfl) (Wn.none rfl) rfl rfl ?_
  refine WR.step (Ex.move rfl) (Wn.none rfl) rfl rfl ?_
  refine WR.step (Ex.idxStr Tryd.underlying9 rfl rfl (hu)) (Wn.none rfl) rfl rfl ?_
  first | refine WR.step (Ex.convB Tryd.underlying5 Tryd.underlying3 rfl) (Wn.none rfl) rfl rfl ?_ | refine WR.step (Ex.convI Tryd.underlying5 Tryd.underlying3 rfl (by omega)) (Wn.none rfl) rfl rfl ?_
  refine WR.step (Ex.assign rfl) (Wn.none rfl) rfl rfl ?_
  refine WR.nil ?_
  refine WQ.then ?_
  refine WC.seq ?_
  refine WC.seq ?_
  refine WC.region ?_
  refine WR.step (Ex.move rfl) (Wn.none rfl) rfl rfl ?_
  refine WR.split (Ex.lss rfl rfl) (Wn.none rfl) rfl rfl (fun h2_1 => ?_) (fun h2_1 => ?_)
  ·
    refine WR.nil ?_
    refine WQ.then ?_
    refine WC.condT rfl ?_
    refine WC.seq ?_
    refine WC.region ?_
    refine WR.step (Ex.move rfl) (Wn.none rfl) rfl rfl ?_
    refine WR.step (Ex.assign rfl) (Wn.none rfl) rfl rfl ?_
    refine WR.step (Ex.assign rfl) (Wn.none rfl) rfl rfl ?_
    refine WR.nil ?_
    refine WQ.then ?_
    refine WC.ret ?_
    (repeat (first | refine WQ.thenRet ?_ | refine WQ.inBlockRet ?_))
    refine WQ.ret2 rfl rfl rfl H.ext ?_
    exact by rw [rune_ascii (by rw [hcu]; omega), hcu]; rfl
  ·
    refine WR.nil ?_
    refine WQ.then ?_
    refine WC.condF rfl ?_
    refine WC.skip ?_
    refine WQ.then ?_
    refine WC.seq ?_
    refine WC.region ?_
    refine WR.step (Ex.assign rfl) (Wn.none rfl) rfl rfl ?_
    refine WR.nil ?_
    refine WQ.then ?_
    refine WC.seq ?_
    refine WC.region ?_
    refine WR.step (Ex.assign rfl) (Wn.none rfl) rfl rfl ?_
    refine WR.nil ?_
    refine WQ.then ?_
    refine WC.seq ?_
    refine WC.region ?_
    refine WR.step (Ex.assign rfl) (Wn.none rfl) rfl rfl ?_
    refine WR.nil ?_
    refine WQ.then ?_
    refine WC.cut3 (fun (s : Nat) (a : Nat) (m : Nat) => [(0, S l), (1, encN i), (7, encN s), (8, encN a), (9, encN m)]) (fun (s : Nat) (a : Nat) (m : Nat) w => kindOf u.toNat = (s, a, m) ∧ ∃ M, St w0 M0 M [] w) ?_ ?_
    ·
      refine WC.block ?_
      refine WC.seq ?_
      refine WC.region ?_
      refine WR.step (Ex.move rfl) (Wn.none rfl) rfl rfl ?_
      refine WR.callB H (in_spec _ _ _) rfl (trivial) (Wn.none rfl) rfl (fun h7_1 => ?_) (fun h7_1 => ?_)
      ·
        intro M w H hle
        refine WR.step (Ex.assign rfl) (Wn.none rfl) rfl rfl ?_
        refine WR.nil ?_
        refine WQ.then ?_
        refine WC.condT rfl ?_
        refine WC.region ?_
        refine WR.step (Ex.move rfl) (Wn.none rfl) rfl rfl ?_
        refine WR.stepE (v' := encN (u.toNat - 192)) (Ex.sub64 rfl rfl (by omega)) (congrArg I (by omega)) (Wn.none rfl) rfl rfl ?_
        refine WR.step (Ex.assign rfl) (Wn.none rfl) rfl rfl ?_
        refine WR.step (Ex.assign rfl) (Wn.none rfl) rfl rfl ?_
        refine WR.step (Ex.assign rfl) (Wn.none rfl) rfl rfl ?_
        refine WR.nil ?_
        refine WQ.inBlock ?_
        refine WQ.meet3 (2) (u.toNat - 192) (128) ⟨rfl, rfl, rfl, rfl, rfl, trivial⟩ ?_
        · exact ⟨by unfold kindOf; rw [if_pos (by omega)], M, H⟩
      ·
        intro M w H hle
        refine WR.step (Ex.assign rfl) (Wn.none rfl) rfl rfl ?_
        refine WR.nil ?_
        refine WQ.then ?_
        refine WC.condF rfl ?_
        refine WC.seq ?_
        refine WC.region ?_
        refine WR.step (Ex.move rfl) (Wn.none rfl) rfl rfl ?_
        refine WR.callB H (in_spec _ _ _) rfl (trivial) (Wn.none rfl) rfl (fun h9_1 => ?_) (fun h9_1 => ?_)
        ·
          intro M w H hle
          refine WR.step (Ex.assign rfl) (Wn.none rfl) rfl rfl ?_
          refine WR.nil ?_
          refine WQ.then ?_
          refine WC.condT rfl ?_
          refine WC.region ?_
          refine WR.step (Ex.move rfl) (Wn.none rfl) rfl rfl ?_
          refine WR.stepE (v' := encN (u.toNat - 224)) (Ex.sub64 rfl rfl (by omega)) (congrArg I (by omega)) (Wn.none rfl) rfl rfl ?_
          refine WR.step (Ex.assign rfl) (Wn.none rfl) rfl rfl ?_
          refine WR.step (Ex.assign rfl) (Wn.none rfl) rfl rfl ?_
          refine WR.step (Ex.assign rfl) (Wn.none rfl) rfl rfl ?_
          refine WR.nil ?_
          refine WQ.inBlock ?_
          refine WQ.meet3 (3) (u.toNat - 224) (2048) ⟨rfl, rfl, rfl, rfl, rfl, trivial⟩ ?_
          · exact ⟨by unfold kindOf; rw [if_neg (by omega), if_pos (by omega)], M, H⟩
        ·
          intro M w H hle
          refine WR.step (Ex.assign rfl) (Wn.none rfl) rfl rfl ?_
          refine WR.nil ?_
          refine WQ.then ?_
          refine WC.condF rfl ?_
          refine WC.seq ?_
          refine WC.region ?_
          refine WR.step (Ex.move rfl) (Wn.none rfl) rfl rfl ?_
          refine WR.callB H (in_spec _ _ _) rfl (trivial) (Wn.none rfl) rfl (fun h11_1 => ?_) (fun h11_1 => ?_)
          ·
            intro M w H hle
            refine WR.step (Ex.assign rfl) (Wn.none rfl) rfl rfl ?_
            refine WR.nil ?_
            refine WQ.then ?_
            refine WC.condT rfl ?_
            refine WC.region ?_
            refine WR.step (Ex.move rfl) (Wn.none rfl) rfl rfl ?_
            refine WR.stepE (v' := encN (u.toNat - 240)) (Ex.sub64 rfl rfl (by omega)) (congrArg I (by omega)) (Wn.none rfl) rfl rfl ?_
            refine WR.step (Ex.assign rfl) (Wn.none rfl) rfl rfl ?_
            refine WR.step (Ex.assign rfl) (Wn.none rfl) rfl rfl ?_
            refine WR.step (Ex.assign rfl) (Wn.none rfl) rfl rfl ?_
            refine WR.nil ?_
            refine WQ.inBlock ?_
            refine WQ.meet3 (4) (u.toNat - 240) (65536) ⟨rfl, rfl, rfl, rfl, rfl, trivial⟩ ?_
            · exact ⟨by unfold kindOf; rw [if_neg (by omega), if_neg (by omega), if_pos (by omega)], M, H⟩
          ·
            intro M w H hle
            refine WR.step (Ex.assign rfl) (Wn.none rfl) rfl rfl ?_
            refine WR.nil ?_
            refine WQ.then ?_
            refine WC.condF rfl ?_
            refine WC.skip ?_
            refine WQ.inBlock ?_
            refine WQ.meet3 (0) (0) (0) ⟨rfl, rfl, rfl, rfl, rfl, trivial⟩ ?_
            · exact ⟨by unfold kindOf; rw [if_neg (by omega), if_neg (by omega), if_neg (by omega)], M, H⟩
    ·
      intro s a m w
      rintro ⟨hk, M, H⟩
      have hkl := kindOf_lt hk (by omega)
      have hk2 : kindOf (nat (l.drop i) 0) = (s, a, m) := by rw [hcu]; exact hk
      have hnc : ¬ nat (l.drop i) 0 < 128 := by rw [hcu]; omega
      refine WC.seq ?_
      refine WC.seq ?_
      refine WC.region ?_
      refine WR.step (Ex.move rfl) (Wn.none rfl) rfl rfl ?_
      refine WR.split (Ex.eql rfl rfl) (Wn.none rfl) rfl rfl (fun h13_1 => ?_) (fun h13_1 => ?_)
      ·
        refine WR.step (Ex.move rfl) (Wn.none rfl) rfl rfl ?_
        refine WR.skipG (b := true) rfl rfl rfl rfl rfl ?_
        refine WR.skipG (b := true) rfl rfl rfl rfl rfl ?_
        refine WR.skipG (b := true) rfl rfl rfl rfl rfl ?_
        refine WR.skipG (b := true) rfl rfl rfl rfl rfl ?_
        refine WR.skipG (b := true) rfl rfl rfl rfl rfl ?_
        refine WR.skipG (b := true) rfl rfl rfl rfl rfl ?_
        refine WR.step (Ex.pickT rfl rfl) (Wn.none rfl) rfl rfl ?_
        refine WR.nil ?_
        refine WQ.then ?_
        refine WC.condT rfl ?_
        refine WC.seq ?_
        refine WC.region ?_
        refine WR.step (Ex.assign rfl) (Wn.none rfl) rfl rfl ?_
        refine WR.step (Ex.assign rfl) (Wn.none rfl) rfl rfl ?_
        refine WR.nil ?_
        refine WQ.then ?_
        refine WC.ret ?_
        (repeat (first | refine WQ.thenRet ?_ | refine WQ.inBlockRet ?_))
        refine WQ.ret2 rfl rfl rfl H.ext ?_
        exact by rw [rune_short hnc hk2 (by rw [List.length_drop]; omega)]; rfl
      ·
        refine WR.step (Ex.move rfl) (Wn.none rfl) rfl rfl ?_
        refine WR.step (Ex.move rfl) (Wn.some rfl rfl rfl) rfl rfl ?_
        refine WR.step (Ex.move rfl) (Wn.some rfl rfl rfl) rfl rfl ?_
        refine WR.step (Ex.add64 rfl rfl (by omega)) (Wn.some rfl rfl rfl) rfl rfl ?_
        refine WR.step (Ex.move rfl) (Wn.some rfl rfl rfl) rfl rfl ?_
        refine WR.step (Ex.lenStr Tryd.underlying9 rfl) (Wn.some rfl rfl rfl) rfl rfl ?_
        refine WR.split (Ex.gtr rfl rfl) (Wn.some rfl rfl rfl) rfl rfl (fun h13_8 => ?_) (fun h13_8 => ?_)
        ·
          refine WR.step (Ex.pickF rfl rfl) (Wn.none rfl) rfl rfl ?_
          refine WR.nil ?_
          refine WQ.then ?_
          refine WC.condT rfl ?_
          refine WC.seq ?_
          refine WC.region ?_
          refine WR.step (Ex.assign rfl) (Wn.none rfl) rfl rfl ?_
          refine WR.step (Ex.assign rfl) (Wn.none rfl) rfl rfl ?_
          refine WR.nil ?_
          refine WQ.then ?_
          refine WC.ret ?_
          (repeat (first | refine WQ.thenRet ?_ | refine WQ.inBlockRet ?_))
          refine WQ.ret2 rfl rfl rfl H.ext ?_
          exact by rw [rune_short hnc hk2 (by rw [List.length_drop]; omega)]; rfl
        ·
          refine WR.step (Ex.pickF rfl rfl) (Wn.none rfl) rfl rfl ?_
          refine WR.nil ?_
          refine WQ.then ?_
          refine WC.condF rfl ?_
          refine WC.skip ?_
          refine WQ.then ?_
          refine WC.seq ?_
          refine WC.seq ?_
          refine WC.region ?_
          refine WR.step (Ex.assign rfl) (Wn.none rfl) rfl rfl ?_
          refine WR.nil ?_
          refine WQ.then ?_
          refine WC.block ?_
          refine WC.loop2 (fun (k : Nat) (n : Nat) => [(0, S l), (1, encN i), (7, encN s), (8, encN n), (9, encN m), (10, encN k)]) (fun (k : Nat) (n : Nat) w => (1 ≤ k ∧ k ≤ s) ∧ cont (l.drop i) a (k - 1) = some n ∧ ∃ M, St w0 M0 M [] w) (fun (k : Nat) (n : Nat) => s - k) (1) (a) ⟨rfl, rfl, rfl, rfl, rfl, rfl, trivial⟩ (⟨by omega, rfl, M, H⟩) ?_
          intro k n w
          rintro ⟨hk1, hcn, M, H⟩
          have hnl := cont_lt hkl.2.1 _ _ hcn
          have hpw : 64 ^ (k - 1) ≤ 64 ^ 3 := Nat.pow_le_pow_right (by decide) (by omega)
          refine WC.seq ?_
          refine WC.seq ?_
          refine WC.region ?_
          refine WR.step (Ex.move rfl) (Wn.none rfl) rfl rfl ?_
          refine WR.step (Ex.move rfl) (Wn.none rfl) rfl rfl ?_
          refine WR.split (Ex.lss rfl rfl) (Wn.none rfl) rfl rfl (fun h16_2 => ?_) (fun h16_2 => ?_)
          ·
            obtain ⟨x, hx⟩ : ∃ x, l[i + k]? = some x := ⟨_, List.getElem?_eq_getElem (by omega)⟩
            have hxn : nat (l.drop i) (k - 1 + 1) = x.toNat := by rw [nat_drop, show i + (k - 1 + 1) = i + k by omega]; exact nat_of hx
            have hxlt := x.toNat_lt
            refine WR.nil ?_
            refine WQ.then ?_
            refine WC.condT rfl ?_
            refine WC.skip ?_
            refine WQ.then ?_
            refine WC.seq ?_
            refine WC.block ?_
            refine WC.seq ?_
            refine WC.region ?_
            refine WR.step (Ex.move rfl) (Wn.none rfl) rfl rfl ?_
            refine WR.step (Ex.move rfl) (Wn.none rfl) rfl rfl ?_
            refine WR.step (Ex.move rfl) (Wn.none rfl) rfl rfl ?_
            refine WR.stepE (v' := encN (i + k)) (Ex.add64 rfl rfl (by omega)) rfl (Wn.none rfl) rfl rfl ?_
            refine WR.step (Ex.idxStr Tryd.underlying9 rfl rfl (hx)) (Wn.none rfl) rfl rfl ?_
            first | refine WR.step (Ex.convB Tryd.underlying5 Tryd.underlying3 rfl) (Wn.none rfl) rfl rfl ?_ | refine WR.step (Ex.convI Tryd.underlying5 Tryd.underlying3 rfl (by omega)) (Wn.none rfl) rfl rfl ?_
            refine WR.step (Ex.assign rfl) (Wn.none rfl) rfl rfl ?_
            refine WR.nil ?_
            refine WQ.then ?_
            refine WC.seq ?_
            refine WC.seq ?_
            refine WC.region ?_
            refine WR.step (Ex.move rfl) (Wn.none rfl) rfl rfl ?_
            refine WR.callB H (in_spec _ _ _) rfl (trivial) (Wn.none rfl) rfl (fun h19_1 => ?_) (fun h19_1 => ?_)
            ·
              intro M w H hle
              have hcy : cont (l.drop i) a k = some (64 * n + x.toNat - 128) := by
                have := cont_yes hcn (by rw [hxn]; unfold okC; omega)
                rw [hxn, show k - 1 + 1 = k by omega] at this
                exact this
              refine WR.step (Ex.notT rfl) (Wn.none rfl) rfl rfl ?_
              refine WR.nil ?_
              refine WQ.then ?_
              refine WC.condF rfl ?_
              refine WC.skip ?_
              refine WQ.then ?_
              refine WC.region ?_
              refine WR.step (Ex.move rfl) (Wn.none rfl) rfl rfl ?_
              refine WR.step (Ex.mul64 rfl rfl (by omega)) (Wn.none rfl) rfl rfl ?_
              refine WR.step (Ex.move rfl) (Wn.none rfl) rfl rfl ?_
              refine WR.step (Ex.add64 rfl rfl (by omega)) (Wn.none rfl) rfl rfl ?_
              refine WR.stepE (v' := encN (64 * n + x.toNat - 128)) (Ex.sub64 rfl rfl (by omega)) (congrArg I (by omega)) (Wn.none rfl) rfl rfl ?_
              refine WR.step (Ex.assign rfl) (Wn.none rfl) rfl rfl ?_
              refine WR.nil ?_
              refine WQ.inBlock ?_
              refine WQ.then ?_
              refine WC.region ?_
              refine WR.step (Ex.move rfl) (Wn.none rfl) rfl rfl ?_
              refine WR.stepE (v' := encN (k + 1)) (Ex.add64 rfl rfl (by omega)) rfl (Wn.none rfl) rfl rfl ?_
              refine WR.step (Ex.assign rfl) (Wn.none rfl) rfl rfl ?_
              refine WR.nil ?_
              refine WQ.again2 (k + 1) (64 * n + x.toNat - 128) ⟨rfl, rfl, rfl, rfl, rfl, rfl, trivial⟩ ?_ ?_
              · exact ⟨by omega, by rw [Nat.add_sub_cancel]; exact hcy, M, H⟩
              · omega
            ·
              intro M w H hle
              have hcut : cont (l.drop i) a (s - 1) = none := cont_none (cont_no hcn (by rw [hxn]; unfold okC; omega)) _ (by omega)
              refine WR.step (Ex.notF rfl) (Wn.none rfl) rfl rfl ?_
              refine WR.nil ?_
              refine WQ.then ?_
              refine WC.condT rfl ?_
              refine WC.seq ?_
              refine WC.region ?_
              refine WR.step (Ex.assign rfl) (Wn.none rfl) rfl rfl ?_
              refine WR.step (Ex.assign rfl) (Wn.none rfl) rfl rfl ?_
              refine WR.nil ?_
              refine WQ.then ?_
              refine WC.ret ?_
              (repeat (first | refine WQ.thenRet ?_ | refine WQ.inBlockRet ?_))
              refine WQ.ret2 rfl rfl rfl H.ext ?_
              exact by rw [rune_cut hnc hk2 hcut]; rfl
          ·
            obtain rfl : k = s := by omega
            refine WR.nil ?_
            refine WQ.then ?_
            refine WC.condF rfl ?_
            refine WC.exit ?_
            refine WQ.thenExit ?_
            refine WQ.thenExit ?_
            refine WQ.exitHere ?_
            refine WQ.then ?_
            refine WC.seq ?_
            refine WC.seq ?_
            refine WC.region ?_
            refine WR.step (Ex.move rfl) (Wn.none rfl) rfl rfl ?_
            refine WR.step (Ex.move rfl) (Wn.none rfl) rfl rfl ?_
            refine WR.split (Ex.lss rfl rfl) (Wn.none rfl) rfl rfl (fun h22_2 => ?_) (fun h22_2 => ?_)
            ·
              refine WR.step (Ex.move rfl) (Wn.none rfl) rfl rfl ?_
              refine WR.skipG (b := true) rfl rfl rfl rfl rfl ?_
              refine WR.skipG (b := true) rfl rfl rfl rfl rfl ?_
              refine WR.step (Ex.pickT rfl rfl) (Wn.none rfl) rfl rfl ?_
              refine WR.step (Ex.move rfl) (Wn.none rfl) rfl rfl ?_
              refine WR.skipG (b := true) rfl rfl rfl rfl rfl ?_
              refine WR.skipG (b := true) rfl rfl rfl rfl rfl ?_
              refine WR.step (Ex.pickT rfl rfl) (Wn.none rfl) rfl rfl ?_
              refine WR.nil ?_
              refine WQ.then ?_
              refine WC.condT rfl ?_
              refine WC.seq ?_
              refine WC.region ?_
              refine WR.step (Ex.assign rfl) (Wn.none rfl) rfl rfl ?_
              refine WR.step (Ex.assign rfl) (Wn.none rfl) rfl rfl ?_
              refine WR.nil ?_
              refine WQ.then ?_
              refine WC.ret ?_
              (repeat (first | refine WQ.thenRet ?_ | refine WQ.inBlockRet ?_))
              refine WQ.ret2 rfl rfl rfl H.ext ?_
              exact by rw [rune_bad hnc hk2 hcn (by unfold badN; omega)]; rfl
            ·
              refine WR.step (Ex.move rfl) (Wn.none rfl) rfl rfl ?_
              refine WR.step (Ex.move rfl) (Wn.some rfl rfl rfl) rfl rfl ?_
              refine WR.split (Ex.gtr rfl rfl) (Wn.some rfl rfl rfl) rfl rfl (fun h22_5 => ?_) (fun h22_5 => ?_)
              ·
                refine WR.step (Ex.pickF rfl rfl) (Wn.none rfl) rfl rfl ?_
                refine WR.step (Ex.move rfl) (Wn.none rfl) rfl rfl ?_
                refine WR.skipG (b := true) rfl rfl rfl rfl rfl ?_
                refine WR.skipG (b := true) rfl rfl rfl rfl rfl ?_
                refine WR.step (Ex.pickT rfl rfl) (Wn.none rfl) rfl rfl ?_
                refine WR.nil ?_
                refine WQ.then ?_
                refine WC.condT rfl ?_
                refine WC.seq ?_
                refine WC.region ?_
                refine WR.step (Ex.assign rfl) (Wn.none rfl) rfl rfl ?_
                refine WR.step (Ex.assign rfl) (Wn.none rfl) rfl rfl ?_
                refine WR.nil ?_
                refine WQ.then ?_
                refine WC.ret ?_
                (repeat (first | refine WQ.thenRet ?_ | refine WQ.inBlockRet ?_))
                refine WQ.ret2 rfl rfl rfl H.ext ?_
                exact by rw [rune_bad hnc hk2 hcn (by unfold badN; omega)]; rfl
              ·
                refine WR.step (Ex.pickF rfl rfl) (Wn.none rfl) rfl rfl ?_
                refine WR.step (Ex.move rfl) (Wn.none rfl) rfl rfl ?_
                refine WR.step (Ex.move rfl) (Wn.some rfl rfl rfl) rfl rfl ?_
                refine WR.callB H (in_spec _ _ _) rfl (trivial) (Wn.some rfl rfl rfl) rfl (fun h22_9 => ?_) (fun h22_9 => ?_)
                ·
                  intro M w H hle
                  refine WR.step (Ex.pickF rfl rfl) (Wn.none rfl) rfl rfl ?_
                  refine WR.nil ?_
                  refine WQ.then ?_
                  refine WC.condT rfl ?_
                  refine WC.seq ?_
                  refine WC.region ?_
                  refine WR.step (Ex.assign rfl) (Wn.none rfl) rfl rfl ?_
                  refine WR.step (Ex.assign rfl) (Wn.none rfl) rfl rfl ?_
                  refine WR.nil ?_
                  refine WQ.then ?_
                  refine WC.ret ?_
                  (repeat (first | refine WQ.thenRet ?_ | refine WQ.inBlockRet ?_))
                  refine WQ.ret2 rfl rfl rfl H.ext ?_
                  exact by rw [rune_bad hnc hk2 hcn (by unfold badN; omega)]; rfl
                ·
                  intro M w H hle
                  refine WR.step (Ex.pickF rfl rfl) (Wn.none rfl) rfl rfl ?_
                  refine WR.nil ?_
                  refine WQ.then ?_
                  refine WC.condF rfl ?_
                  refine WC.skip ?_
                  refine WQ.then ?_
                  refine WC.seq ?_
                  refine WC.region ?_
                  refine WR.step (Ex.move rfl) (Wn.none rfl) rfl rfl ?_
                  refine WR.step (Ex.move rfl) (Wn.none rfl) rfl rfl ?_
                  refine WR.step (Ex.assign rfl) (Wn.none rfl) rfl rfl ?_
                  refine WR.step (Ex.assign rfl) (Wn.none rfl) rfl rfl ?_
                  refine WR.nil ?_
                  refine WQ.then ?_
                  refine WC.ret ?_
                  (repeat (first | refine WQ.thenRet ?_ | refine WQ.inBlockRet ?_))
                  refine WQ.ret2 rfl rfl rfl H.ext ?_
                  exact by rw [rune_good hnc hk2 (by rw [List.length_drop]; omega) hcn (by unfold badN; omega)]

end Go.Proofs.YtnjglbmaonbcbaaDoor
