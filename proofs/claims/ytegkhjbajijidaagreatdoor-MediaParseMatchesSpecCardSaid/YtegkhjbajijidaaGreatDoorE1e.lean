/-
  Mct3, Mct4: own texts of this repository (wip/tpl, wip/plans), merged and shaken by wip/tools/pack.py.
-/
import Derived.KernelRfl
import Derived.Test.YtegkhjbajijidaaGreatDoorE1d
set_option maxRecDepth 100000
set_option linter.unusedVariables false
set_option linter.unusedSimpArgs false
section
namespace Go.Proofs.YtegkhjbajijidaaGreatDoor
open Go Go.RowKit Go.Ph Go.Ph.Pl Go.Ph.Pf
set_option maxHeartbeats 4000000 in
theorem media_joined_ct {p0 : List (List UInt8 × Int × Bool × List UInt8)} {vp0 : Value} {r : ((List UInt8 × List UInt8) × Bool)} (h : media_joined p0 = some r) : CtX Tryz.prog 81 [vp0] [RowS 85 4 xenc85 vp0 p0] (fun M => Tabs M) (fun v M its => v = Value.tuple #[Value.agg #[S r.1.1, S r.1.2], Value.bool r.2] ∧ its = []) := by
  refine CtX.of Tryz.func81 (enters Tryz.func81 (by kernel_rfl) rfl) rfl rfl rfl ?_
  intro w0 M0 H hp
  have hg_tabs := hp
  unfold media_joined at h
  refine SQ (RG (WR.alloc [_, _] H Tryz.zeroValue47 rfl (Wn.none rfl) rfl ?_))
  intro bk2 w H
  refine AS rfl rfl (NL (TN (SQ ?_)))
  obtain ⟨a1, hxa1, h⟩ := bnd h
  obtain ⟨a2, hxa2, h⟩ := bnd h
  refine WC.cutP (fun e w => ∃ (b3 : Nat) (M : Mem), e = [(0, vp0), (2, ptr bk2 0), (4, ptr b3 0)] ∧ StX (feet [RowS 85 4 xenc85 vp0 p0]) w0 M0 M [RowS 85 4 xenc85 vp0 p0, .blk bk2 (.cells #[S [], S []] 47), .blk b3 (.cells #[S a1.1, S a2.2.2.2] 47)] w ∧ Tabs M) ?_ ?_
  ·
   refine WC.draw (m := 11) rfl rfl H ?_
   intro w H
   refine WA.take (i := 0) rfl (by kernel_rfl) (by kernel_rfl) (by kernel_rfl) (fun _ => Ex.move rfl) (Wn.none rfl) rfl rfl (fun _ _ => rfl) (WA.take (i := 4) rfl (by kernel_rfl) (by kernel_rfl) (by kernel_rfl) (fun _ => Ex.move rfl) (Wn.none rfl) rfl rfl (fun _ _ => rfl) ?_)
   refine WA.three (i := 1) (j := 5) (k := 9) (by kernel_rfl) rfl rfl rfl ?_ ?_ ?_
   ·
    refine WR.idxRowSC (l := p0) H Tryz.underlying83 Tryz.sizeOf85 (by repeat first | exact kMh | apply kMt) rfl rfl hxa1 (Wn.none rfl) rfl ?_
    intro g8 hg8
    refine NA (WA.take (i := 2) rfl (by kernel_rfl) (by kernel_rfl) (by kernel_rfl) (fun _ => Ex.fieldAddr Tryz.underlying85 rfl Tryz.sizeOf9 (by decide) rfl) (Wn.none rfl) rfl rfl (fun _ _ => rfl) ?_)
    refine WA.three (i := 3) (j := 5) (k := 9) (by kernel_rfl) rfl rfl rfl ?_ ?_ ?_
    ·
     refine ST (Ex.loadRowF (j := 0) H rfl hg8 (by repeat first | exact kMh | apply kMt) (fun _ => rfl) hxa1 rfl Tryz.isAgg9) rfl ?_
     refine NA ?_
     refine WA.two (i := 5) (j := 9) (by kernel_rfl) rfl rfl ?_ ?_
     ·
      refine WR.idxRowSC (l := p0) H Tryz.underlying83 Tryz.sizeOf85 (by repeat first | exact kMh | apply kMt) rfl rfl hxa2 (Wn.none rfl) rfl ?_
      intro g12 hg12
      refine NA (WA.take (i := 6) rfl (by kernel_rfl) (by kernel_rfl) (by kernel_rfl) (fun _ => Ex.fieldAddr Tryz.underlying85 rfl Tryz.sizeOf9 (by decide) rfl) (Wn.none rfl) rfl rfl (fun _ _ => rfl) ?_)
      refine WA.two (i := 7) (j := 9) (by kernel_rfl) rfl rfl ?_ ?_
      ·
       refine ST (Ex.loadRowF (j := 3) H rfl hg12 (by repeat first | exact kMh | apply kMt) (fun _ => rfl) hxa2 rfl Tryz.isAgg9) rfl ?_
       refine NA (WA.take (i := 8) rfl (by kernel_rfl) (by kernel_rfl) (by kernel_rfl) (fun _ => Ex.build [S a1.1, S a2.2.2.2] Tryz.underlying47 Tryz.zeroValue47 (xplaces47 Tryz.underlying47) rfl rfl) (Wn.none rfl) rfl rfl (fun _ _ => rfl) (WA.seq (fuel := 0) [9, 10] rfl (by kernel_rfl) (WR.alloc [_, _] H Tryz.zeroValue47 rfl (Wn.none rfl) rfl ?_)))
       intro bk4 w H
       refine WR.store [_, _] H rfl rfl rfl (by repeat first | exact .head | apply Upd.tail) Tryz.sizeOf47 rfl (by rfl) (by rfl) (Wn.none rfl) ?_
       intro w H
       refine NA (WA.done (by kernel_rfl) ?_)
       exact WQ.meetP [(0, _), (2, _), (4, _)] ⟨rfl, rfl, rfl, trivial⟩ ⟨_, _, rfl, (H.pick (L' := [RowS 85 4 xenc85 vp0 p0, .blk bk2 (.cells #[S [], S []] 47), .blk bk4 (.cells #[S a1.1, S a2.2.2.2] 47)]) (by repeat first | exact kPn | refine kPc (by repeat first | exact .head | apply Rem.tail) ?_)), hg_tabs⟩
      ·
       refine WR.alloc [_, _] H Tryz.zeroValue47 rfl (Wn.none rfl) rfl ?_
       intro bk4 w H
       refine NA (WA.seq (fuel := 0) [7, 8, 10] rfl (by kernel_rfl) (ST (Ex.loadRowF (j := 3) H rfl hg12 (by repeat first | exact kMh | apply kMt) (fun _ => rfl) hxa2 rfl Tryz.isAgg9) rfl ?_))
       refine ST (Ex.build [S a1.1, S a2.2.2.2] Tryz.underlying47 Tryz.zeroValue47 (xplaces47 Tryz.underlying47) rfl rfl) rfl (WR.store [_, _] H rfl rfl rfl (by repeat first | exact .head | apply Upd.tail) Tryz.sizeOf47 rfl (by rfl) (by rfl) (Wn.none rfl) ?_)
       intro w H
       refine NA (WA.done (by kernel_rfl) ?_)
       exact WQ.meetP [(0, _), (2, _), (4, _)] ⟨rfl, rfl, rfl, trivial⟩ ⟨_, _, rfl, (H.pick (L' := [RowS 85 4 xenc85 vp0 p0, .blk bk2 (.cells #[S [], S []] 47), .blk bk4 (.cells #[S a1.1, S a2.2.2.2] 47)]) (by repeat first | exact kPn | refine kPc (by repeat first | exact .head | apply Rem.tail) ?_)), hg_tabs⟩
     ·
      refine WR.alloc [_, _] H Tryz.zeroValue47 rfl (Wn.none rfl) rfl ?_
      intro bk4 w H
      refine NA (WA.seq (fuel := 0) [5, 6, 7, 8, 10] rfl (by kernel_rfl) (WR.idxRowSC (l := p0) H Tryz.underlying83 Tryz.sizeOf85 (by repeat first | exact kMh | apply kMt) rfl rfl hxa2 (Wn.none rfl) rfl ?_))
      intro g12 hg12
      refine ST (Ex.fieldAddr Tryz.underlying85 rfl Tryz.sizeOf9 (by decide) rfl) rfl (ST (Ex.loadRowF (j := 3) H rfl hg12 (by repeat first | exact kMh | apply kMt) (fun _ => rfl) hxa2 rfl Tryz.isAgg9) rfl ?_)
      refine ST (Ex.build [S a1.1, S a2.2.2.2] Tryz.underlying47 Tryz.zeroValue47 (xplaces47 Tryz.underlying47) rfl rfl) rfl (WR.store [_, _] H rfl rfl rfl (by repeat first | exact .head | apply Upd.tail) Tryz.sizeOf47 rfl (by rfl) (by rfl) (Wn.none rfl) ?_)
      intro w H
      refine NA (WA.done (by kernel_rfl) ?_)
      exact WQ.meetP [(0, _), (2, _), (4, _)] ⟨rfl, rfl, rfl, trivial⟩ ⟨_, _, rfl, (H.pick (L' := [RowS 85 4 xenc85 vp0 p0, .blk bk2 (.cells #[S [], S []] 47), .blk bk4 (.cells #[S a1.1, S a2.2.2.2] 47)]) (by repeat first | exact kPn | refine kPc (by repeat first | exact .head | apply Rem.tail) ?_)), hg_tabs⟩
    ·
     refine WR.idxRowSC (l := p0) H Tryz.underlying83 Tryz.sizeOf85 (by repeat first | exact kMh | apply kMt) rfl rfl hxa2 (Wn.none rfl) rfl ?_
     intro g12 hg12
     refine NA (WA.take (i := 6) rfl (by kernel_rfl) (by kernel_rfl) (by kernel_rfl) (fun _ => Ex.fieldAddr Tryz.underlying85 rfl Tryz.sizeOf9 (by decide) rfl) (Wn.none rfl) rfl rfl (fun _ _ => rfl) ?_)
     refine WA.three (i := 3) (j := 7) (k := 9) (by kernel_rfl) rfl rfl rfl ?_ ?_ ?_
     ·
      refine ST (Ex.loadRowF (j := 0) H rfl hg8 (by repeat first | exact kMh | apply kMt) (fun _ => rfl) hxa1 rfl Tryz.isAgg9) rfl ?_
      refine NA ?_
      refine WA.two (i := 7) (j := 9) (by kernel_rfl) rfl rfl ?_ ?_
      ·
       refine ST (Ex.loadRowF (j := 3) H rfl hg12 (by repeat first | exact kMh | apply kMt) (fun _ => rfl) hxa2 rfl Tryz.isAgg9) rfl ?_
       refine NA (WA.take (i := 8) rfl (by kernel_rfl) (by kernel_rfl) (by kernel_rfl) (fun _ => Ex.build [S a1.1, S a2.2.2.2] Tryz.underlying47 Tryz.zeroValue47 (xplaces47 Tryz.underlying47) rfl rfl) (Wn.none rfl) rfl rfl (fun _ _ => rfl) (WA.seq (fuel := 0) [9, 10] rfl (by kernel_rfl) (WR.alloc [_, _] H Tryz.zeroValue47 rfl (Wn.none rfl) rfl ?_)))
       intro bk4 w H
       refine WR.store [_, _] H rfl rfl rfl (by repeat first | exact .head | apply Upd.tail) Tryz.sizeOf47 rfl (by rfl) (by rfl) (Wn.none rfl) ?_
       intro w H
       refine NA (WA.done (by kernel_rfl) ?_)
       exact WQ.meetP [(0, _), (2, _), (4, _)] ⟨rfl, rfl, rfl, trivial⟩ ⟨_, _, rfl, (H.pick (L' := [RowS 85 4 xenc85 vp0 p0, .blk bk2 (.cells #[S [], S []] 47), .blk bk4 (.cells #[S a1.1, S a2.2.2.2] 47)]) (by repeat first | exact kPn | refine kPc (by repeat first | exact .head | apply Rem.tail) ?_)), hg_tabs⟩
      ·
       refine WR.alloc [_, _] H Tryz.zeroValue47 rfl (Wn.none rfl) rfl ?_
       intro bk4 w H
       refine NA (WA.seq (fuel := 0) [7, 8, 10] rfl (by kernel_rfl) (ST (Ex.loadRowF (j := 3) H rfl hg12 (by repeat first | exact kMh | apply kMt) (fun _ => rfl) hxa2 rfl Tryz.isAgg9) rfl ?_))
       refine ST (Ex.build [S a1.1, S a2.2.2.2] Tryz.underlying47 Tryz.zeroValue47 (xplaces47 Tryz.underlying47) rfl rfl) rfl (WR.store [_, _] H rfl rfl rfl (by repeat first | exact .head | apply Upd.tail) Tryz.sizeOf47 rfl (by rfl) (by rfl) (Wn.none rfl) ?_)
       intro w H
       refine NA (WA.done (by kernel_rfl) ?_)
       exact WQ.meetP [(0, _), (2, _), (4, _)] ⟨rfl, rfl, rfl, trivial⟩ ⟨_, _, rfl, (H.pick (L' := [RowS 85 4 xenc85 vp0 p0, .blk bk2 (.cells #[S [], S []] 47), .blk bk4 (.cells #[S a1.1, S a2.2.2.2] 47)]) (by repeat first | exact kPn | refine kPc (by repeat first | exact .head | apply Rem.tail) ?_)), hg_tabs⟩
     ·
      refine ST (Ex.loadRowF (j := 3) H rfl hg12 (by repeat first | exact kMh | apply kMt) (fun _ => rfl) hxa2 rfl Tryz.isAgg9) rfl ?_
      refine NA ?_
      refine WA.two (i := 3) (j := 9) (by kernel_rfl) rfl rfl ?_ ?_
      ·
       refine ST (Ex.loadRowF (j := 0) H rfl hg8 (by repeat first | exact kMh | apply kMt) (fun _ => rfl) hxa1 rfl Tryz.isAgg9) rfl ?_
       refine NA (WA.take (i := 8) rfl (by kernel_rfl) (by kernel_rfl) (by kernel_rfl) (fun _ => Ex.build [S a1.1, S a2.2.2.2] Tryz.underlying47 Tryz.zeroValue47 (xplaces47 Tryz.underlying47) rfl rfl) (Wn.none rfl) rfl rfl (fun _ _ => rfl) (WA.seq (fuel := 0) [9, 10] rfl (by kernel_rfl) (WR.alloc [_, _] H Tryz.zeroValue47 rfl (Wn.none rfl) rfl ?_)))
       intro bk4 w H
       refine WR.store [_, _] H rfl rfl rfl (by repeat first | exact .head | apply Upd.tail) Tryz.sizeOf47 rfl (by rfl) (by rfl) (Wn.none rfl) ?_
       intro w H
       refine NA (WA.done (by kernel_rfl) ?_)
       exact WQ.meetP [(0, _), (2, _), (4, _)] ⟨rfl, rfl, rfl, trivial⟩ ⟨_, _, rfl, (H.pick (L' := [RowS 85 4 xenc85 vp0 p0, .blk bk2 (.cells #[S [], S []] 47), .blk bk4 (.cells #[S a1.1, S a2.2.2.2] 47)]) (by repeat first | exact kPn | refine kPc (by repeat first | exact .head | apply Rem.tail) ?_)), hg_tabs⟩
      ·
       refine WR.alloc [_, _] H Tryz.zeroValue47 rfl (Wn.none rfl) rfl ?_
       intro bk4 w H
       refine NA (WA.seq (fuel := 0) [3, 8, 10] rfl (by kernel_rfl) (ST (Ex.loadRowF (j := 0) H rfl hg8 (by repeat first | exact kMh | apply kMt) (fun _ => rfl) hxa1 rfl Tryz.isAgg9) rfl ?_))
       refine ST (Ex.build [S a1.1, S a2.2.2.2] Tryz.underlying47 Tryz.zeroValue47 (xplaces47 Tryz.underlying47) rfl rfl) rfl (WR.store [_, _] H rfl rfl rfl (by repeat first | exact .head | apply Upd.tail) Tryz.sizeOf47 rfl (by rfl) (by rfl) (Wn.none rfl) ?_)
       intro w H
       refine NA (WA.done (by kernel_rfl) ?_)
       exact WQ.meetP [(0, _), (2, _), (4, _)] ⟨rfl, rfl, rfl, trivial⟩ ⟨_, _, rfl, (H.pick (L' := [RowS 85 4 xenc85 vp0 p0, .blk bk2 (.cells #[S [], S []] 47), .blk bk4 (.cells #[S a1.1, S a2.2.2.2] 47)]) (by repeat first | exact kPn | refine kPc (by repeat first | exact .head | apply Rem.tail) ?_)), hg_tabs⟩
     ·
      refine WR.alloc [_, _] H Tryz.zeroValue47 rfl (Wn.none rfl) rfl ?_
      intro bk4 w H
      refine NA (WA.takeM (i := 3) [7] rfl (by kernel_rfl) (by kernel_rfl) (by kernel_rfl) (Ex.loadRowF (j := 0) H rfl hg8 (by repeat first | exact kMh | apply kMt) (fun _ => rfl) hxa1 rfl Tryz.isAgg9) (Wn.none rfl) rfl rfl (fun _ _ => rfl) ?_)
      refine WA.seq (fuel := 0) [7, 8, 10] rfl (by kernel_rfl) (ST (Ex.loadRowF (j := 3) H rfl hg12 (by repeat first | exact kMh | apply kMt) (fun _ => rfl) hxa2 rfl Tryz.isAgg9) rfl ?_)
      refine ST (Ex.build [S a1.1, S a2.2.2.2] Tryz.underlying47 Tryz.zeroValue47 (xplaces47 Tryz.underlying47) rfl rfl) rfl (WR.store [_, _] H rfl rfl rfl (by repeat first | exact .head | apply Upd.tail) Tryz.sizeOf47 rfl (by rfl) (by rfl) (Wn.none rfl) ?_)
      intro w H
      refine NA (WA.done (by kernel_rfl) ?_)
      exact WQ.meetP [(0, _), (2, _), (4, _)] ⟨rfl, rfl, rfl, trivial⟩ ⟨_, _, rfl, (H.pick (L' := [RowS 85 4 xenc85 vp0 p0, .blk bk2 (.cells #[S [], S []] 47), .blk bk4 (.cells #[S a1.1, S a2.2.2.2] 47)]) (by repeat first | exact kPn | refine kPc (by repeat first | exact .head | apply Rem.tail) ?_)), hg_tabs⟩
    ·
     refine WR.alloc [_, _] H Tryz.zeroValue47 rfl (Wn.none rfl) rfl ?_
     intro bk4 w H
     refine NA ?_
     refine WA.two (i := 3) (j := 5) (by kernel_rfl) rfl rfl ?_ ?_
     ·
      refine ST (Ex.loadRowF (j := 0) H rfl hg8 (by repeat first | exact kMh | apply kMt) (fun _ => rfl) hxa1 rfl Tryz.isAgg9) rfl ?_
      refine NA (WA.seq (fuel := 0) [5, 6, 7, 8, 10] rfl (by kernel_rfl) (WR.idxRowSC (l := p0) H Tryz.underlying83 Tryz.sizeOf85 (by repeat first | exact kMh | apply kMt) rfl rfl hxa2 (Wn.none rfl) rfl ?_))
      intro g12 hg12
      refine ST (Ex.fieldAddr Tryz.underlying85 rfl Tryz.sizeOf9 (by decide) rfl) rfl (ST (Ex.loadRowF (j := 3) H rfl hg12 (by repeat first | exact kMh | apply kMt) (fun _ => rfl) hxa2 rfl Tryz.isAgg9) rfl ?_)
      refine ST (Ex.build [S a1.1, S a2.2.2.2] Tryz.underlying47 Tryz.zeroValue47 (xplaces47 Tryz.underlying47) rfl rfl) rfl (WR.store [_, _] H rfl rfl rfl (by repeat first | exact .head | apply Upd.tail) Tryz.sizeOf47 rfl (by rfl) (by rfl) (Wn.none rfl) ?_)
      intro w H
      refine NA (WA.done (by kernel_rfl) ?_)
      exact WQ.meetP [(0, _), (2, _), (4, _)] ⟨rfl, rfl, rfl, trivial⟩ ⟨_, _, rfl, (H.pick (L' := [RowS 85 4 xenc85 vp0 p0, .blk bk2 (.cells #[S [], S []] 47), .blk bk4 (.cells #[S a1.1, S a2.2.2.2] 47)]) (by repeat first | exact kPn | refine kPc (by repeat first | exact .head | apply Rem.tail) ?_)), hg_tabs⟩
     ·
      refine WR.idxRowSC (l := p0) H Tryz.underlying83 Tryz.sizeOf85 (by repeat first | exact kMh | apply kMt) rfl rfl hxa2 (Wn.none rfl) rfl ?_
      intro g12 hg12
      refine NA (WA.take (i := 6) rfl (by kernel_rfl) (by kernel_rfl) (by kernel_rfl) (fun _ => Ex.fieldAddr Tryz.underlying85 rfl Tryz.sizeOf9 (by decide) rfl) (Wn.none rfl) rfl rfl (fun _ _ => rfl) (WA.takeM (i := 3) [7] rfl (by kernel_rfl) (by kernel_rfl) (by kernel_rfl) (Ex.loadRowF (j := 0) H rfl hg8 (by repeat first | exact kMh | apply kMt) (fun _ => rfl) hxa1 rfl Tryz.isAgg9) (Wn.none rfl) rfl rfl (fun _ _ => rfl) ?_))
      refine WA.seq (fuel := 0) [7, 8, 10] rfl (by kernel_rfl) (ST (Ex.loadRowF (j := 3) H rfl hg12 (by repeat first | exact kMh | apply kMt) (fun _ => rfl) hxa2 rfl Tryz.isAgg9) rfl ?_)
      refine ST (Ex.build [S a1.1, S a2.2.2.2] Tryz.underlying47 Tryz.zeroValue47 (xplaces47 Tryz.underlying47) rfl rfl) rfl (WR.store [_, _] H rfl rfl rfl (by repeat first | exact .head | apply Upd.tail) Tryz.sizeOf47 rfl (by rfl) (by rfl) (Wn.none rfl) ?_)
      intro w H
      refine NA (WA.done (by kernel_rfl) ?_)
      exact WQ.meetP [(0, _), (2, _), (4, _)] ⟨rfl, rfl, rfl, trivial⟩ ⟨_, _, rfl, (H.pick (L' := [RowS 85 4 xenc85 vp0 p0, .blk bk2 (.cells #[S [], S []] 47), .blk bk4 (.cells #[S a1.1, S a2.2.2.2] 47)]) (by repeat first | exact kPn | refine kPc (by repeat first | exact .head | apply Rem.tail) ?_)), hg_tabs⟩
   ·
    refine WR.idxRowSC (l := p0) H Tryz.underlying83 Tryz.sizeOf85 (by repeat first | exact kMh | apply kMt) rfl rfl hxa2 (Wn.none rfl) rfl ?_
    intro g12 hg12
    refine NA (WA.take (i := 6) rfl (by kernel_rfl) (by kernel_rfl) (by kernel_rfl) (fun _ => Ex.fieldAddr Tryz.underlying85 rfl Tryz.sizeOf9 (by decide) rfl) (Wn.none rfl) rfl rfl (fun _ _ => rfl) ?_)
    refine WA.three (i := 1) (j := 7) (k := 9) (by kernel_rfl) rfl rfl rfl ?_ ?_ ?_
    ·
     refine WR.idxRowSC (l := p0) H Tryz.underlying83 Tryz.sizeOf85 (by repeat first | exact kMh | apply kMt) rfl rfl hxa1 (Wn.none rfl) rfl ?_
     intro g8 hg8
     refine NA (WA.take (i := 2) rfl (by kernel_rfl) (by kernel_rfl) (by kernel_rfl) (fun _ => Ex.fieldAddr Tryz.underlying85 rfl Tryz.sizeOf9 (by decide) rfl) (Wn.none rfl) rfl rfl (fun _ _ => rfl) ?_)
     refine WA.three (i := 3) (j := 7) (k := 9) (by kernel_rfl) rfl rfl rfl ?_ ?_ ?_
     ·
      refine ST (Ex.loadRowF (j := 0) H rfl hg8 (by repeat first | exact kMh | apply kMt) (fun _ => rfl) hxa1 rfl Tryz.isAgg9) rfl ?_
      refine NA ?_
      refine WA.two (i := 7) (j := 9) (by kernel_rfl) rfl rfl ?_ ?_
      ·
       refine ST (Ex.loadRowF (j := 3) H rfl hg12 (by repeat first | exact kMh | apply kMt) (fun _ => rfl) hxa2 rfl Tryz.isAgg9) rfl ?_
       refine NA (WA.take (i := 8) rfl (by kernel_rfl) (by kernel_rfl) (by kernel_rfl) (fun _ => Ex.build [S a1.1, S a2.2.2.2] Tryz.underlying47 Tryz.zeroValue47 (xplaces47 Tryz.underlying47) rfl rfl) (Wn.none rfl) rfl rfl (fun _ _ => rfl) (WA.seq (fuel := 0) [9, 10] rfl (by kernel_rfl) (WR.alloc [_, _] H Tryz.zeroValue47 rfl (Wn.none rfl) rfl ?_)))
       intro bk4 w H
       refine WR.store [_, _] H rfl rfl rfl (by repeat first | exact .head | apply Upd.tail) Tryz.sizeOf47 rfl (by rfl) (by rfl) (Wn.none rfl) ?_
       intro w H
       refine NA (WA.done (by kernel_rfl) ?_)
       exact WQ.meetP [(0, _), (2, _), (4, _)] ⟨rfl, rfl, rfl, trivial⟩ ⟨_, _, rfl, (H.pick (L' := [RowS 85 4 xenc85 vp0 p0, .blk bk2 (.cells #[S [], S []] 47), .blk bk4 (.cells #[S a1.1, S a2.2.2.2] 47)]) (by repeat first | exact kPn | refine kPc (by repeat first | exact .head | apply Rem.tail) ?_)), hg_tabs⟩
      ·
       refine WR.alloc [_, _] H Tryz.zeroValue47 rfl (Wn.none rfl) rfl ?_
       intro bk4 w H
       refine NA (WA.seq (fuel := 0) [7, 8, 10] rfl (by kernel_rfl) (ST (Ex.loadRowF (j := 3) H rfl hg12 (by repeat first | exact kMh | apply kMt) (fun _ => rfl) hxa2 rfl Tryz.isAgg9) rfl ?_))
       refine ST (Ex.build [S a1.1, S a2.2.2.2] Tryz.underlying47 Tryz.zeroValue47 (xplaces47 Tryz.underlying47) rfl rfl) rfl (WR.store [_, _] H rfl rfl rfl (by repeat first | exact .head | apply Upd.tail) Tryz.sizeOf47 rfl (by rfl) (by rfl) (Wn.none rfl) ?_)
       intro w H
       refine NA (WA.done (by kernel_rfl) ?_)
       exact WQ.meetP [(0, _), (2, _), (4, _)] ⟨rfl, rfl, rfl, trivial⟩ ⟨_, _, rfl, (H.pick (L' := [RowS 85 4 xenc85 vp0 p0, .blk bk2 (.cells #[S [], S []] 47), .blk bk4 (.cells #[S a1.1, S a2.2.2.2] 47)]) (by repeat first | exact kPn | refine kPc (by repeat first | exact .head | apply Rem.tail) ?_)), hg_tabs⟩
     ·
      refine ST (Ex.loadRowF (j := 3) H rfl hg12 (by repeat first | exact kMh | apply kMt) (fun _ => rfl) hxa2 rfl Tryz.isAgg9) rfl ?_
      refine NA ?_
      refine WA.two (i := 3) (j := 9) (by kernel_rfl) rfl rfl ?_ ?_
      ·
       refine ST (Ex.loadRowF (j := 0) H rfl hg8 (by repeat first | exact kMh | apply kMt) (fun _ => rfl) hxa1 rfl Tryz.isAgg9) rfl ?_
       refine NA (WA.take (i := 8) rfl (by kernel_rfl) (by kernel_rfl) (by kernel_rfl) (fun _ => Ex.build [S a1.1, S a2.2.2.2] Tryz.underlying47 Tryz.zeroValue47 (xplaces47 Tryz.underlying47) rfl rfl) (Wn.none rfl) rfl rfl (fun _ _ => rfl) (WA.seq (fuel := 0) [9, 10] rfl (by kernel_rfl) (WR.alloc [_, _] H Tryz.zeroValue47 rfl (Wn.none rfl) rfl ?_)))
       intro bk4 w H
       refine WR.store [_, _] H rfl rfl rfl (by repeat first | exact .head | apply Upd.tail) Tryz.sizeOf47 rfl (by rfl) (by rfl) (Wn.none rfl) ?_
       intro w H
       refine NA (WA.done (by kernel_rfl) ?_)
       exact WQ.meetP [(0, _), (2, _), (4, _)] ⟨rfl, rfl, rfl, trivial⟩ ⟨_, _, rfl, (H.pick (L' := [RowS 85 4 xenc85 vp0 p0, .blk bk2 (.cells #[S [], S []] 47), .blk bk4 (.cells #[S a1.1, S a2.2.2.2] 47)]) (by repeat first | exact kPn | refine kPc (by repeat first | exact .head | apply Rem.tail) ?_)), hg_tabs⟩
      ·
       refine WR.alloc [_, _] H Tryz.zeroValue47 rfl (Wn.none rfl) rfl ?_
       intro bk4 w H
       refine NA (WA.seq (fuel := 0) [3, 8, 10] rfl (by kernel_rfl) (ST (Ex.loadRowF (j := 0) H rfl hg8 (by repeat first | exact kMh | apply kMt) (fun _ => rfl) hxa1 rfl Tryz.isAgg9) rfl ?_))
       refine ST (Ex.build [S a1.1, S a2.2.2.2] Tryz.underlying47 Tryz.zeroValue47 (xplaces47 Tryz.underlying47) rfl rfl) rfl (WR.store [_, _] H rfl rfl rfl (by repeat first | exact .head | apply Upd.tail) Tryz.sizeOf47 rfl (by rfl) (by rfl) (Wn.none rfl) ?_)
       intro w H
       refine NA (WA.done (by kernel_rfl) ?_)
       exact WQ.meetP [(0, _), (2, _), (4, _)] ⟨rfl, rfl, rfl, trivial⟩ ⟨_, _, rfl, (H.pick (L' := [RowS 85 4 xenc85 vp0 p0, .blk bk2 (.cells #[S [], S []] 47), .blk bk4 (.cells #[S a1.1, S a2.2.2.2] 47)]) (by repeat first | exact kPn | refine kPc (by repeat first | exact .head | apply Rem.tail) ?_)), hg_tabs⟩
     ·
      refine WR.alloc [_, _] H Tryz.zeroValue47 rfl (Wn.none rfl) rfl ?_
      intro bk4 w H
      refine NA (WA.takeM (i := 3) [7] rfl (by kernel_rfl) (by kernel_rfl) (by kernel_rfl) (Ex.loadRowF (j := 0) H rfl hg8 (by repeat first | exact kMh | apply kMt) (fun _ => rfl) hxa1 rfl Tryz.isAgg9) (Wn.none rfl) rfl rfl (fun _ _ => rfl) ?_)
      refine WA.seq (fuel := 0) [7, 8, 10] rfl (by kernel_rfl) (ST (Ex.loadRowF (j := 3) H rfl hg12 (by repeat first | exact kMh | apply kMt) (fun _ => rfl) hxa2 rfl Tryz.isAgg9) rfl ?_)
      refine ST (Ex.build [S a1.1, S a2.2.2.2] Tryz.underlying47 Tryz.zeroValue47 (xplaces47 Tryz.underlying47) rfl rfl) rfl (WR.store [_, _] H rfl rfl rfl (by repeat first | exact .head | apply Upd.tail) Tryz.sizeOf47 rfl (by rfl) (by rfl) (Wn.none rfl) ?_)
      intro w H
      refine NA (WA.done (by kernel_rfl) ?_)
      exact WQ.meetP [(0, _), (2, _), (4, _)] ⟨rfl, rfl, rfl, trivial⟩ ⟨_, _, rfl, (H.pick (L' := [RowS 85 4 xenc85 vp0 p0, .blk bk2 (.cells #[S [], S []] 47), .blk bk4 (.cells #[S a1.1, S a2.2.2.2] 47)]) (by repeat first | exact kPn | refine kPc (by repeat first | exact .head | apply Rem.tail) ?_)), hg_tabs⟩
    ·
     refine ST (Ex.loadRowF (j := 3) H rfl hg12 (by repeat first | exact kMh | apply kMt) (fun _ => rfl) hxa2 rfl Tryz.isAgg9) rfl ?_
     refine NA ?_
     refine WA.two (i := 1) (j := 9) (by kernel_rfl) rfl rfl ?_ ?_
     ·
      refine WR.idxRowSC (l := p0) H Tryz.underlying83 Tryz.sizeOf85 (by repeat first | exact kMh | apply kMt) rfl rfl hxa1 (Wn.none rfl) rfl ?_
      intro g8 hg8
      refine NA (WA.take (i := 2) rfl (by kernel_rfl) (by kernel_rfl) (by kernel_rfl) (fun _ => Ex.fieldAddr Tryz.underlying85 rfl Tryz.sizeOf9 (by decide) rfl) (Wn.none rfl) rfl rfl (fun _ _ => rfl) ?_)
      refine WA.two (i := 3) (j := 9) (by kernel_rfl) rfl rfl ?_ ?_
      ·
       refine ST (Ex.loadRowF (j := 0) H rfl hg8 (by repeat first | exact kMh | apply kMt) (fun _ => rfl) hxa1 rfl Tryz.isAgg9) rfl ?_
       refine NA (WA.take (i := 8) rfl (by kernel_rfl) (by kernel_rfl) (by kernel_rfl) (fun _ => Ex.build [S a1.1, S a2.2.2.2] Tryz.underlying47 Tryz.zeroValue47 (xplaces47 Tryz.underlying47) rfl rfl) (Wn.none rfl) rfl rfl (fun _ _ => rfl) (WA.seq (fuel := 0) [9, 10] rfl (by kernel_rfl) (WR.alloc [_, _] H Tryz.zeroValue47 rfl (Wn.none rfl) rfl ?_)))
       intro bk4 w H
       refine WR.store [_, _] H rfl rfl rfl (by repeat first | exact .head | apply Upd.tail) Tryz.sizeOf47 rfl (by rfl) (by rfl) (Wn.none rfl) ?_
       intro w H
       refine NA (WA.done (by kernel_rfl) ?_)
       exact WQ.meetP [(0, _), (2, _), (4, _)] ⟨rfl, rfl, rfl, trivial⟩ ⟨_, _, rfl, (H.pick (L' := [RowS 85 4 xenc85 vp0 p0, .blk bk2 (.cells #[S [], S []] 47), .blk bk4 (.cells #[S a1.1, S a2.2.2.2] 47)]) (by repeat first | exact kPn | refine kPc (by repeat first | exact .head | apply Rem.tail) ?_)), hg_tabs⟩
      ·
       refine WR.alloc [_, _] H Tryz.zeroValue47 rfl (Wn.none rfl) rfl ?_
       intro bk4 w H
       refine NA (WA.seq (fuel := 0) [3, 8, 10] rfl (by kernel_rfl) (ST (Ex.loadRowF (j := 0) H rfl hg8 (by repeat first | exact kMh | apply kMt) (fun _ => rfl) hxa1 rfl Tryz.isAgg9) rfl ?_))
       refine ST (Ex.build [S a1.1, S a2.2.2.2] Tryz.underlying47 Tryz.zeroValue47 (xplaces47 Tryz.underlying47) rfl rfl) rfl (WR.store [_, _] H rfl rfl rfl (by repeat first | exact .head | apply Upd.tail) Tryz.sizeOf47 rfl (by rfl) (by rfl) (Wn.none rfl) ?_)
       intro w H
       refine NA (WA.done (by kernel_rfl) ?_)
       exact WQ.meetP [(0, _), (2, _), (4, _)] ⟨rfl, rfl, rfl, trivial⟩ ⟨_, _, rfl, (H.pick (L' := [RowS 85 4 xenc85 vp0 p0, .blk bk2 (.cells #[S [], S []] 47), .blk bk4 (.cells #[S a1.1, S a2.2.2.2] 47)]) (by repeat first | exact kPn | refine kPc (by repeat first | exact .head | apply Rem.tail) ?_)), hg_tabs⟩
     ·
      refine WR.alloc [_, _] H Tryz.zeroValue47 rfl (Wn.none rfl) rfl ?_
      intro bk4 w H
      refine NA (WA.seq (fuel := 0) [1, 2, 3, 8, 10] rfl (by kernel_rfl) (WR.idxRowSC (l := p0) H Tryz.underlying83 Tryz.sizeOf85 (by repeat first | exact kMh | apply kMt) rfl rfl hxa1 (Wn.none rfl) rfl ?_))
      intro g8 hg8
      refine ST (Ex.fieldAddr Tryz.underlying85 rfl Tryz.sizeOf9 (by decide) rfl) rfl (ST (Ex.loadRowF (j := 0) H rfl hg8 (by repeat first | exact kMh | apply kMt) (fun _ => rfl) hxa1 rfl Tryz.isAgg9) rfl ?_)
      refine ST (Ex.build [S a1.1, S a2.2.2.2] Tryz.underlying47 Tryz.zeroValue47 (xplaces47 Tryz.underlying47) rfl rfl) rfl (WR.store [_, _] H rfl rfl rfl (by repeat first | exact .head | apply Upd.tail) Tryz.sizeOf47 rfl (by rfl) (by rfl) (Wn.none rfl) ?_)
      intro w H
      refine NA (WA.done (by kernel_rfl) ?_)
      exact WQ.meetP [(0, _), (2, _), (4, _)] ⟨rfl, rfl, rfl, trivial⟩ ⟨_, _, rfl, (H.pick (L' := [RowS 85 4 xenc85 vp0 p0, .blk bk2 (.cells #[S [], S []] 47), .blk bk4 (.cells #[S a1.1, S a2.2.2.2] 47)]) (by repeat first | exact kPn | refine kPc (by repeat first | exact .head | apply Rem.tail) ?_)), hg_tabs⟩
    ·
     refine WR.alloc [_, _] H Tryz.zeroValue47 rfl (Wn.none rfl) rfl ?_
     intro bk4 w H
     refine NA ?_
     refine WA.two (i := 1) (j := 7) (by kernel_rfl) rfl rfl ?_ ?_
     ·
      refine WR.idxRowSC (l := p0) H Tryz.underlying83 Tryz.sizeOf85 (by repeat first | exact kMh | apply kMt) rfl rfl hxa1 (Wn.none rfl) rfl ?_
      intro g8 hg8
      refine NA (WA.take (i := 2) rfl (by kernel_rfl) (by kernel_rfl) (by kernel_rfl) (fun _ => Ex.fieldAddr Tryz.underlying85 rfl Tryz.sizeOf9 (by decide) rfl) (Wn.none rfl) rfl rfl (fun _ _ => rfl) (WA.takeM (i := 3) [7] rfl (by kernel_rfl) (by kernel_rfl) (by kernel_rfl) (Ex.loadRowF (j := 0) H rfl hg8 (by repeat first | exact kMh | apply kMt) (fun _ => rfl) hxa1 rfl Tryz.isAgg9) (Wn.none rfl) rfl rfl (fun _ _ => rfl) ?_))
      refine WA.seq (fuel := 0) [7, 8, 10] rfl (by kernel_rfl) (ST (Ex.loadRowF (j := 3) H rfl hg12 (by repeat first | exact kMh | apply kMt) (fun _ => rfl) hxa2 rfl Tryz.isAgg9) rfl ?_)
      refine ST (Ex.build [S a1.1, S a2.2.2.2] Tryz.underlying47 Tryz.zeroValue47 (xplaces47 Tryz.underlying47) rfl rfl) rfl (WR.store [_, _] H rfl rfl rfl (by repeat first | exact .head | apply Upd.tail) Tryz.sizeOf47 rfl (by rfl) (by rfl) (Wn.none rfl) ?_)
      intro w H
      refine NA (WA.done (by kernel_rfl) ?_)
      exact WQ.meetP [(0, _), (2, _), (4, _)] ⟨rfl, rfl, rfl, trivial⟩ ⟨_, _, rfl, (H.pick (L' := [RowS 85 4 xenc85 vp0 p0, .blk bk2 (.cells #[S [], S []] 47), .blk bk4 (.cells #[S a1.1, S a2.2.2.2] 47)]) (by repeat first | exact kPn | refine kPc (by repeat first | exact .head | apply Rem.tail) ?_)), hg_tabs⟩
     ·
      refine ST (Ex.loadRowF (j := 3) H rfl hg12 (by repeat first | exact kMh | apply kMt) (fun _ => rfl) hxa2 rfl Tryz.isAgg9) rfl ?_
      refine NA (WA.seq (fuel := 0) [1, 2, 3, 8, 10] rfl (by kernel_rfl) (WR.idxRowSC (l := p0) H Tryz.underlying83 Tryz.sizeOf85 (by repeat first | exact kMh | apply kMt) rfl rfl hxa1 (Wn.none rfl) rfl ?_))
      intro g8 hg8
      refine ST (Ex.fieldAddr Tryz.underlying85 rfl Tryz.sizeOf9 (by decide) rfl) rfl (ST (Ex.loadRowF (j := 0) H rfl hg8 (by repeat first | exact kMh | apply kMt) (fun _ => rfl) hxa1 rfl Tryz.isAgg9) rfl ?_)
      refine ST (Ex.build [S a1.1, S a2.2.2.2] Tryz.underlying47 Tryz.zeroValue47 (xplaces47 Tryz.underlying47) rfl rfl) rfl (WR.store [_, _] H rfl rfl rfl (by repeat first | exact .head | apply Upd.tail) Tryz.sizeOf47 rfl (by rfl) (by rfl) (Wn.none rfl) ?_)
      intro w H
      refine NA (WA.done (by kernel_rfl) ?_)
      exact WQ.meetP [(0, _), (2, _), (4, _)] ⟨rfl, rfl, rfl, trivial⟩ ⟨_, _, rfl, (H.pick (L' := [RowS 85 4 xenc85 vp0 p0, .blk bk2 (.cells #[S [], S []] 47), .blk bk4 (.cells #[S a1.1, S a2.2.2.2] 47)]) (by repeat first | exact kPn | refine kPc (by repeat first | exact .head | apply Rem.tail) ?_)), hg_tabs⟩
   ·
    refine WR.alloc [_, _] H Tryz.zeroValue47 rfl (Wn.none rfl) rfl ?_
    intro bk4 w H
    refine NA ?_
    refine WA.two (i := 1) (j := 5) (by kernel_rfl) rfl rfl ?_ ?_
    ·
     refine WR.idxRowSC (l := p0) H Tryz.underlying83 Tryz.sizeOf85 (by repeat first | exact kMh | apply kMt) rfl rfl hxa1 (Wn.none rfl) rfl ?_
     intro g8 hg8
     refine NA (WA.take (i := 2) rfl (by kernel_rfl) (by kernel_rfl) (by kernel_rfl) (fun _ => Ex.fieldAddr Tryz.underlying85 rfl Tryz.sizeOf9 (by decide) rfl) (Wn.none rfl) rfl rfl (fun _ _ => rfl) ?_)
     refine WA.two (i := 3) (j := 5) (by kernel_rfl) rfl rfl ?_ ?_
     ·
      refine ST (Ex.loadRowF (j := 0) H rfl hg8 (by repeat first | exact kMh | apply kMt) (fun _ => rfl) hxa1 rfl Tryz.isAgg9) rfl ?_
      refine NA (WA.seq (fuel := 0) [5, 6, 7, 8, 10] rfl (by kernel_rfl) (WR.idxRowSC (l := p0) H Tryz.underlying83 Tryz.sizeOf85 (by repeat first | exact kMh | apply kMt) rfl rfl hxa2 (Wn.none rfl) rfl ?_))
      intro g12 hg12
      refine ST (Ex.fieldAddr Tryz.underlying85 rfl Tryz.sizeOf9 (by decide) rfl) rfl (ST (Ex.loadRowF (j := 3) H rfl hg12 (by repeat first | exact kMh | apply kMt) (fun _ => rfl) hxa2 rfl Tryz.isAgg9) rfl ?_)
      refine ST (Ex.build [S a1.1, S a2.2.2.2] Tryz.underlying47 Tryz.zeroValue47 (xplaces47 Tryz.underlying47) rfl rfl) rfl (WR.store [_, _] H rfl rfl rfl (by repeat first | exact .head | apply Upd.tail) Tryz.sizeOf47 rfl (by rfl) (by rfl) (Wn.none rfl) ?_)
      intro w H
      refine NA (WA.done (by kernel_rfl) ?_)
      exact WQ.meetP [(0, _), (2, _), (4, _)] ⟨rfl, rfl, rfl, trivial⟩ ⟨_, _, rfl, (H.pick (L' := [RowS 85 4 xenc85 vp0 p0, .blk bk2 (.cells #[S [], S []] 47), .blk bk4 (.cells #[S a1.1, S a2.2.2.2] 47)]) (by repeat first | exact kPn | refine kPc (by repeat first | exact .head | apply Rem.tail) ?_)), hg_tabs⟩
     ·
      refine WR.idxRowSC (l := p0) H Tryz.underlying83 Tryz.sizeOf85 (by repeat first | exact kMh | apply kMt) rfl rfl hxa2 (Wn.none rfl) rfl ?_
      intro g12 hg12
      refine NA (WA.take (i := 6) rfl (by kernel_rfl) (by kernel_rfl) (by kernel_rfl) (fun _ => Ex.fieldAddr Tryz.underlying85 rfl Tryz.sizeOf9 (by decide) rfl) (Wn.none rfl) rfl rfl (fun _ _ => rfl) (WA.takeM (i := 3) [7] rfl (by kernel_rfl) (by kernel_rfl) (by kernel_rfl) (Ex.loadRowF (j := 0) H rfl hg8 (by repeat first | exact kMh | apply kMt) (fun _ => rfl) hxa1 rfl Tryz.isAgg9) (Wn.none rfl) rfl rfl (fun _ _ => rfl) ?_))
      refine WA.seq (fuel := 0) [7, 8, 10] rfl (by kernel_rfl) (ST (Ex.loadRowF (j := 3) H rfl hg12 (by repeat first | exact kMh | apply kMt) (fun _ => rfl) hxa2 rfl Tryz.isAgg9) rfl ?_)
      refine ST (Ex.build [S a1.1, S a2.2.2.2] Tryz.underlying47 Tryz.zeroValue47 (xplaces47 Tryz.underlying47) rfl rfl) rfl (WR.store [_, _] H rfl rfl rfl (by repeat first | exact .head | apply Upd.tail) Tryz.sizeOf47 rfl (by rfl) (by rfl) (Wn.none rfl) ?_)
      intro w H
      refine NA (WA.done (by kernel_rfl) ?_)
      exact WQ.meetP [(0, _), (2, _), (4, _)] ⟨rfl, rfl, rfl, trivial⟩ ⟨_, _, rfl, (H.pick (L' := [RowS 85 4 xenc85 vp0 p0, .blk bk2 (.cells #[S [], S []] 47), .blk bk4 (.cells #[S a1.1, S a2.2.2.2] 47)]) (by repeat first | exact kPn | refine kPc (by repeat first | exact .head | apply Rem.tail) ?_)), hg_tabs⟩
    ·
     refine WR.idxRowSC (l := p0) H Tryz.underlying83 Tryz.sizeOf85 (by repeat first | exact kMh | apply kMt) rfl rfl hxa2 (Wn.none rfl) rfl ?_
     intro g12 hg12
     refine NA (WA.take (i := 6) rfl (by kernel_rfl) (by kernel_rfl) (by kernel_rfl) (fun _ => Ex.fieldAddr Tryz.underlying85 rfl Tryz.sizeOf9 (by decide) rfl) (Wn.none rfl) rfl rfl (fun _ _ => rfl) ?_)
     refine WA.two (i := 1) (j := 7) (by kernel_rfl) rfl rfl ?_ ?_
     ·
      refine WR.idxRowSC (l := p0) H Tryz.underlying83 Tryz.sizeOf85 (by repeat first | exact kMh | apply kMt) rfl rfl hxa1 (Wn.none rfl) rfl ?_
      intro g8 hg8
      refine NA (WA.take (i := 2) rfl (by kernel_rfl) (by kernel_rfl) (by kernel_rfl) (fun _ => Ex.fieldAddr Tryz.underlying85 rfl Tryz.sizeOf9 (by decide) rfl) (Wn.none rfl) rfl rfl (fun _ _ => rfl) (WA.takeM (i := 3) [7] rfl (by kernel_rfl) (by kernel_rfl) (by kernel_rfl) (Ex.loadRowF (j := 0) H rfl hg8 (by repeat first | exact kMh | apply kMt) (fun _ => rfl) hxa1 rfl Tryz.isAgg9) (Wn.none rfl) rfl rfl (fun _ _ => rfl) ?_))
      refine WA.seq (fuel := 0) [7, 8, 10] rfl (by kernel_rfl) (ST (Ex.loadRowF (j := 3) H rfl hg12 (by repeat first | exact kMh | apply kMt) (fun _ => rfl) hxa2 rfl Tryz.isAgg9) rfl ?_)
      refine ST (Ex.build [S a1.1, S a2.2.2.2] Tryz.underlying47 Tryz.zeroValue47 (xplaces47 Tryz.underlying47) rfl rfl) rfl (WR.store [_, _] H rfl rfl rfl (by repeat first | exact .head | apply Upd.tail) Tryz.sizeOf47 rfl (by rfl) (by rfl) (Wn.none rfl) ?_)
      intro w H
      refine NA (WA.done (by kernel_rfl) ?_)
      exact WQ.meetP [(0, _), (2, _), (4, _)] ⟨rfl, rfl, rfl, trivial⟩ ⟨_, _, rfl, (H.pick (L' := [RowS 85 4 xenc85 vp0 p0, .blk bk2 (.cells #[S [], S []] 47), .blk bk4 (.cells #[S a1.1, S a2.2.2.2] 47)]) (by repeat first | exact kPn | refine kPc (by repeat first | exact .head | apply Rem.tail) ?_)), hg_tabs⟩
     ·
      refine ST (Ex.loadRowF (j := 3) H rfl hg12 (by repeat first | exact kMh | apply kMt) (fun _ => rfl) hxa2 rfl Tryz.isAgg9) rfl ?_
      refine NA (WA.seq (fuel := 0) [1, 2, 3, 8, 10] rfl (by kernel_rfl) (WR.idxRowSC (l := p0) H Tryz.underlying83 Tryz.sizeOf85 (by repeat first | exact kMh | apply kMt) rfl rfl hxa1 (Wn.none rfl) rfl ?_))
      intro g8 hg8
      refine ST (Ex.fieldAddr Tryz.underlying85 rfl Tryz.sizeOf9 (by decide) rfl) rfl (ST (Ex.loadRowF (j := 0) H rfl hg8 (by repeat first | exact kMh | apply kMt) (fun _ => rfl) hxa1 rfl Tryz.isAgg9) rfl ?_)
      refine ST (Ex.build [S a1.1, S a2.2.2.2] Tryz.underlying47 Tryz.zeroValue47 (xplaces47 Tryz.underlying47) rfl rfl) rfl (WR.store [_, _] H rfl rfl rfl (by repeat first | exact .head | apply Upd.tail) Tryz.sizeOf47 rfl (by rfl) (by rfl) (Wn.none rfl) ?_)
      intro w H
      refine NA (WA.done (by kernel_rfl) ?_)
      exact WQ.meetP [(0, _), (2, _), (4, _)] ⟨rfl, rfl, rfl, trivial⟩ ⟨_, _, rfl, (H.pick (L' := [RowS 85 4 xenc85 vp0 p0, .blk bk2 (.cells #[S [], S []] 47), .blk bk4 (.cells #[S a1.1, S a2.2.2.2] 47)]) (by repeat first | exact kPn | refine kPc (by repeat first | exact .head | apply Rem.tail) ?_)), hg_tabs⟩
  ·
   rintro e w ⟨b3, M, rfl, H, hg_tabs⟩
   refine TN (SQ (SQ ?_))
   obtain ⟨a4, hxa4, h⟩ := bnd h
   refine RG (MV rfl rfl (WR.idxRowSC (l := p0) H Tryz.underlying83 Tryz.sizeOf85 (by repeat first | exact kMh | apply kMt) rfl rfl hxa4 (Wn.none rfl) rfl ?_))
   intro g17 hg17
   refine ST (Ex.fieldAddr Tryz.underlying85 rfl Tryz.sizeOf3 (by decide) rfl) rfl (ST (Ex.loadRowF (j := 1) H rfl hg17 (by repeat first | exact kMh | apply kMt) (fun _ => rfl) hxa4 rfl Tryz.isAgg3) rfl ?_)
   refine ST (Ex.lss rfl rfl) rfl (NL (TN ?_))
   refine WC.condB rfl (fun hk5 => ?_) (fun hk5 => ?_)
   ·
    replace hk5 : a4.2.1 < (0 : Int) := of_decide_eq_true hk5
    rw [if_pos hk5] at h
    refine SQ (RG (ST (Ex.loadAgg H rfl (by repeat first | exact kMh | apply kMt) Tryz.isAgg47 Tryz.sizeOf47 (by rfl)) rfl ?_))
    refine MV rfl rfl (ST (Ex.lenRowS (l := p0) Tryz.underlying83 H (by repeat first | exact kMh | apply kMt) rfl) rfl ?_)
    refine ST (Ex.eql rfl rfl) rfl (WR.store [_, _] H rfl rfl rfl (by repeat first | exact .head | apply Upd.tail) Tryz.sizeOf47 rfl (by rfl) (by rfl) (Wn.none rfl) ?_)
    intro w H
    refine AS rfl rfl (NL (TN (RT ?_)))
    obtain rfl := oI h
    exact WQ.retX2 (its := []) rfl ⟨_, rfl, H.loadAgg (by repeat first | exact kMh | apply kMt) Tryz.isAgg47 Tryz.sizeOf47 (by rfl)⟩ rfl H (by repeat first | exact kPn | refine kPc (by repeat first | exact .head | apply Rem.tail) ?_) ⟨rfl, rfl⟩
   ·
    replace hk5 : ¬ (a4.2.1 < (0 : Int)) := of_decide_eq_false hk5
    rw [if_neg hk5] at h
    refine SK (TN (SQ ?_))
    obtain ⟨l6, hxl6, h⟩ := bnd h
    refine RG (MV rfl rfl ?_)
    refine WR.callX (A := [RowS 85 4 xenc85 vp0 p0]) (B := [.blk bk2 (.cells #[S [], S []] 47), .blk b3 (.cells #[S a1.1, S a2.2.2.2] 47)]) (H.pick (L' := [RowS 85 4 xenc85 vp0 p0, .blk bk2 (.cells #[S [], S []] 47), .blk b3 (.cells #[S a1.1, S a2.2.2.2] 47)]) (by repeat first | exact kPn | refine kPc (by repeat first | exact .head | apply Rem.tail) ?_)) (slices_SortFunc_piece_ct hxl6) (.left (Spl.all _)) rfl trivial (Wn.none rfl) rfl ?_
    intro v26 M w its H hle hR
    replace hg_tabs := hg_tabs.mono hle
    obtain ⟨rfl, rfl⟩ := hR
    simp only [List.cons_append, List.nil_append] at H
    refine NL (TN (SQ (RG (ST (Ex.fieldAddr Tryz.underlying47 rfl Tryz.sizeOf9 (by decide) rfl) rfl (WR.store1 [_, _] H rfl rfl (by repeat first | exact .head | apply Upd.tail) (by rfl) Tryz.sizeOf9 (by first | decide | (simp; done) | (simp; omega)) (by rfl) (by rfl) (Wn.none rfl) ?_)))))
    intro w H
    refine NL (TN (SQ (SQ (RG (MV rfl rfl (ST (Ex.lenRowS (l := l6) Tryz.underlying83 H (by repeat first | exact kMh | apply kMt) rfl) rfl ?_))))))
    refine MV rfl rfl (NL (TN ?_))
    obtain ⟨o7, e8, h⟩ := bnd h
    refine WC.cutX (fun e w => ∃ (s9 : List UInt8) (s10 : List UInt8) (s11 : List UInt8) (s12 : List UInt8) (M : Mem), e = [(2, ptr bk2 0), (4, ptr b3 0)] ∧ StX (feet [RowS 85 4 xenc85 vp0 p0]) w0 M0 M [.blk bk2 (.cells #[S s9, S s10] 47), .blk b3 (.cells #[S s11, S s12] 47)] w ∧ Tabs M ∧ some (.inl (s9, s10, s11, s12)) = some o7) [] ?_ ?_ (trivial)
    ·
     refine BL ?_
     refine WC.loopP (fun m e w => ∃ (s13 : List UInt8) (s14 : List UInt8) (s15 : List UInt8) (s16 : List UInt8) (n17 : Int) (M : Mem), e = [(2, ptr bk2 0), (4, ptr b3 0), (28, vp0), (29, I (l6.length : Int)), (30, I n17)] ∧ StX (feet [RowS 85 4 xenc85 vp0 p0]) w0 M0 M [.blk bk2 (.cells #[S s13, S s14] 47), .blk b3 (.cells #[S s15, S s16] 47), RowS 85 4 xenc85 vp0 l6] w ∧ Tabs M ∧ media_joined_L1 l6 m s13 s14 s15 s16 n17 = some o7) FU [(2, _), (4, _), (28, _), (29, _), (30, _)] ⟨rfl, rfl, rfl, rfl, rfl, trivial⟩ ⟨_, _, _, _, _, _, rfl, (H.pick (L' := [.blk bk2 (.cells #[S [], S []] 47), .blk b3 (.cells #[S a1.1, S []] 47), RowS 85 4 xenc85 vp0 l6]) (by repeat first | exact kPn | refine kPc (by repeat first | exact .head | apply Rem.tail) ?_)), hg_tabs, e8⟩ ?_
     rintro m18 e w ⟨s13, s14, s15, s16, n17, M, rfl, H, hg_tabs, e8⟩
     rcases m18 with _ | m18
     · rw [media_joined_L1] at e8; cases e8
     rw [media_joined_L1] at e8
     refine SQ (RG (ST (Ex.lss rfl rfl) rfl (NL (TN (SQ ?_)))))
     refine WC.condB rfl (fun hk19 => ?_) (fun hk19 => ?_)
     ·
      replace hk19 : n17 < (l6.length : Int) := of_decide_eq_true hk19
      rw [if_pos hk19] at e8
      refine SK (TN (SQ (BL (SQ ?_))))
      obtain ⟨a20, hxa20, e8⟩ := bnd e8
      refine RG (MV rfl rfl (WR.idxRowSC (l := l6) H Tryz.underlying83 Tryz.sizeOf85 (by repeat first | exact kMh | apply kMt) rfl rfl hxa20 (Wn.none rfl) rfl ?_))
      intro g33 hg33
      refine ST (Ex.loadRowA H rfl hg33 (by repeat first | exact kMh | apply kMt) (fun _ => rfl) hxa20 Tryz.isAgg85 Tryz.sizeOf85) rfl ?_
      refine WR.alloc [_, _, _, _] H Tryz.zeroValue85 rfl (Wn.none rfl) rfl ?_
      intro bk6 w H
      refine AS rfl rfl (WR.store [_, _, _, _] H rfl rfl rfl (by repeat first | exact .head | apply Upd.tail) Tryz.sizeOf85 rfl (by rfl) (by rfl) (Wn.none rfl) ?_)
      intro w H
      refine NL (TN (SQ (SQ (RG (ST (Ex.fieldAddr Tryz.underlying85 rfl Tryz.sizeOf3 (by decide) rfl) rfl (ST (Ex.load1 H rfl (by repeat first | exact kMh | apply kMt) Tryz.isAgg3 (by rfl)) rfl ?_))))))
      refine MV rfl rfl (ST (Ex.neqC rfl rfl) rfl (NL (TN ?_)))
      refine WC.condB rfl (fun hk21 => ?_) (fun hk21 => ?_)
      ·
       replace hk21 : ¬ (a20.2.1 = n17) := of_not_decide hk21
       rw [if_neg hk21] at e8
       refine SQ (RG (ST (Ex.loadAgg H rfl (by repeat first | exact kMh | apply kMt) Tryz.isAgg47 Tryz.sizeOf47 (by rfl)) rfl ?_))
       refine WR.store [_, _] H rfl rfl rfl (by repeat first | exact .head | apply Upd.tail) Tryz.sizeOf47 rfl (by rfl) (by rfl) (Wn.none rfl) ?_
       intro w H
       refine AS rfl rfl (NL (TN (RT ?_)))
       obtain rfl := oI e8
       try dsimp only at h
       obtain rfl := oI h
       exact WQ.retX2 (its := []) rfl ⟨_, rfl, H.loadAgg (by repeat first | exact kMh | apply kMt) Tryz.isAgg47 Tryz.sizeOf47 (by rfl)⟩ rfl H (by repeat first | exact kPn | refine kPc (by repeat first | exact .head | apply Rem.tail) ?_) ⟨rfl, rfl⟩
      ·
       replace hk21 : a20.2.1 = n17 := of_not_decide' hk21
       rw [if_pos hk21] at e8
       refine SK (TN ?_)
       obtain ⟨s22, hx23, e8⟩ := bnd e8
       obtain ⟨s24, hxs24, e8⟩ := bnd e8
       refine WC.cutP (fun e w => ∃  (M : Mem), e = [(2, ptr bk2 0), (4, ptr b3 0), (28, vp0), (29, I (l6.length : Int)), (30, I n17)] ∧ StX (feet [RowS 85 4 xenc85 vp0 p0]) w0 M0 M [.blk bk2 (.cells #[S s13, S s14] 47), .blk b3 (.cells #[S s15, S s24] 47), RowS 85 4 xenc85 vp0 l6] w ∧ Tabs M) ?_ ?_
       ·
        refine WC.draw (m := 7) rfl rfl H ?_
        intro w H
        refine WA.take (i := 0) rfl (by kernel_rfl) (by kernel_rfl) (by kernel_rfl) (fun _ => Ex.fieldAddr Tryz.underlying47 rfl Tryz.sizeOf9 (by decide) rfl) (Wn.none rfl) rfl rfl (fun _ _ => rfl) (WA.takeM (i := 2) [1] rfl (by kernel_rfl) (by kernel_rfl) (by kernel_rfl) (Ex.loadAgg H rfl (by repeat first | exact kMh | apply kMt) Tryz.isAgg85 Tryz.sizeOf85 (by rfl)) (Wn.none rfl) rfl rfl (fun _ _ => rfl) ?_)
        refine WA.two (i := 1) (j := 3) (by kernel_rfl) rfl rfl ?_ ?_
        ·
         refine ST (Ex.load1 H rfl (by repeat first | exact kMh | apply kMt) Tryz.isAgg9 (by rfl)) rfl ?_
         refine NA (WA.seq (fuel := 0) [3, 4, 5, 6] rfl (by kernel_rfl) (WR.call H (media_piece_text_ct hx23) rfl trivial (Wn.none rfl) rfl ?_))
         intro v43 M w H hle hR
         replace hg_tabs := hg_tabs.mono hle
         obtain rfl := hR
         refine ST (Ex.strAddC rfl rfl hxs24) rfl (ST (Ex.fieldAddr Tryz.underlying47 rfl Tryz.sizeOf9 (by decide) rfl) rfl (WR.store1 [_, _] H rfl rfl (by repeat first | exact .head | apply Upd.tail) (by rfl) Tryz.sizeOf9 (by first | decide | (simp; done) | (simp; omega)) (by rfl) (by rfl) (Wn.none rfl) ?_))
         intro w H
         refine NA (WA.done (by kernel_rfl) ?_)
         exact WQ.meetP [(2, _), (4, _), (28, _), (29, _), (30, _)] ⟨rfl, rfl, rfl, rfl, rfl, trivial⟩ ⟨_, rfl, (H.pick (L' := [.blk bk2 (.cells #[S s13, S s14] 47), .blk b3 (.cells #[S s15, S s24] 47), RowS 85 4 xenc85 vp0 l6]) (by repeat first | exact kPn | refine kPc (by repeat first | exact .head | apply Rem.tail) ?_)), hg_tabs⟩
        ·
         refine WR.call H (media_piece_text_ct hx23) rfl trivial (Wn.none rfl) rfl ?_
         intro v43 M w H hle hR
         replace hg_tabs := hg_tabs.mono hle
         obtain rfl := hR
         refine NA (WA.seq (fuel := 0) [1, 4, 5, 6] rfl (by kernel_rfl) (ST (Ex.load1 H rfl (by repeat first | exact kMh | apply kMt) Tryz.isAgg9 (by rfl)) rfl ?_))
         refine ST (Ex.strAddC rfl rfl hxs24) rfl (ST (Ex.fieldAddr Tryz.underlying47 rfl Tryz.sizeOf9 (by decide) rfl) rfl (WR.store1 [_, _] H rfl rfl (by repeat first | exact .head | apply Upd.tail) (by rfl) Tryz.sizeOf9 (by first | decide | (simp; done) | (simp; omega)) (by rfl) (by rfl) (Wn.none rfl) ?_))
         intro w H
         refine NA (WA.done (by kernel_rfl) ?_)
         exact WQ.meetP [(2, _), (4, _), (28, _), (29, _), (30, _)] ⟨rfl, rfl, rfl, rfl, rfl, trivial⟩ ⟨_, rfl, (H.pick (L' := [.blk bk2 (.cells #[S s13, S s14] 47), .blk b3 (.cells #[S s15, S s24] 47), RowS 85 4 xenc85 vp0 l6]) (by repeat first | exact kPn | refine kPc (by repeat first | exact .head | apply Rem.tail) ?_)), hg_tabs⟩
       ·
        rintro e w ⟨M, rfl, H, hg_tabs⟩
        refine IB (TN ?_)
        obtain ⟨n25, hxn25, e8⟩ := bnd e8
        refine RG (ST (Ex.addC rfl rfl hxn25) rfl (MV rfl rfl (NL ?_)))
        exact WQ.againP m18 [(2, _), (4, _), (28, _), (29, _), (30, _)] ⟨rfl, rfl, rfl, rfl, rfl, trivial⟩ ⟨_, _, _, _, _, _, rfl, H, hg_tabs, e8⟩ (Nat.lt_succ_self _)
     ·
      replace hk19 : ¬ (n17 < (l6.length : Int)) := of_decide_eq_false hk19
      rw [if_neg hk19] at e8
      refine WC.exit (WQ.thenExit (WQ.thenExit (WQ.exitHere ?_)))
      exact WQ.meetN [(2, _), (4, _)] ⟨rfl, rfl, trivial⟩ ⟨_, _, _, _, _, rfl, (H.pick (L' := [.blk bk2 (.cells #[S s13, S s14] 47), .blk b3 (.cells #[S s15, S s16] 47)]) (by repeat first | exact kPn | refine kPc (by repeat first | exact .head | apply Rem.tail) ?_)), hg_tabs, e8⟩
    ·
     rintro e w ⟨s9, s10, s11, s12, M, rfl, H, hg_tabs, q26⟩
     obtain rfl := oI q26
     try dsimp only at h
     refine TN (SQ ?_)
     obtain ⟨s27, hx28, h⟩ := bnd h
     refine RG (ST (Ex.fieldAddr Tryz.underlying47 rfl Tryz.sizeOf9 (by decide) rfl) rfl (ST (Ex.load1 H rfl (by repeat first | exact kMh | apply kMt) Tryz.isAgg9 (by rfl)) rfl ?_))
     refine WR.call H (strings_ToValidUTF8_ct hx28) rfl (hg_tabs) (Wn.none rfl) rfl ?_
     intro v49 M w H hle hR
     replace hg_tabs := hg_tabs.mono hle
     obtain rfl := hR
     refine ST (Ex.fieldAddr Tryz.underlying47 rfl Tryz.sizeOf9 (by decide) rfl) rfl (WR.store1 [_, _] H rfl rfl (by repeat first | exact .head | apply Upd.tail) (by rfl) Tryz.sizeOf9 (by first | decide | (simp; done) | (simp; omega)) (by rfl) (by rfl) (Wn.none rfl) ?_)
     intro w H
     refine NL (TN (SQ (RG (ST (Ex.loadAgg H rfl (by repeat first | exact kMh | apply kMt) Tryz.isAgg47 Tryz.sizeOf47 (by rfl)) rfl ?_))))
     refine WR.store [_, _] H rfl rfl rfl (by repeat first | exact .head | apply Upd.tail) Tryz.sizeOf47 rfl (by rfl) (by rfl) (Wn.none rfl) ?_
     intro w H
     refine AS rfl rfl (NL (TN (RT ?_)))
     obtain rfl := oI h
     exact WQ.retX2 (its := []) rfl ⟨_, rfl, H.loadAgg (by repeat first | exact kMh | apply kMt) Tryz.isAgg47 Tryz.sizeOf47 (by rfl)⟩ rfl H (by repeat first | exact kPn | refine kPc (by repeat first | exact .head | apply Rem.tail) ?_) ⟨rfl, rfl⟩
theorem media_params_ct {p0 : List (List UInt8 × Int × Bool × List UInt8)} {vp0 : Value} {r : (List (List UInt8 × List UInt8) × Bool)} (h : media_params p0 = some r) : Ct Tryz.prog 60 [vp0] (fun M => Tabs M ∧ SlS M 4 xenc85 vp0 p0) (fun v M => ∃ x0, v = Value.tuple #[x0, Value.bool r.2] ∧ SlS M 2 xenc47 x0 r.1) := by
  refine Ct.of Tryz.func60 (enters Tryz.func60 (by kernel_rfl) rfl) rfl rfl rfl ?_
  intro w0 M0 H hp
  obtain ⟨hg_tabs, hp0⟩ := hp
  unfold media_params at h
  refine SQ (RG (AS rfl rfl (AS rfl rfl (NL (TN (SQ (RG (AS rfl rfl (NL (TN (SQ (SQ (RG (MV rfl rfl (ST (Ex.lenSlS Tryz.underlying83 hp0 rfl) rfl (MV rfl rfl (NL (TN ?_))))))))))))))))))
  obtain ⟨o1, e2, h⟩ := bnd h
  refine WC.cutX (fun e w => ∃ (l4 : List (List UInt8 × List UInt8)) (v5 : Value) (M : Mem), e = [(4, v5)] ∧ St w0 M0 M [RowS 47 2 xenc47 v5 l4] w ∧ Tabs M ∧ some (.inl l4) = some o1) [] ?_ ?_ (trivial)
  ·
   refine BL ?_
   replace H := H.newRowS 47 2 xenc47
   refine WC.loopP (fun m e w => ∃ (l7 : List (List UInt8 × List UInt8)) (v8 : Value) (n9 : Int) (M : Mem), e = [(0, vp0), (4, v8), (13, vp0), (14, I (p0.length : Int)), (15, I n9)] ∧ St w0 M0 M [RowS 47 2 xenc47 v8 l7] w ∧ Tabs M ∧ SlS M 4 xenc85 vp0 p0 ∧ media_params_L1 p0 m l7 n9 = some o1) FU [(0, _), (4, _), (13, _), (14, _), (15, _)] ⟨rfl, rfl, rfl, rfl, rfl, trivial⟩ ⟨_, _, _, _, rfl, H, hg_tabs, hp0, e2⟩ ?_
   rintro m10 e w ⟨l7, v8, n9, M, rfl, H, hg_tabs, hp0, e2⟩
   rcases m10 with _ | m10
   · rw [media_params_L1] at e2; cases e2
   rw [media_params_L1] at e2
   refine SQ (RG (ST (Ex.lss rfl rfl) rfl (NL (TN (SQ ?_)))))
   refine WC.condB rfl (fun hk12 => ?_) (fun hk12 => ?_)
   ·
    replace hk12 : n9 < (p0.length : Int) := of_decide_eq_true hk12
    rw [if_pos hk12] at e2
    refine SK (TN (SQ (BL (SQ ?_))))
    obtain ⟨a13, hxa13, e2⟩ := bnd e2
    obtain ⟨bk18, o18, ha18, hc18⟩ := hp0.atC hxa13
    refine RG (MV rfl rfl (ST (Ex.idxAt ha18 Tryz.underlying83 Tryz.sizeOf85 rfl rfl) rfl (ST (Ex.loadAggM H rfl hc18 Tryz.isAgg85 Tryz.sizeOf85 (by rfl)) rfl ?_)))
    refine WR.alloc [_, _, _, _] H Tryz.zeroValue85 rfl (Wn.none rfl) rfl ?_
    intro bk6 w H
    refine AS rfl rfl (WR.store [_, _, _, _] H rfl rfl rfl (by repeat first | exact .head | apply Upd.tail) Tryz.sizeOf85 rfl (by rfl) (by rfl) (Wn.none rfl) ?_)
    intro w H
    refine NL (TN (SQ (RG ?_)))
    obtain ⟨M, hle, hb14, H⟩ := H.freezeVar (b := bk6) (by repeat first | exact .head | apply Rem.tail)
    replace hg_tabs := hg_tabs.mono hle
    replace hp0 := hp0.mono hle
    replace hc18 := hc18.mono hle
    refine ST (Ex.makeFunc rfl) rfl (AS rfl rfl (NL (TN (SQ (SQ ?_)))))
    obtain ⟨l15, hxl15, e2⟩ := bnd e2
    obtain ⟨b16, hx17, e2⟩ := bnd e2
    refine RG (MV rfl rfl (MV rfl rfl (WR.sliceSSH Tryz.underlying83 Tryz.sizeOf85 (hp0) rfl rfl hxl15 (Wn.none rfl) rfl ?_)))
    intro v23 hs23
    refine MV rfl rfl (WR.call H (slices_ContainsFunc_piece_ct hx17) rfl ⟨hs23, (fun _ _ h => FnV.ofCap [ptr bk6 0] (media_params_1_ct h) (fun _ hm => hb14.mono hm))⟩ (Wn.none rfl) rfl ?_)
    intro v25 M w H hle hR
    replace hg_tabs := hg_tabs.mono hle
    replace hp0 := hp0.mono hle
    replace hc18 := hc18.mono hle
    replace hb14 := hb14.mono hle
    replace hs23 := hs23.mono hle
    obtain rfl := hR
    refine NL (TN ?_)
    refine WC.condB rfl (fun hk18 => ?_) (fun hk18 => ?_)
    ·
     subst hk18
     rw [if_pos rfl] at e2
     refine WC.exit (WQ.thenExit (WQ.exitHere (TN ?_)))
     obtain ⟨n19, hxn19, e2⟩ := bnd e2
     refine RG (ST (Ex.addC rfl rfl hxn19) rfl (MV rfl rfl (NL ?_)))
     exact WQ.againP m10 [(0, _), (4, _), (13, _), (14, _), (15, _)] ⟨rfl, rfl, rfl, rfl, rfl, trivial⟩ ⟨_, _, _, _, rfl, H, hg_tabs, hp0, e2⟩ (Nat.lt_succ_self _)
    ·
     subst hk18
     rw [if_neg Bool.false_ne_true] at e2
     refine SK (TN (SQ (RG (AS rfl rfl (NL (TN (SQ (SQ (RG (MV rfl rfl (ST (Ex.lenSlS Tryz.underlying83 hp0 rfl) rfl (MV rfl rfl (NL (TN ?_))))))))))))))
     obtain ⟨o20, e21, e2⟩ := bnd e2
     refine WC.cutX (fun e w => ∃ (l23 : List (List UInt8 × Int × Bool × List UInt8)) (v24 : Value) (M : Mem), e = [(0, vp0), (4, v8), (6, ptr bk6 0), (8, v24), (13, vp0), (14, I (p0.length : Int)), (15, I n9)] ∧ St w0 M0 M [RowS 47 2 xenc47 v8 l7, RowS 85 4 xenc85 v24 l23] w ∧ Tabs M ∧ SlS M 4 xenc85 vp0 p0 ∧ PtM M bk6 (.cells #[S a13.1, I a13.2.1, Value.bool a13.2.2.1, S a13.2.2.2] 85) ∧ some l23 = some o20) [] ?_ ?_ (trivial)
     ·
      refine BL ?_
      replace H := H.newRowS 85 4 xenc85
      refine WC.loopP (fun m e w => ∃ (l26 : List (List UInt8 × Int × Bool × List UInt8)) (v27 : Value) (n28 : Int) (M : Mem), e = [(0, vp0), (4, v8), (6, ptr bk6 0), (7, (Value.func (.func 79) #[] #[ptr bk6 0])), (8, v27), (13, vp0), (14, I (p0.length : Int)), (15, I n9), (26, vp0), (27, I (p0.length : Int)), (28, I n28)] ∧ St w0 M0 M [RowS 47 2 xenc47 v8 l7, RowS 85 4 xenc85 v27 l26] w ∧ Tabs M ∧ SlS M 4 xenc85 vp0 p0 ∧ PtM M bk6 (.cells #[S a13.1, I a13.2.1, Value.bool a13.2.2.1, S a13.2.2.2] 85) ∧ media_params_L2 p0 a13 m l26 n28 = some o20) FU [(0, _), (4, _), (6, _), (7, _), (8, _), (13, _), (14, _), (15, _), (26, _), (27, _), (28, _)] ⟨rfl, rfl, rfl, rfl, rfl, rfl, rfl, rfl, rfl, rfl, rfl, trivial⟩ ⟨_, _, _, _, rfl, (H.pick (L' := [RowS 47 2 xenc47 v8 l7, RowS 85 4 xenc85 (Value.slice none 0 0) []]) (by repeat first | exact kPn | refine kPc (by repeat first | exact .head | apply Rem.tail) ?_)), hg_tabs, hp0, hb14, e21⟩ ?_
      rintro m29 e w ⟨l26, v27, n28, M, rfl, H, hg_tabs, hp0, hb14, e21⟩
      rcases m29 with _ | m29
      · rw [media_params_L2] at e21; cases e21
      rw [media_params_L2] at e21
      refine SQ (RG (ST (Ex.lss rfl rfl) rfl (NL (TN (SQ ?_)))))
      refine WC.condB rfl (fun hk31 => ?_) (fun hk31 => ?_)
      ·
       replace hk31 : n28 < (p0.length : Int) := of_decide_eq_true hk31
       rw [if_pos hk31] at e21
       refine SK (TN (SQ (BL (SQ ?_))))
       obtain ⟨a32, hxa32, e21⟩ := bnd e21
       obtain ⟨bk30, o30, ha30, hc30⟩ := hp0.atC hxa32
       refine RG (ST (Ex.idxAt ha30 Tryz.underlying83 Tryz.sizeOf85 rfl rfl) rfl (ST (Ex.loadAggM H rfl hc30 Tryz.isAgg85 Tryz.sizeOf85 (by rfl)) rfl ?_))
       refine WR.alloc [_, _, _, _] H Tryz.zeroValue85 rfl (Wn.none rfl) rfl ?_
       intro bk10 w H
       refine WR.store [_, _, _, _] H rfl rfl rfl (by repeat first | exact .head | apply Upd.tail) Tryz.sizeOf85 rfl (by rfl) (by rfl) (Wn.none rfl) ?_
       intro w H
       refine NL (TN (SQ ?_))
       obtain ⟨b33, hx34, e21⟩ := bnd e21
       refine RG (MV rfl rfl (ST (Ex.loadAgg H rfl (by repeat first | exact kMh | apply kMt) Tryz.isAgg85 Tryz.sizeOf85 (by rfl)) rfl ?_))
       refine WR.callV (vs := [Value.agg #[S a32.1, I a32.2.1, Value.bool a32.2.2.1, S a32.2.2.2]]) (cap := [ptr bk6 0]) H (media_params_1_ct hx34) rfl rfl (hb14) (Wn.none rfl) rfl ?_
       intro v34 M w H hle hR
       replace hg_tabs := hg_tabs.mono hle
       replace hp0 := hp0.mono hle
       replace hc30 := hc30.mono hle
       replace hb14 := hb14.mono hle
       obtain rfl := hR
       refine NL (TN ?_)
       refine WC.condB rfl (fun hk35 => ?_) (fun hk35 => ?_)
       ·
        subst hk35
        rw [if_pos rfl] at e21
        obtain ⟨l36, hxl36, e21⟩ := bnd e21
        refine RG (MV rfl rfl (ST (Ex.loadAgg H rfl (by repeat first | exact kMh | apply kMt) Tryz.isAgg85 Tryz.sizeOf85 (by rfl)) rfl ?_))
        refine WR.litS (enc := xenc85) xty83 ([(a32.1, a32.2.1, a32.2.2.1, a32.2.2.2)] : List (List UInt8 × Int × Bool × List UInt8)) H (fun _ => rfl) rfl (by kernel_rfl) rfl rfl rfl (Wn.none rfl) rfl ?_
        intro v37 M w H hle hs37
        replace hg_tabs := hg_tabs.mono hle
        replace hp0 := hp0.mono hle
        replace hc30 := hc30.mono hle
        replace hb14 := hb14.mono hle
        refine WR.appSC (l := l26) xty83 rfl xone85 H rfl (fun _ => by repeat first | exact .head | apply Upd.tail) rfl (hs37) hxl36 (Wn.none rfl) rfl ?_
        intro v38 w H
        refine AS rfl rfl (NL (IB (TN ?_)))
        obtain ⟨n37, hxn37, e21⟩ := bnd e21
        refine RG (ST (Ex.addC rfl rfl hxn37) rfl (MV rfl rfl (NL ?_)))
        exact WQ.againP m29 [(0, _), (4, _), (6, _), (7, _), (8, _), (13, _), (14, _), (15, _), (26, _), (27, _), (28, _)] ⟨rfl, rfl, rfl, rfl, rfl, rfl, rfl, rfl, rfl, rfl, rfl, trivial⟩ ⟨_, _, _, _, rfl, (H.pick (L' := [RowS 47 2 xenc47 v8 l7, RowS 85 4 xenc85 v38 l36]) (by repeat first | exact kPn | refine kPc (by repeat first | exact .head | apply Rem.tail) ?_)), hg_tabs, hp0, hb14, e21⟩ (Nat.lt_succ_self _)
       ·
        subst hk35
        rw [if_neg Bool.false_ne_true] at e21
        refine SK (IB (TN ?_))
        obtain ⟨n38, hxn38, e21⟩ := bnd e21
        refine RG (ST (Ex.addC rfl rfl hxn38) rfl (MV rfl rfl (NL ?_)))
        exact WQ.againP m29 [(0, _), (4, _), (6, _), (7, _), (8, _), (13, _), (14, _), (15, _), (26, _), (27, _), (28, _)] ⟨rfl, rfl, rfl, rfl, rfl, rfl, rfl, rfl, rfl, rfl, rfl, trivial⟩ ⟨_, _, _, _, rfl, (H.pick (L' := [RowS 47 2 xenc47 v8 l7, RowS 85 4 xenc85 v27 l26]) (by repeat first | exact kPn | refine kPc (by repeat first | exact .head | apply Rem.tail) ?_)), hg_tabs, hp0, hb14, e21⟩ (Nat.lt_succ_self _)
      ·
       replace hk31 : ¬ (n28 < (p0.length : Int)) := of_decide_eq_false hk31
       rw [if_neg hk31] at e21
       refine WC.exit (WQ.thenExit (WQ.thenExit (WQ.exitHere ?_)))
       exact WQ.meetN [(0, _), (4, _), (6, _), (8, _), (13, _), (14, _), (15, _)] ⟨rfl, rfl, rfl, rfl, rfl, rfl, rfl, trivial⟩ ⟨_, _, _, rfl, H, hg_tabs, hp0, hb14, e21⟩
     ·
      rintro e w ⟨l23, v24, M, rfl, H, hg_tabs, hp0, hb14, q39⟩
      obtain rfl := oI q39
      refine TN (SQ ?_)
      obtain ⟨⟨⟨s40, s41⟩, b42⟩, hx43, e2⟩ := bnd e2
      try dsimp only at e2
      refine RG (MV rfl rfl ?_)
      refine WR.callX (A := [RowS 85 4 xenc85 v24 l23]) (B := [RowS 47 2 xenc47 v8 l7]) (H.pick (L' := [RowS 85 4 xenc85 v24 l23, RowS 47 2 xenc47 v8 l7]) (by repeat first | exact kPn | refine kPc (by repeat first | exact .head | apply Rem.tail) ?_)) (media_joined_ct hx43) (.left (Spl.all _)) rfl (hg_tabs) (Wn.none rfl) rfl ?_
      intro v42 M w its H hle hR
      replace hg_tabs := hg_tabs.mono hle
      replace hp0 := hp0.mono hle
      replace hb14 := hb14.mono hle
      try dsimp only at hR
      obtain ⟨rfl, rfl⟩ := hR
      simp only [List.cons_append, List.nil_append] at H
      refine MV rfl rfl (ST (Ex.extract rfl rfl) rfl (ST (Ex.extract rfl rfl) rfl (WR.alloc [_, _] H Tryz.zeroValue47 rfl (Wn.none rfl) rfl ?_)))
      intro bk11 w H
      refine WR.store [_, _] H rfl rfl rfl (by repeat first | exact .head | apply Upd.tail) Tryz.sizeOf47 rfl (by rfl) (by rfl) (Wn.none rfl) ?_
      intro w H
      refine AS rfl rfl (NL (TN (SQ (SQ (RG (MV rfl rfl (ST (Ex.not rfl) rfl (NL (TN ?_)))))))))
      refine WC.condB rfl (fun hk44 => ?_) (fun hk44 => ?_)
      ·
       replace hk44 : b42 = false := by simpa using hk44
       subst hk44
       rw [if_neg Bool.false_ne_true] at e2
       refine SQ (RG (AS rfl rfl (AS rfl rfl (NL (TN (RT ?_))))))
       obtain rfl := oI e2
       try dsimp only at h
       obtain rfl := oI h
       exact WQ.ret2 rfl rfl rfl H.ext (⟨_, rfl, (SlS.nil _ _ (fun _ => rfl))⟩)
      ·
       replace hk44 : b42 = true := by simpa using hk44
       subst hk44
       rw [if_pos rfl] at e2
       refine SK (TN (SQ (RG (ST (Ex.fieldAddr Tryz.underlying85 rfl Tryz.sizeOf9 (by decide) rfl) rfl (ST (Ex.loadM H rfl (hb14.cell (j := 0) rfl) Tryz.isAgg9) rfl (ST (Ex.fieldAddr Tryz.underlying47 rfl Tryz.sizeOf9 (by decide) rfl) rfl (WR.store1 [_, _] H rfl rfl (by repeat first | exact .head | apply Upd.tail) (by rfl) Tryz.sizeOf9 (by first | decide | (simp; done) | (simp; omega)) (by rfl) (by rfl) (Wn.none rfl) ?_)))))))
       intro w H
       refine NL (TN ?_)
       obtain ⟨l45, hxl45, e2⟩ := bnd e2
       refine RG (MV rfl rfl (ST (Ex.loadAgg H rfl (by repeat first | exact kMh | apply kMt) Tryz.isAgg47 Tryz.sizeOf47 (by rfl)) rfl ?_))
       refine WR.litS (enc := xenc47) xty22 ([(a13.1, s41)] : List (List UInt8 × List UInt8)) H (fun _ => rfl) rfl (by kernel_rfl) rfl rfl rfl (Wn.none rfl) rfl ?_
       intro v52 M w H hle hs52
       replace hg_tabs := hg_tabs.mono hle
       replace hp0 := hp0.mono hle
       replace hb14 := hb14.mono hle
       refine WR.appSC (l := l7) xty22 rfl xone47 H rfl (fun _ => by repeat first | exact .head | apply Upd.tail) rfl (hs52) hxl45 (Wn.none rfl) rfl ?_
       intro v53 w H
       refine AS rfl rfl (NL (IB (TN ?_)))
       obtain ⟨n46, hxn46, e2⟩ := bnd e2
       refine RG (ST (Ex.addC rfl rfl hxn46) rfl (MV rfl rfl (NL ?_)))
       exact WQ.againP m10 [(0, _), (4, _), (13, _), (14, _), (15, _)] ⟨rfl, rfl, rfl, rfl, rfl, trivial⟩ ⟨_, _, _, _, rfl, (H.pick (L' := [RowS 47 2 xenc47 v53 l45]) (by repeat first | exact kPn | refine kPc (by repeat first | exact .head | apply Rem.tail) ?_)), hg_tabs, hp0, e2⟩ (Nat.lt_succ_self _)
   ·
    replace hk12 : ¬ (n9 < (p0.length : Int)) := of_decide_eq_false hk12
    rw [if_neg hk12] at e2
    refine WC.exit (WQ.thenExit (WQ.thenExit (WQ.exitHere ?_)))
    exact WQ.meetN [(4, _)] ⟨rfl, trivial⟩ ⟨_, _, _, rfl, H, hg_tabs, e2⟩
  ·
   rintro e w ⟨l4, v5, M, rfl, H, hg_tabs, q47⟩
   obtain rfl := oI q47
   try dsimp only at h
   refine TN (SQ (RG (MV rfl rfl (AS rfl rfl (AS rfl rfl (NL (TN (RT ?_))))))))
   obtain ⟨M, hle, hs48, H⟩ := H.freezeRowS (v := v5) (enc := xenc47) (t := 47) (by repeat first | exact .head | apply Rem.tail) (fun _ => rfl)
   replace hg_tabs := hg_tabs.mono hle
   obtain rfl := oI h
   exact WQ.ret2 rfl rfl rfl H.ext (⟨_, rfl, hs48⟩)
theorem media_parse_ct {p0 : List UInt8} {r : ((List UInt8 × List UInt8 × List (List UInt8 × List UInt8)) × Bool)} (h : media_parse p0 = some r) : Ct Tryz.prog 34 [S p0] (fun M => GlF (fun w => ∃ tp p, w.var? Tryz.prog "strconv.ErrRange" = some #[.iface tp p]) M ∧ GlF (fun w => ∃ tp p, w.var? Tryz.prog "strconv.ErrSyntax" = some #[.iface tp p]) M ∧ GlF (fun w => ∃ m, w.cell? ⟨2, 0, none⟩ = some (.int .i64 m)) M ∧ GlF (fun w => Lib.TabIs Tryz.prog w "internal/strconv.uint64pow10" .u64 Lib.pow10Tab) M ∧ Tabs M) (fun v M => ∃ x0_2, v = Value.tuple #[Value.agg #[S r.1.1, S r.1.2.1, x0_2], Value.bool r.2] ∧ SlS M 2 xenc47 x0_2 r.1.2.2) := by
  refine Ct.of Tryz.func34 (enters Tryz.func34 (by kernel_rfl) rfl) rfl rfl rfl ?_
  intro w0 M0 H hp
  obtain ⟨hg_errR, hg_errS, hg_maxl, hg_pow10, hg_tabs⟩ := hp
  unfold media_parse at h
  refine SQ (RG (WR.alloc [_, _, _] H Tryz.zeroValue24 rfl (Wn.none rfl) rfl ?_))
  intro bk2 w H
  refine AS rfl rfl (NL (TN (SQ (RG (MV rfl rfl (ST (Ex.build [S p0] Tryz.underlying81 Tryz.zeroValue81 (xplaces81 Tryz.underlying81) rfl rfl) rfl (WR.box [_] H rfl rfl (Wn.none rfl) rfl ?_)))))))
  intro bk13 w H
  refine AS rfl rfl (NL (TN (SQ (RG (WR.alloc [_, _, _] H Tryz.zeroValue24 rfl (Wn.none rfl) rfl ?_)))))
  intro bk5 w H
  refine NL (TN (SQ ?_))
  obtain ⟨⟨s1, o2⟩, hx3, h⟩ := bnd h
  try dsimp only at h
  refine RG (MV rfl rfl ?_)
  refine WR.callX (A := [.blk bk13 (.cells #[S p0] 81)]) (B := [.blk bk5 (.cells #[S [], S [], Value.slice none 0 0] 24), .blk bk2 (.cells #[S [], S [], Value.slice none 0 0] 24)]) (H.pick (L' := [.blk bk13 (.cells #[S p0] 81), .blk bk5 (.cells #[S [], S [], Value.slice none 0 0] 24), .blk bk2 (.cells #[S [], S [], Value.slice none 0 0] 24)]) (by repeat first | exact kPn | refine kPc (by repeat first | exact .head | apply Rem.tail) ?_)) (media_reader_take_ct hx3) (.left (Spl.all _)) rfl ((fun _ _ h => FnV.of (media_tokenByte_ct h) (fun _ _ => trivial))) (Wn.none rfl) rfl ?_
  intro v15 M w its H hle hR
  replace hg_errR := hg_errR.mono hle
  replace hg_errS := hg_errS.mono hle
  replace hg_maxl := hg_maxl.mono hle
  replace hg_pow10 := hg_pow10.mono hle
  replace hg_tabs := hg_tabs.mono hle
  try dsimp only at hR
  obtain ⟨rfl, rfl⟩ := hR
  simp only [List.cons_append, List.nil_append] at H
  refine ST (Ex.fieldAddr Tryz.underlying24 rfl Tryz.sizeOf9 (by decide) rfl) rfl (WR.store1 [_, _, _] H rfl rfl (by repeat first | exact .head | apply Upd.tail) (by rfl) Tryz.sizeOf9 (by first | decide | (simp; done) | (simp; omega)) (by rfl) (by rfl) (Wn.none rfl) ?_)
  intro w H
  refine NL (TN (SQ ?_))
  obtain ⟨⟨b4, o5⟩, hx6, h⟩ := bnd h
  try dsimp only at h
  refine RG (MV rfl rfl ?_)
  refine WR.callX (A := [.blk bk13 (.cells #[S o2] 81)]) (B := [.blk bk5 (.cells #[S s1, S [], Value.slice none 0 0] 24), .blk bk2 (.cells #[S [], S [], Value.slice none 0 0] 24)]) (H.pick (L' := [.blk bk13 (.cells #[S o2] 81), .blk bk5 (.cells #[S s1, S [], Value.slice none 0 0] 24), .blk bk2 (.cells #[S [], S [], Value.slice none 0 0] 24)]) (by repeat first | exact kPn | refine kPc (by repeat first | exact .head | apply Rem.tail) ?_)) (media_reader_sign_ct hx6) (.left (Spl.all _)) rfl trivial (Wn.none rfl) rfl ?_
  intro v18 M w its H hle hR
  replace hg_errR := hg_errR.mono hle
  replace hg_errS := hg_errS.mono hle
  replace hg_maxl := hg_maxl.mono hle
  replace hg_pow10 := hg_pow10.mono hle
  replace hg_tabs := hg_tabs.mono hle
  try dsimp only at hR
  obtain ⟨rfl, rfl⟩ := hR
  simp only [List.cons_append, List.nil_append] at H
  refine AS rfl rfl (NL (TN (SQ ?_)))
  obtain ⟨⟨s7, o8⟩, hx9, h⟩ := bnd h
  try dsimp only at h
  refine RG (MV rfl rfl ?_)
  refine WR.callX (A := [.blk bk13 (.cells #[S o5] 81)]) (B := [.blk bk5 (.cells #[S s1, S [], Value.slice none 0 0] 24), .blk bk2 (.cells #[S [], S [], Value.slice none 0 0] 24)]) (H.pick (L' := [.blk bk13 (.cells #[S o5] 81), .blk bk5 (.cells #[S s1, S [], Value.slice none 0 0] 24), .blk bk2 (.cells #[S [], S [], Value.slice none 0 0] 24)]) (by repeat first | exact kPn | refine kPc (by repeat first | exact .head | apply Rem.tail) ?_)) (media_reader_take_ct hx9) (.left (Spl.all _)) rfl ((fun _ _ h => FnV.of (media_tokenByte_ct h) (fun _ _ => trivial))) (Wn.none rfl) rfl ?_
  intro v20 M w its H hle hR
  replace hg_errR := hg_errR.mono hle
  replace hg_errS := hg_errS.mono hle
  replace hg_maxl := hg_maxl.mono hle
  replace hg_pow10 := hg_pow10.mono hle
  replace hg_tabs := hg_tabs.mono hle
  try dsimp only at hR
  obtain ⟨rfl, rfl⟩ := hR
  simp only [List.cons_append, List.nil_append] at H
  refine ST (Ex.fieldAddr Tryz.underlying24 rfl Tryz.sizeOf9 (by decide) rfl) rfl (WR.store1 [_, _, _] H rfl rfl (by repeat first | exact .head | apply Upd.tail) (by rfl) Tryz.sizeOf9 (by first | decide | (simp; done) | (simp; omega)) (by rfl) (by rfl) (Wn.none rfl) ?_)
  intro w H
  refine NL (TN (SQ (SQ ?_)))
  obtain ⟨o10, e11, h⟩ := bnd h
  refine WC.cutX (fun e w => ∃ (b12 : Bool) (M : Mem), e = [(2, ptr bk2 0), (4, ptr bk13 0), (5, ptr bk5 0), (33, Value.bool b12)] ∧ St w0 M0 M [.blk bk2 (.cells #[S [], S [], Value.slice none 0 0] 24), .blk bk13 (.cells #[S o8] 81), .blk bk5 (.cells #[S s1, S s7, Value.slice none 0 0] 24)] w ∧ GlF (fun w => ∃ tp p, w.var? Tryz.prog "strconv.ErrRange" = some #[.iface tp p]) M ∧ GlF (fun w => ∃ tp p, w.var? Tryz.prog "strconv.ErrSyntax" = some #[.iface tp p]) M ∧ GlF (fun w => ∃ m, w.cell? ⟨2, 0, none⟩ = some (.int .i64 m)) M ∧ GlF (fun w => Lib.TabIs Tryz.prog w "internal/strconv.uint64pow10" .u64 Lib.pow10Tab) M ∧ Tabs M ∧ some b12 = some o10) [] ?_ ?_ (trivial)
  ·
   refine RG (ST (Ex.fieldAddr Tryz.underlying24 rfl Tryz.sizeOf9 (by decide) rfl) rfl (ST (Ex.load1 H rfl (by repeat first | exact kMh | apply kMt) Tryz.isAgg9 (by rfl)) rfl ?_))
   by_cases hk13 : s1 = []
   ·
    rw [if_pos hk13] at e11
    refine WR.stepE (v' := .bool true) (Ex.strEql rfl rfl) (congrArg Value.bool (decide_eq_true hk13)) (Wn.none rfl) rfl rfl (MV rfl rfl (GT rfl rfl rfl (GT rfl rfl rfl (PT rfl rfl rfl (MV rfl rfl (WR.skipN 3 rfl rfl (PT rfl rfl rfl (NL ?_))))))))
    exact WQ.meetN [(2, _), (4, _), (5, _), (33, _)] ⟨rfl, rfl, rfl, rfl, trivial⟩ ⟨_, _, rfl, (H.pick (L' := [.blk bk2 (.cells #[S [], S [], Value.slice none 0 0] 24), .blk bk13 (.cells #[S o8] 81), .blk bk5 (.cells #[S s1, S s7, Value.slice none 0 0] 24)]) (by repeat first | exact kPn | refine kPc (by repeat first | exact .head | apply Rem.tail) ?_)), hg_errR, hg_errS, hg_maxl, hg_pow10, hg_tabs, e11⟩
   ·
    rw [if_neg hk13] at e11
    rcases b4 with _ | _
    ·
     rw [if_neg Bool.false_ne_true] at e11
     refine WR.stepE (v' := .bool false) (Ex.strEql rfl rfl) (congrArg Value.bool (decide_eq_false hk13)) (Wn.none rfl) rfl rfl (MV rfl rfl (SG (Ex.move rfl) rfl rfl rfl (SG (Ex.not rfl) rfl rfl rfl (PF rfl rfl rfl (MV rfl rfl (WR.skipN 3 rfl rfl (PT rfl rfl rfl (NL ?_))))))))
     exact WQ.meetN [(2, _), (4, _), (5, _), (33, _)] ⟨rfl, rfl, rfl, rfl, trivial⟩ ⟨_, _, rfl, (H.pick (L' := [.blk bk2 (.cells #[S [], S [], Value.slice none 0 0] 24), .blk bk13 (.cells #[S o8] 81), .blk bk5 (.cells #[S s1, S s7, Value.slice none 0 0] 24)]) (by repeat first | exact kPn | refine kPc (by repeat first | exact .head | apply Rem.tail) ?_)), hg_errR, hg_errS, hg_maxl, hg_pow10, hg_tabs, e11⟩
    ·
     rw [if_pos rfl] at e11
     refine WR.stepE (v' := .bool false) (Ex.strEql rfl rfl) (congrArg Value.bool (decide_eq_false hk13)) (Wn.none rfl) rfl rfl (MV rfl rfl (SG (Ex.move rfl) rfl rfl rfl (SG (Ex.not rfl) rfl rfl rfl (PF rfl rfl rfl (MV rfl rfl (SG (Ex.fieldAddr Tryz.underlying24 rfl Tryz.sizeOf9 (by decide) rfl) rfl rfl rfl (SG (Ex.load1 H rfl (by repeat first | exact kMh | apply kMt) Tryz.isAgg9 (by rfl)) rfl rfl rfl ?_)))))))
     refine SG (Ex.strEql rfl rfl) rfl rfl rfl (PF rfl rfl rfl (NL ?_))
     exact WQ.meetN [(2, _), (4, _), (5, _), (33, _)] ⟨rfl, rfl, rfl, rfl, trivial⟩ ⟨_, _, rfl, (H.pick (L' := [.blk bk2 (.cells #[S [], S [], Value.slice none 0 0] 24), .blk bk13 (.cells #[S o8] 81), .blk bk5 (.cells #[S s1, S s7, Value.slice none 0 0] 24)]) (by repeat first | exact kPn | refine kPc (by repeat first | exact .head | apply Rem.tail) ?_)), hg_errR, hg_errS, hg_maxl, hg_pow10, hg_tabs, e11⟩
  ·
   rintro e w ⟨b12, M, rfl, H, hg_errR, hg_errS, hg_maxl, hg_pow10, hg_tabs, q14⟩
   obtain rfl := oI q14
   refine TN ?_
   refine WC.condB rfl (fun hk15 => ?_) (fun hk15 => ?_)
   ·
    subst hk15
    rw [if_pos rfl] at h
    refine SQ (RG (ST (Ex.loadAgg H rfl (by repeat first | exact kMh | apply kMt) Tryz.isAgg24 Tryz.sizeOf24 (by rfl)) rfl ?_))
    refine WR.store [_, _, _] H rfl rfl rfl (by repeat first | exact .head | apply Upd.tail) Tryz.sizeOf24 rfl (by rfl) (by rfl) (Wn.none rfl) ?_
    intro w H
    refine AS rfl rfl (NL (TN (RT ?_)))
    obtain rfl := oI h
    exact WQ.ret2 rfl ⟨_, rfl, H.loadAgg (by repeat first | exact kMh | apply kMt) Tryz.isAgg24 Tryz.sizeOf24 (by rfl)⟩ rfl H.ext (⟨_, rfl, (SlS.nil _ _ (fun _ => rfl))⟩)
   ·
    subst hk15
    rw [if_neg Bool.false_ne_true] at h
    refine SK (TN (SQ (RG (AS rfl rfl (NL (TN (SQ ?_)))))))
    obtain ⟨o16, e17, h⟩ := bnd h
    refine WC.cutX (fun e w => ∃ (s18 : List UInt8) (s19 : List UInt8) (l20 : List (List UInt8 × List UInt8)) (v21 : Value) (s23 : List UInt8) (l25 : List (List UInt8 × Int × Bool × List UInt8)) (v26 : Value) (M : Mem), e = [(2, ptr bk2 0), (4, ptr bk13 0), (5, ptr bk5 0), (7, v26)] ∧ St w0 M0 M [.blk bk2 (.cells #[S s18, S s19, v21] 24), .blk bk13 (.cells #[S s23] 81), .blk bk5 (.cells #[S s1, S s7, Value.slice none 0 0] 24), RowS 85 4 xenc85 v26 l25] w ∧ GlF (fun w => ∃ tp p, w.var? Tryz.prog "strconv.ErrRange" = some #[.iface tp p]) M ∧ GlF (fun w => ∃ tp p, w.var? Tryz.prog "strconv.ErrSyntax" = some #[.iface tp p]) M ∧ GlF (fun w => ∃ m, w.cell? ⟨2, 0, none⟩ = some (.int .i64 m)) M ∧ GlF (fun w => Lib.TabIs Tryz.prog w "internal/strconv.uint64pow10" .u64 Lib.pow10Tab) M ∧ Tabs M ∧ SlS M 2 xenc47 v21 l20 ∧ some (.inl (s18, s19, l20, s23, l25)) = some o16) [] ?_ ?_ (trivial)
    ·
     refine BL ?_
     replace H := H.newRowS 85 4 xenc85
     refine WC.loopP (fun m e w => ∃ (s27 : List UInt8) (s28 : List UInt8) (l29 : List (List UInt8 × List UInt8)) (v30 : Value) (s32 : List UInt8) (l34 : List (List UInt8 × Int × Bool × List UInt8)) (v35 : Value) (M : Mem), e = [(2, ptr bk2 0), (4, ptr bk13 0), (5, ptr bk5 0), (7, v35)] ∧ St w0 M0 M [.blk bk2 (.cells #[S s27, S s28, v30] 24), .blk bk13 (.cells #[S s32] 81), .blk bk5 (.cells #[S s1, S s7, Value.slice none 0 0] 24), RowS 85 4 xenc85 v35 l34] w ∧ GlF (fun w => ∃ tp p, w.var? Tryz.prog "strconv.ErrRange" = some #[.iface tp p]) M ∧ GlF (fun w => ∃ tp p, w.var? Tryz.prog "strconv.ErrSyntax" = some #[.iface tp p]) M ∧ GlF (fun w => ∃ m, w.cell? ⟨2, 0, none⟩ = some (.int .i64 m)) M ∧ GlF (fun w => Lib.TabIs Tryz.prog w "internal/strconv.uint64pow10" .u64 Lib.pow10Tab) M ∧ Tabs M ∧ SlS M 2 xenc47 v30 l29 ∧ media_parse_L1 s1 s7 m s27 s28 l29 s32 l34 = some o16) FU [(2, _), (4, _), (5, _), (7, _)] ⟨rfl, rfl, rfl, rfl, trivial⟩ ⟨_, _, _, _, _, _, _, _, rfl, (H.pick (L' := [.blk bk2 (.cells #[S [], S [], Value.slice none 0 0] 24), .blk bk13 (.cells #[S o8] 81), .blk bk5 (.cells #[S s1, S s7, Value.slice none 0 0] 24), RowS 85 4 xenc85 (Value.slice none 0 0) []]) (by repeat first | exact kPn | refine kPc (by repeat first | exact .head | apply Rem.tail) ?_)), hg_errR, hg_errS, hg_maxl, hg_pow10, hg_tabs, (SlS.nil _ _ (fun _ => rfl)), e17⟩ ?_
     rintro m36 e w ⟨s27, s28, l29, v30, s32, l34, v35, M, rfl, H, hg_errR, hg_errS, hg_maxl, hg_pow10, hg_tabs, hs31, e17⟩
     rcases m36 with _ | m36
     · rw [media_parse_L1] at e17; cases e17
     rw [media_parse_L1] at e17
     refine SQ (SQ ?_)
     obtain ⟨⟨b38, o39⟩, hx40, e17⟩ := bnd e17
     try dsimp only at e17
     refine RG (MV rfl rfl ?_)
     refine WR.callX (A := [.blk bk13 (.cells #[S s32] 81)]) (B := [.blk bk2 (.cells #[S s27, S s28, v30] 24), .blk bk5 (.cells #[S s1, S s7, Value.slice none 0 0] 24), RowS 85 4 xenc85 v35 l34]) (H.pick (L' := [.blk bk13 (.cells #[S s32] 81), .blk bk2 (.cells #[S s27, S s28, v30] 24), .blk bk5 (.cells #[S s1, S s7, Value.slice none 0 0] 24), RowS 85 4 xenc85 v35 l34]) (by repeat first | exact kPn | refine kPc (by repeat first | exact .head | apply Rem.tail) ?_)) (media_reader_sign_ct hx40) (.left (Spl.all _)) rfl trivial (Wn.none rfl) rfl ?_
     intro v36 M w its H hle hR
     replace hg_errR := hg_errR.mono hle
     replace hg_errS := hg_errS.mono hle
     replace hg_maxl := hg_maxl.mono hle
     replace hg_pow10 := hg_pow10.mono hle
     replace hg_tabs := hg_tabs.mono hle
     replace hs31 := hs31.mono hle
     try dsimp only at hR
     obtain ⟨rfl, rfl⟩ := hR
     simp only [List.cons_append, List.nil_append] at H
     refine NL (TN ?_)
     refine WC.condB rfl (fun hk41 => ?_) (fun hk41 => ?_)
     ·
      subst hk41
      rw [if_pos rfl] at e17
      refine SK (TN (BL (SQ ?_)))
      obtain ⟨⟨⟨s42, n43, b44, s45⟩, b46, o47⟩, hx48, e17⟩ := bnd e17
      try dsimp only at e17
      refine RG (MV rfl rfl ?_)
      refine WR.callX (A := [.blk bk13 (.cells #[S o39] 81)]) (B := [.blk bk2 (.cells #[S s27, S s28, v30] 24), .blk bk5 (.cells #[S s1, S s7, Value.slice none 0 0] 24), RowS 85 4 xenc85 v35 l34]) (H.pick (L' := [.blk bk13 (.cells #[S o39] 81), .blk bk2 (.cells #[S s27, S s28, v30] 24), .blk bk5 (.cells #[S s1, S s7, Value.slice none 0 0] 24), RowS 85 4 xenc85 v35 l34]) (by repeat first | exact kPn | refine kPc (by repeat first | exact .head | apply Rem.tail) ?_)) (media_reader_read_ct hx48) (.left (Spl.all _)) rfl ⟨hg_errR, hg_errS, hg_maxl, hg_pow10⟩ (Wn.none rfl) rfl ?_
      intro v39 M w its H hle hR
      replace hg_errR := hg_errR.mono hle
      replace hg_errS := hg_errS.mono hle
      replace hg_maxl := hg_maxl.mono hle
      replace hg_pow10 := hg_pow10.mono hle
      replace hg_tabs := hg_tabs.mono hle
      replace hs31 := hs31.mono hle
      try dsimp only at hR
      obtain ⟨rfl, rfl⟩ := hR
      simp only [List.cons_append, List.nil_append] at H
      refine MV rfl rfl (ST (Ex.extract rfl rfl) rfl (ST (Ex.extract rfl rfl) rfl (WR.alloc [_, _, _, _] H Tryz.zeroValue85 rfl (Wn.none rfl) rfl ?_)))
      intro bk8 w H
      refine WR.store [_, _, _, _] H rfl rfl rfl (by repeat first | exact .head | apply Upd.tail) Tryz.sizeOf85 rfl (by rfl) (by rfl) (Wn.none rfl) ?_
      intro w H
      refine AS rfl rfl (NL (TN (SQ (SQ (RG (MV rfl rfl (ST (Ex.not rfl) rfl (NL (TN ?_)))))))))
      refine WC.condB rfl (fun hk49 => ?_) (fun hk49 => ?_)
      ·
       replace hk49 : b46 = false := by simpa using hk49
       subst hk49
       rw [if_neg Bool.false_ne_true] at e17
       refine SQ (RG (ST (Ex.loadAgg H rfl (by repeat first | exact kMh | apply kMt) Tryz.isAgg24 Tryz.sizeOf24 (by rfl)) rfl ?_))
       refine WR.store [_, _, _] H rfl rfl rfl (by repeat first | exact .head | apply Upd.tail) Tryz.sizeOf24 rfl (by rfl) (by rfl) (Wn.none rfl) ?_
       intro w H
       refine AS rfl rfl (NL (TN (RT ?_)))
       obtain rfl := oI e17
       try dsimp only at h
       obtain rfl := oI h
       exact WQ.ret2 rfl ⟨_, rfl, H.loadAgg (by repeat first | exact kMh | apply kMt) Tryz.isAgg24 Tryz.sizeOf24 (by rfl)⟩ rfl H.ext (⟨_, rfl, (SlS.nil _ _ (fun _ => rfl))⟩)
      ·
       replace hk49 : b46 = true := by simpa using hk49
       subst hk49
       rw [if_pos rfl] at e17
       refine SK (TN ?_)
       obtain ⟨l50, hxl50, e17⟩ := bnd e17
       refine RG (MV rfl rfl (ST (Ex.loadAgg H rfl (by repeat first | exact kMh | apply kMt) Tryz.isAgg85 Tryz.sizeOf85 (by rfl)) rfl ?_))
       refine WR.litS (enc := xenc85) xty83 ([(s42, n43, b44, s45)] : List (List UInt8 × Int × Bool × List UInt8)) H (fun _ => rfl) rfl (by kernel_rfl) rfl rfl rfl (Wn.none rfl) rfl ?_
       intro v47 M w H hle hs47
       replace hg_errR := hg_errR.mono hle
       replace hg_errS := hg_errS.mono hle
       replace hg_maxl := hg_maxl.mono hle
       replace hg_pow10 := hg_pow10.mono hle
       replace hg_tabs := hg_tabs.mono hle
       replace hs31 := hs31.mono hle
       refine WR.appSC (l := l34) xty83 rfl xone85 H rfl (fun _ => by repeat first | exact .head | apply Upd.tail) rfl (hs47) hxl50 (Wn.none rfl) rfl ?_
       intro v48 w H
       refine AS rfl rfl (NL (IB ?_))
       exact WQ.againP m36 [(2, _), (4, _), (5, _), (7, _)] ⟨rfl, rfl, rfl, rfl, trivial⟩ ⟨_, _, _, _, _, _, _, _, rfl, (H.pick (L' := [.blk bk2 (.cells #[S s27, S s28, v30] 24), .blk bk13 (.cells #[S o47] 81), .blk bk5 (.cells #[S s1, S s7, Value.slice none 0 0] 24), RowS 85 4 xenc85 v48 l50]) (by repeat first | exact kPn | refine kPc (by repeat first | exact .head | apply Rem.tail) ?_)), hg_errR, hg_errS, hg_maxl, hg_pow10, hg_tabs, hs31, e17⟩ (Nat.lt_succ_self _)
     ·
      subst hk41
      rw [if_neg Bool.false_ne_true] at e17
      refine WC.exit (WQ.thenExit (WQ.thenExit (WQ.exitHere ?_)))
      exact WQ.meetN [(2, _), (4, _), (5, _), (7, _)] ⟨rfl, rfl, rfl, rfl, trivial⟩ ⟨_, _, _, _, _, _, _, _, rfl, (H.pick (L' := [.blk bk2 (.cells #[S s27, S s28, v30] 24), .blk bk13 (.cells #[S o39] 81), .blk bk5 (.cells #[S s1, S s7, Value.slice none 0 0] 24), RowS 85 4 xenc85 v35 l34]) (by repeat first | exact kPn | refine kPc (by repeat first | exact .head | apply Rem.tail) ?_)), hg_errR, hg_errS, hg_maxl, hg_pow10, hg_tabs, hs31, e17⟩
    ·
     rintro e w ⟨s18, s19, l20, v21, s23, l25, v26, M, rfl, H, hg_errR, hg_errS, hg_maxl, hg_pow10, hg_tabs, hs22, q51⟩
     obtain rfl := oI q51
     try dsimp only at h
     refine TN (SQ ?_)
     obtain ⟨o52, hx53, h⟩ := bnd h
     refine RG (MV rfl rfl ?_)
     refine WR.callX (A := [.blk bk13 (.cells #[S s23] 81)]) (B := [.blk bk2 (.cells #[S s18, S s19, v21] 24), .blk bk5 (.cells #[S s1, S s7, Value.slice none 0 0] 24), RowS 85 4 xenc85 v26 l25]) (H.pick (L' := [.blk bk13 (.cells #[S s23] 81), .blk bk2 (.cells #[S s18, S s19, v21] 24), .blk bk5 (.cells #[S s1, S s7, Value.slice none 0 0] 24), RowS 85 4 xenc85 v26 l25]) (by repeat first | exact kPn | refine kPc (by repeat first | exact .head | apply Rem.tail) ?_)) (media_reader_blanks_ct hx53) (.left (Spl.all _)) rfl trivial (Wn.none rfl) rfl ?_
     intro v50 M w its H hle hR
     replace hg_errR := hg_errR.mono hle
     replace hg_errS := hg_errS.mono hle
     replace hg_maxl := hg_maxl.mono hle
     replace hg_pow10 := hg_pow10.mono hle
     replace hg_tabs := hg_tabs.mono hle
     replace hs22 := hs22.mono hle
     obtain ⟨rfl, rfl⟩ := hR
     simp only [List.cons_append, List.nil_append] at H
     refine NL (TN (SQ (RG (AS rfl rfl (NL (TN (SQ ?_)))))))
     obtain ⟨⟨l55, b56⟩, hx57, h⟩ := bnd h
     try dsimp only at h
     refine RG (MV rfl rfl ?_)
     obtain ⟨M, hle, hs54, H⟩ := H.freezeRowS (v := v26) (enc := xenc85) (t := 85) (by repeat first | exact .head | apply Rem.tail) (fun _ => rfl)
     replace hg_errR := hg_errR.mono hle
     replace hg_errS := hg_errS.mono hle
     replace hg_maxl := hg_maxl.mono hle
     replace hg_pow10 := hg_pow10.mono hle
     replace hg_tabs := hg_tabs.mono hle
     replace hs22 := hs22.mono hle
     refine WR.call H (media_params_ct hx57) rfl ⟨hg_tabs, hs54⟩ (Wn.none rfl) rfl ?_
     intro v53 M w H hle hR
     replace hg_errR := hg_errR.mono hle
     replace hg_errS := hg_errS.mono hle
     replace hg_maxl := hg_maxl.mono hle
     replace hg_pow10 := hg_pow10.mono hle
     replace hg_tabs := hg_tabs.mono hle
     replace hs22 := hs22.mono hle
     replace hs54 := hs54.mono hle
     try dsimp only at hR
     obtain ⟨x53_0, rfl, f53_0⟩ := hR
     refine MV rfl rfl (ST (Ex.extract rfl rfl) rfl (ST (Ex.extract rfl rfl) rfl (ST (Ex.fieldAddr Tryz.underlying24 rfl Tryz.sizeOf22 (by decide) rfl) rfl (WR.putV [_, _, _] H rfl rfl (f53_0.one) (by repeat first | exact .head | apply Upd.tail) (by rfl) Tryz.sizeOf22 (by first | decide | (simp; done) | (simp; omega)) (Wn.none rfl) ?_))))
     intro w H
     refine AS rfl rfl (NL (TN (SQ ?_)))
     obtain ⟨o58, e59, h⟩ := bnd h
     refine WC.cutX (fun e w => ∃ (s60 : List UInt8) (s61 : List UInt8) (l62 : List (List UInt8 × List UInt8)) (v63 : Value) (b65 : Bool) (M : Mem), e = [(2, ptr bk2 0), (3, Value.bool b65)] ∧ St w0 M0 M [.blk bk2 (.cells #[S s60, S s61, v63] 24)] w ∧ GlF (fun w => ∃ tp p, w.var? Tryz.prog "strconv.ErrRange" = some #[.iface tp p]) M ∧ GlF (fun w => ∃ tp p, w.var? Tryz.prog "strconv.ErrSyntax" = some #[.iface tp p]) M ∧ GlF (fun w => ∃ m, w.cell? ⟨2, 0, none⟩ = some (.int .i64 m)) M ∧ GlF (fun w => Lib.TabIs Tryz.prog w "internal/strconv.uint64pow10" .u64 Lib.pow10Tab) M ∧ Tabs M ∧ SlS M 2 xenc47 v63 l62 ∧ some (s60, s61, l62, b65) = some o58) [] ?_ ?_ (trivial)
     ·
      refine WC.draw (m := 11) rfl rfl H ?_
      intro w H
      refine WA.take (i := 1) rfl (by kernel_rfl) (by kernel_rfl) (by kernel_rfl) (fun _ => Ex.move rfl) (Wn.none rfl) rfl rfl (fun _ _ => rfl) (WA.take (i := 2) rfl (by kernel_rfl) (by kernel_rfl) (by kernel_rfl) (fun _ => Ex.move rfl) (Wn.none rfl) rfl rfl (fun _ _ => rfl) ?_)
      rcases b56 with _ | _
      ·
       rw [if_neg Bool.false_ne_true] at e59
       refine WA.takes (fuel := 4) [3, 4, 5, 6, 7] rfl (by kernel_rfl) (by kernel_rfl) rfl (WA.take (i := 8) rfl (by kernel_rfl) (by kernel_rfl) (by kernel_rfl) (fun _ => Ex.pickF rfl rfl) (Wn.none rfl) rfl rfl (fun _ _ => rfl) (WA.seq (fuel := 0) [0, 9, 10] rfl (by kernel_rfl) (ST (Ex.loadAgg H rfl (by repeat first | exact kMh | apply kMt) Tryz.isAgg24 Tryz.sizeOf24 (by rfl)) rfl ?_)))
       refine WR.store [_, _, _] H rfl rfl rfl (by repeat first | exact .head | apply Upd.tail) Tryz.sizeOf24 rfl (by rfl) (by simp only [List.all_cons, List.all_nil, (f53_0).one.2]; rfl) (Wn.none rfl) ?_
       intro w H
       refine AS rfl rfl (NA (WA.done (by kernel_rfl) ?_))
       exact WQ.meetN [(2, _), (3, _)] ⟨rfl, rfl, trivial⟩ ⟨_, _, _, _, _, _, rfl, (H.pick (L' := [.blk bk2 (.cells #[S s1, S s7, x53_0] 24)]) (by repeat first | exact kPn | refine kPc (by repeat first | exact .head | apply Rem.tail) ?_)), hg_errR, hg_errS, hg_maxl, hg_pow10, hg_tabs, f53_0, e59⟩
      ·
       rw [if_pos rfl] at e59
       refine WA.take (i := 3) rfl (by kernel_rfl) (by kernel_rfl) (by kernel_rfl) (fun _ => Ex.move rfl) (Wn.some rfl rfl rfl) rfl rfl (fun _ _ => rfl) (WA.take (i := 4) rfl (by kernel_rfl) (by kernel_rfl) (by kernel_rfl) (fun _ => Ex.nilCheckP rfl) (Wn.some rfl rfl rfl) rfl rfl (fun _ _ => rfl) (WA.take (i := 5) rfl (by kernel_rfl) (by kernel_rfl) (by kernel_rfl) (fun _ => Ex.fieldAddr Tryz.underlying81 rfl Tryz.sizeOf9 (by decide) rfl) (Wn.some rfl rfl rfl) rfl rfl (fun _ _ => rfl) ?_))
       refine WA.two (i := 0) (j := 6) (by kernel_rfl) rfl rfl ?_ ?_
       ·
        refine ST (Ex.loadAgg H rfl (by repeat first | exact kMh | apply kMt) Tryz.isAgg24 Tryz.sizeOf24 (by rfl)) rfl ?_
        refine NA ?_
        refine WA.two (i := 6) (j := 9) (by kernel_rfl) rfl rfl ?_ ?_
        ·
         refine SG (Ex.load1 H rfl (by repeat first | exact kMh | apply kMt) Tryz.isAgg9 (by rfl)) rfl rfl rfl ?_
         refine NA (WA.take (i := 7) rfl (by kernel_rfl) (by kernel_rfl) (by kernel_rfl) (fun _ => Ex.strEql rfl rfl) (Wn.some rfl rfl rfl) rfl rfl (fun _ _ => rfl) (WA.take (i := 8) rfl (by kernel_rfl) (by kernel_rfl) (by kernel_rfl) (fun _ => Ex.pickT rfl rfl) (Wn.none rfl) rfl rfl (fun _ _ => rfl) (WA.seq (fuel := 0) [9, 10] rfl (by kernel_rfl) (WR.store [_, _, _] H rfl rfl rfl (by repeat first | exact .head | apply Upd.tail) Tryz.sizeOf24 rfl (by rfl) (by simp only [List.all_cons, List.all_nil, (f53_0).one.2]; rfl) (Wn.none rfl) ?_))))
         intro w H
         refine AS rfl rfl (NA (WA.done (by kernel_rfl) ?_))
         exact WQ.meetN [(2, _), (3, _)] ⟨rfl, rfl, trivial⟩ ⟨_, _, _, _, _, _, rfl, (H.pick (L' := [.blk bk2 (.cells #[S s1, S s7, x53_0] 24)]) (by repeat first | exact kPn | refine kPc (by repeat first | exact .head | apply Rem.tail) ?_)), hg_errR, hg_errS, hg_maxl, hg_pow10, hg_tabs, f53_0, e59⟩
        ·
         refine WR.store [_, _, _] H rfl rfl rfl (by repeat first | exact .head | apply Upd.tail) Tryz.sizeOf24 rfl (by rfl) (by simp only [List.all_cons, List.all_nil, (f53_0).one.2]; rfl) (Wn.none rfl) ?_
         intro w H
         refine NA (WA.seq (fuel := 0) [6, 7, 8, 10] rfl (by kernel_rfl) (SG (Ex.load1 H rfl (by repeat first | exact kMh | apply kMt) Tryz.isAgg9 (by rfl)) rfl rfl rfl ?_))
         refine SG (Ex.strEql rfl rfl) rfl rfl rfl (PT rfl rfl rfl (AS rfl rfl (NA (WA.done (by kernel_rfl) ?_))))
         exact WQ.meetN [(2, _), (3, _)] ⟨rfl, rfl, trivial⟩ ⟨_, _, _, _, _, _, rfl, (H.pick (L' := [.blk bk2 (.cells #[S s1, S s7, x53_0] 24)]) (by repeat first | exact kPn | refine kPc (by repeat first | exact .head | apply Rem.tail) ?_)), hg_errR, hg_errS, hg_maxl, hg_pow10, hg_tabs, f53_0, e59⟩
       ·
        refine SG (Ex.load1 H rfl (by repeat first | exact kMh | apply kMt) Tryz.isAgg9 (by rfl)) rfl rfl rfl ?_
        refine NA (WA.take (i := 7) rfl (by kernel_rfl) (by kernel_rfl) (by kernel_rfl) (fun _ => Ex.strEql rfl rfl) (Wn.some rfl rfl rfl) rfl rfl (fun _ _ => rfl) (WA.take (i := 8) rfl (by kernel_rfl) (by kernel_rfl) (by kernel_rfl) (fun _ => Ex.pickT rfl rfl) (Wn.none rfl) rfl rfl (fun _ _ => rfl) (WA.seq (fuel := 0) [0, 9, 10] rfl (by kernel_rfl) (ST (Ex.loadAgg H rfl (by repeat first | exact kMh | apply kMt) Tryz.isAgg24 Tryz.sizeOf24 (by rfl)) rfl ?_))))
        refine WR.store [_, _, _] H rfl rfl rfl (by repeat first | exact .head | apply Upd.tail) Tryz.sizeOf24 rfl (by rfl) (by simp only [List.all_cons, List.all_nil, (f53_0).one.2]; rfl) (Wn.none rfl) ?_
        intro w H
        refine AS rfl rfl (NA (WA.done (by kernel_rfl) ?_))
        exact WQ.meetN [(2, _), (3, _)] ⟨rfl, rfl, trivial⟩ ⟨_, _, _, _, _, _, rfl, (H.pick (L' := [.blk bk2 (.cells #[S s1, S s7, x53_0] 24)]) (by repeat first | exact kPn | refine kPc (by repeat first | exact .head | apply Rem.tail) ?_)), hg_errR, hg_errS, hg_maxl, hg_pow10, hg_tabs, f53_0, e59⟩
     ·
      rintro e w ⟨s60, s61, l62, v63, b65, M, rfl, H, hg_errR, hg_errS, hg_maxl, hg_pow10, hg_tabs, hs64, q66⟩
      obtain rfl := oI q66
      try dsimp only at h
      refine TN (RT ?_)
      obtain rfl := oI h
      exact WQ.ret2 rfl ⟨_, rfl, H.loadAgg (by repeat first | exact kMh | apply kMt) Tryz.isAgg24 Tryz.sizeOf24 (by rfl)⟩ rfl H.ext (⟨_, rfl, hs64⟩)
theorem media_Parse_ct {p0 : List UInt8} {r : ((List UInt8 × List UInt8 × List (List UInt8 × List UInt8)) × (Int × Int))} (h : media_Parse p0 = some r) : Ct Tryz.prog 15 [S p0] (fun M => GlF (fun w => ∃ tp p, w.var? Tryz.prog "strconv.ErrRange" = some #[.iface tp p]) M ∧ GlF (fun w => ∃ tp p, w.var? Tryz.prog "strconv.ErrSyntax" = some #[.iface tp p]) M ∧ GlF (fun w => ∃ m, w.cell? ⟨2, 0, none⟩ = some (.int .i64 m)) M ∧ GlF (fun w => Lib.TabIs Tryz.prog w "internal/strconv.uint64pow10" .u64 Lib.pow10Tab) M ∧ Tabs M) (fun v M => ∃ x0_2, v = Value.tuple #[Value.agg #[S r.1.1, S r.1.2.1, x0_2], Value.agg #[I r.2.1, I r.2.2]] ∧ SlS M 2 xenc47 x0_2 r.1.2.2) := by
  refine Ct.of Tryz.func15 (enters Tryz.func15 (by kernel_rfl) rfl) rfl rfl rfl ?_
  intro w0 M0 H hp
  obtain ⟨hg_errR, hg_errS, hg_maxl, hg_pow10, hg_tabs⟩ := hp
  unfold media_Parse at h
  refine SQ (RG (WR.alloc [_, _, _] H Tryz.zeroValue24 rfl (Wn.none rfl) rfl ?_))
  intro bk2 w H
  refine WR.alloc [_, _] H Tryz.zeroValue27 rfl (Wn.none rfl) rfl ?_
  intro bk3 w H
  refine NL (TN (SQ (SQ (RG (MV rfl rfl (ST (Ex.lenStr Tryz.underlying9 rfl) rfl (ST (Ex.gtr rfl rfl) rfl (NL (TN ?_)))))))))
  refine WC.condB rfl (fun hk1 => ?_) (fun hk1 => ?_)
  ·
   replace hk1 : (4000 : Int) < (p0.length : Int) := of_decide_eq_true hk1
   rw [if_pos hk1] at h
   refine SQ ?_
   obtain ⟨⟨n2, n3⟩, hx4, h⟩ := bnd h
   try dsimp only at h
   refine RG (ST (Ex.build [S [], S [], Value.slice none 0 0] Tryz.underlying24 Tryz.zeroValue24 (xplaces24 Tryz.underlying24) rfl rfl) rfl (WR.call H (basic_Fault_ct hx4) rfl trivial (Wn.none rfl) rfl ?_))
   intro v11 M w H hle hR
   replace hg_errR := hg_errR.mono hle
   replace hg_errS := hg_errS.mono hle
   replace hg_maxl := hg_maxl.mono hle
   replace hg_pow10 := hg_pow10.mono hle
   replace hg_tabs := hg_tabs.mono hle
   try dsimp only at hR
   obtain rfl := hR
   refine WR.store [_, _, _] H rfl rfl rfl (by repeat first | exact .head | apply Upd.tail) Tryz.sizeOf24 rfl (by rfl) (by rfl) (Wn.none rfl) ?_
   intro w H
   refine WR.store [_, _] H rfl rfl rfl (by repeat first | exact .head | apply Upd.tail) Tryz.sizeOf27 rfl (by rfl) (by rfl) (Wn.none rfl) ?_
   intro w H
   refine NL (TN (RT ?_))
   obtain rfl := oI h
   exact WQ.ret2 rfl ⟨_, rfl, H.loadAgg (by repeat first | exact kMh | apply kMt) Tryz.isAgg24 Tryz.sizeOf24 (by rfl)⟩ ⟨_, rfl, H.loadAgg (by repeat first | exact kMh | apply kMt) Tryz.isAgg27 Tryz.sizeOf27 (by rfl)⟩ H.ext (⟨_, rfl, (SlS.nil _ _ (fun _ => rfl))⟩)
  ·
   replace hk1 : ¬ ((4000 : Int) < (p0.length : Int)) := of_decide_eq_false hk1
   rw [if_neg hk1] at h
   refine SK (TN (SQ ?_))
   obtain ⟨⟨⟨s5, s6, l7⟩, b8⟩, hx9, h⟩ := bnd h
   try dsimp only at h
   refine RG (MV rfl rfl (WR.call H (media_parse_ct hx9) rfl ⟨hg_errR, hg_errS, hg_maxl, hg_pow10, hg_tabs⟩ (Wn.none rfl) rfl ?_))
   intro v14 M w H hle hR
   replace hg_errR := hg_errR.mono hle
   replace hg_errS := hg_errS.mono hle
   replace hg_maxl := hg_maxl.mono hle
   replace hg_pow10 := hg_pow10.mono hle
   replace hg_tabs := hg_tabs.mono hle
   try dsimp only at hR
   obtain ⟨x14_0_2, rfl, f14_0_2⟩ := hR
   refine MV rfl rfl (ST (Ex.extract rfl rfl) rfl (ST (Ex.extract rfl rfl) rfl (WR.alloc [_, _, _] H Tryz.zeroValue24 rfl (Wn.none rfl) rfl ?_)))
   intro bk4 w H
   refine WR.store [_, _, _] H rfl rfl rfl (by repeat first | exact .head | apply Upd.tail) Tryz.sizeOf24 rfl (by rfl) (by simp only [List.all_cons, List.all_nil, (f14_0_2).one.2]; rfl) (Wn.none rfl) ?_
   intro w H
   refine AS rfl rfl (NL (TN (SQ (SQ (RG (MV rfl rfl (ST (Ex.not rfl) rfl (NL (TN ?_)))))))))
   refine WC.condB rfl (fun hk10 => ?_) (fun hk10 => ?_)
   ·
    replace hk10 : b8 = false := by simpa using hk10
    subst hk10
    rw [if_neg Bool.false_ne_true] at h
    refine SQ ?_
    obtain ⟨⟨n11, n12⟩, hx13, h⟩ := bnd h
    try dsimp only at h
    refine RG (ST (Ex.build [S [], S [], Value.slice none 0 0] Tryz.underlying24 Tryz.zeroValue24 (xplaces24 Tryz.underlying24) rfl rfl) rfl (WR.call H (basic_Fault_ct hx13) rfl trivial (Wn.none rfl) rfl ?_))
    intro v20 M w H hle hR
    replace hg_errR := hg_errR.mono hle
    replace hg_errS := hg_errS.mono hle
    replace hg_maxl := hg_maxl.mono hle
    replace hg_pow10 := hg_pow10.mono hle
    replace hg_tabs := hg_tabs.mono hle
    replace f14_0_2 := f14_0_2.mono hle
    try dsimp only at hR
    obtain rfl := hR
    refine WR.store [_, _, _] H rfl rfl rfl (by repeat first | exact .head | apply Upd.tail) Tryz.sizeOf24 rfl (by rfl) (by rfl) (Wn.none rfl) ?_
    intro w H
    refine WR.store [_, _] H rfl rfl rfl (by repeat first | exact .head | apply Upd.tail) Tryz.sizeOf27 rfl (by rfl) (by rfl) (Wn.none rfl) ?_
    intro w H
    refine NL (TN (RT ?_))
    obtain rfl := oI h
    exact WQ.ret2 rfl ⟨_, rfl, H.loadAgg (by repeat first | exact kMh | apply kMt) Tryz.isAgg24 Tryz.sizeOf24 (by rfl)⟩ ⟨_, rfl, H.loadAgg (by repeat first | exact kMh | apply kMt) Tryz.isAgg27 Tryz.sizeOf27 (by rfl)⟩ H.ext (⟨_, rfl, (SlS.nil _ _ (fun _ => rfl))⟩)
   ·
    replace hk10 : b8 = true := by simpa using hk10
    subst hk10
    rw [if_pos rfl] at h
    refine SK (TN (SQ (SQ ?_)))
    obtain ⟨⟨n14, n15⟩, hx16, h⟩ := bnd h
    try dsimp only at h
    refine RG (ST (Ex.loadAgg H rfl (by repeat first | exact kMh | apply kMt) Tryz.isAgg24 Tryz.sizeOf24 (by rfl)) rfl ?_)
    refine WR.call H (media_Validate_ct hx16) rfl ⟨hg_tabs, f14_0_2⟩ (Wn.none rfl) rfl ?_
    intro v22 M w H hle hR
    replace hg_errR := hg_errR.mono hle
    replace hg_errS := hg_errS.mono hle
    replace hg_maxl := hg_maxl.mono hle
    replace hg_pow10 := hg_pow10.mono hle
    replace hg_tabs := hg_tabs.mono hle
    replace f14_0_2 := f14_0_2.mono hle
    try dsimp only at hR
    obtain rfl := hR
    refine WR.alloc [_, _] H Tryz.zeroValue27 rfl (Wn.none rfl) rfl ?_
    intro bk6 w H
    refine WR.store [_, _] H rfl rfl rfl (by repeat first | exact .head | apply Upd.tail) Tryz.sizeOf27 rfl (by rfl) (by rfl) (Wn.none rfl) ?_
    intro w H
    refine NL (TN (SQ ?_))
    obtain ⟨b17, hx18, h⟩ := bnd h
    refine RG (ST (Ex.loadAgg H rfl (by repeat first | exact kMh | apply kMt) Tryz.isAgg27 Tryz.sizeOf27 (by rfl)) rfl ?_)
    refine WR.call H (basic_Failed_ct hx18) rfl trivial (Wn.none rfl) rfl ?_
    intro v24 M w H hle hR
    replace hg_errR := hg_errR.mono hle
    replace hg_errS := hg_errS.mono hle
    replace hg_maxl := hg_maxl.mono hle
    replace hg_pow10 := hg_pow10.mono hle
    replace hg_tabs := hg_tabs.mono hle
    replace f14_0_2 := f14_0_2.mono hle
    obtain rfl := hR
    refine NL (TN ?_)
    refine WC.condB rfl (fun hk19 => ?_) (fun hk19 => ?_)
    ·
     subst hk19
     rw [if_pos rfl] at h
     refine SQ ?_
     obtain ⟨⟨n20, n21⟩, hx22, h⟩ := bnd h
     try dsimp only at h
     refine RG (ST (Ex.build [S [], S [], Value.slice none 0 0] Tryz.underlying24 Tryz.zeroValue24 (xplaces24 Tryz.underlying24) rfl rfl) rfl (ST (Ex.fieldAddr Tryz.underlying27 rfl Tryz.sizeOf3 (by decide) rfl) rfl (ST (Ex.load1 H rfl (by repeat first | exact kMh | apply kMt) Tryz.isAgg3 (by rfl)) rfl ?_)))
     refine WR.call H (basic_Fault_ct hx22) rfl trivial (Wn.none rfl) rfl ?_
     intro v28 M w H hle hR
     replace hg_errR := hg_errR.mono hle
     replace hg_errS := hg_errS.mono hle
     replace hg_maxl := hg_maxl.mono hle
     replace hg_pow10 := hg_pow10.mono hle
     replace hg_tabs := hg_tabs.mono hle
     replace f14_0_2 := f14_0_2.mono hle
     try dsimp only at hR
     obtain rfl := hR
     refine WR.store [_, _, _] H rfl rfl rfl (by repeat first | exact .head | apply Upd.tail) Tryz.sizeOf24 rfl (by rfl) (by rfl) (Wn.none rfl) ?_
     intro w H
     refine WR.store [_, _] H rfl rfl rfl (by repeat first | exact .head | apply Upd.tail) Tryz.sizeOf27 rfl (by rfl) (by rfl) (Wn.none rfl) ?_
     intro w H
     refine NL (TN (RT ?_))
     obtain rfl := oI h
     exact WQ.ret2 rfl ⟨_, rfl, H.loadAgg (by repeat first | exact kMh | apply kMt) Tryz.isAgg24 Tryz.sizeOf24 (by rfl)⟩ ⟨_, rfl, H.loadAgg (by repeat first | exact kMh | apply kMt) Tryz.isAgg27 Tryz.sizeOf27 (by rfl)⟩ H.ext (⟨_, rfl, (SlS.nil _ _ (fun _ => rfl))⟩)
    ·
     subst hk19
     rw [if_neg Bool.false_ne_true] at h
     refine SK (TN (SQ ?_))
     obtain ⟨⟨n23, n24⟩, hx25, h⟩ := bnd h
     try dsimp only at h
     refine WC.cutP (fun e w => ∃  (M : Mem), e = [(2, ptr bk2 0), (3, ptr bk3 0)] ∧ St w0 M0 M [.blk bk2 (.cells #[S s5, S s6, x14_0_2] 24), .blk bk3 (.cells #[I n23, I n24] 27)] w ∧ GlF (fun w => ∃ tp p, w.var? Tryz.prog "strconv.ErrRange" = some #[.iface tp p]) M ∧ GlF (fun w => ∃ tp p, w.var? Tryz.prog "strconv.ErrSyntax" = some #[.iface tp p]) M ∧ GlF (fun w => ∃ m, w.cell? ⟨2, 0, none⟩ = some (.int .i64 m)) M ∧ GlF (fun w => Lib.TabIs Tryz.prog w "internal/strconv.uint64pow10" .u64 Lib.pow10Tab) M ∧ Tabs M ∧ SlS M 2 xenc47 x14_0_2 l7) ?_ ?_
     ·
      refine WC.draw (m := 4) rfl rfl H ?_
      intro w H
      refine WA.two (i := 0) (j := 1) (by kernel_rfl) rfl rfl ?_ ?_
      ·
       refine ST (Ex.loadAgg H rfl (by repeat first | exact kMh | apply kMt) Tryz.isAgg24 Tryz.sizeOf24 (by rfl)) rfl ?_
       refine NA (WA.seq (fuel := 0) [1, 2, 3] rfl (by kernel_rfl) (WR.call H (basic_None_ct hx25) rfl trivial (Wn.none rfl) rfl ?_))
       intro v30 M w H hle hR
       replace hg_errR := hg_errR.mono hle
       replace hg_errS := hg_errS.mono hle
       replace hg_maxl := hg_maxl.mono hle
       replace hg_pow10 := hg_pow10.mono hle
       replace hg_tabs := hg_tabs.mono hle
       replace f14_0_2 := f14_0_2.mono hle
       try dsimp only at hR
       obtain rfl := hR
       refine WR.store [_, _, _] H rfl rfl rfl (by repeat first | exact .head | apply Upd.tail) Tryz.sizeOf24 rfl (by rfl) (by simp only [List.all_cons, List.all_nil, (f14_0_2).one.2]; rfl) (Wn.none rfl) ?_
       intro w H
       refine WR.store [_, _] H rfl rfl rfl (by repeat first | exact .head | apply Upd.tail) Tryz.sizeOf27 rfl (by rfl) (by rfl) (Wn.none rfl) ?_
       intro w H
       refine NA (WA.done (by kernel_rfl) ?_)
       exact WQ.meetP [(2, _), (3, _)] ⟨rfl, rfl, trivial⟩ ⟨_, rfl, (H.pick (L' := [.blk bk2 (.cells #[S s5, S s6, x14_0_2] 24), .blk bk3 (.cells #[I n23, I n24] 27)]) (by repeat first | exact kPn | refine kPc (by repeat first | exact .head | apply Rem.tail) ?_)), hg_errR, hg_errS, hg_maxl, hg_pow10, hg_tabs, f14_0_2⟩
      ·
       refine WR.call H (basic_None_ct hx25) rfl trivial (Wn.none rfl) rfl ?_
       intro v30 M w H hle hR
       replace hg_errR := hg_errR.mono hle
       replace hg_errS := hg_errS.mono hle
       replace hg_maxl := hg_maxl.mono hle
       replace hg_pow10 := hg_pow10.mono hle
       replace hg_tabs := hg_tabs.mono hle
       replace f14_0_2 := f14_0_2.mono hle
       try dsimp only at hR
       obtain rfl := hR
       refine NA (WA.seq (fuel := 0) [0, 2, 3] rfl (by kernel_rfl) (ST (Ex.loadAgg H rfl (by repeat first | exact kMh | apply kMt) Tryz.isAgg24 Tryz.sizeOf24 (by rfl)) rfl ?_))
       refine WR.store [_, _, _] H rfl rfl rfl (by repeat first | exact .head | apply Upd.tail) Tryz.sizeOf24 rfl (by rfl) (by simp only [List.all_cons, List.all_nil, (f14_0_2).one.2]; rfl) (Wn.none rfl) ?_
       intro w H
       refine WR.store [_, _] H rfl rfl rfl (by repeat first | exact .head | apply Upd.tail) Tryz.sizeOf27 rfl (by rfl) (by rfl) (Wn.none rfl) ?_
       intro w H
       refine NA (WA.done (by kernel_rfl) ?_)
       exact WQ.meetP [(2, _), (3, _)] ⟨rfl, rfl, trivial⟩ ⟨_, rfl, (H.pick (L' := [.blk bk2 (.cells #[S s5, S s6, x14_0_2] 24), .blk bk3 (.cells #[I n23, I n24] 27)]) (by repeat first | exact kPn | refine kPc (by repeat first | exact .head | apply Rem.tail) ?_)), hg_errR, hg_errS, hg_maxl, hg_pow10, hg_tabs, f14_0_2⟩
     ·
      rintro e w ⟨M, rfl, H, hg_errR, hg_errS, hg_maxl, hg_pow10, hg_tabs, f14_0_2⟩
      refine TN (RT ?_)
      obtain rfl := oI h
      exact WQ.ret2 rfl ⟨_, rfl, H.loadAgg (by repeat first | exact kMh | apply kMt) Tryz.isAgg24 Tryz.sizeOf24 (by rfl)⟩ ⟨_, rfl, H.loadAgg (by repeat first | exact kMh | apply kMt) Tryz.isAgg27 Tryz.sizeOf27 (by rfl)⟩ H.ext (⟨_, rfl, f14_0_2⟩)
theorem media_Param_ct {p0 : (List UInt8 × List UInt8 × List (List UInt8 × List UInt8))} {p1 : List UInt8} {vp0_2 : Value} {r : (List UInt8 × Bool × (Int × Int))} (h : media_Param p0 p1 = some r) : Ct Tryz.prog 18 [Value.agg #[S p0.1, S p0.2.1, vp0_2], S p1] (fun M => Tabs M ∧ SlS M 2 xenc47 vp0_2 p0.2.2) (fun v M => v = Value.tuple #[S r.1, Value.bool r.2.1, Value.agg #[I r.2.2.1, I r.2.2.2]]) := by
  refine Ct.of Tryz.func18 (enters Tryz.func18 (by kernel_rfl) rfl) rfl rfl rfl ?_
  intro w0 M0 H hp
  obtain ⟨hg_tabs, hp0_2⟩ := hp
  unfold media_Param at h
  refine SQ (RG (WR.box [_, _, _] H rfl rfl (Wn.none rfl) rfl ?_))
  intro bk2 w H
  refine AS rfl rfl (AS rfl rfl (WR.alloc [_, _] H Tryz.zeroValue27 rfl (Wn.none rfl) rfl ?_))
  intro bk6 w H
  refine NL (TN (SQ (SQ ?_)))
  obtain ⟨⟨n1, n2⟩, hx3, h⟩ := bnd h
  try dsimp only at h
  refine RG (ST (Ex.loadAgg H rfl (by repeat first | exact kMh | apply kMt) Tryz.isAgg24 Tryz.sizeOf24 (by rfl)) rfl ?_)
  refine WR.call H (media_Validate_ct hx3) rfl ⟨hg_tabs, hp0_2⟩ (Wn.none rfl) rfl ?_
  intro v11 M w H hle hR
  replace hg_tabs := hg_tabs.mono hle
  replace hp0_2 := hp0_2.mono hle
  try dsimp only at hR
  obtain rfl := hR
  refine WR.alloc [_, _] H Tryz.zeroValue27 rfl (Wn.none rfl) rfl ?_
  intro bk7 w H
  refine WR.store [_, _] H rfl rfl rfl (by repeat first | exact .head | apply Upd.tail) Tryz.sizeOf27 rfl (by rfl) (by rfl) (Wn.none rfl) ?_
  intro w H
  refine NL (TN (SQ ?_))
  obtain ⟨b4, hx5, h⟩ := bnd h
  refine RG (ST (Ex.loadAgg H rfl (by repeat first | exact kMh | apply kMt) Tryz.isAgg27 Tryz.sizeOf27 (by rfl)) rfl ?_)
  refine WR.call H (basic_Failed_ct hx5) rfl trivial (Wn.none rfl) rfl ?_
  intro v13 M w H hle hR
  replace hg_tabs := hg_tabs.mono hle
  replace hp0_2 := hp0_2.mono hle
  obtain rfl := hR
  refine NL (TN ?_)
  refine WC.condB rfl (fun hk6 => ?_) (fun hk6 => ?_)
  ·
   subst hk6
   rw [if_pos rfl] at h
   refine SQ (WC.draw (m := 4) rfl rfl H ?_)
   intro w H
   refine WA.take (i := 1) rfl (by kernel_rfl) (by kernel_rfl) (by kernel_rfl) (fun _ => Ex.assign rfl) (Wn.none rfl) rfl rfl (fun _ _ => rfl) (WA.take (i := 2) rfl (by kernel_rfl) (by kernel_rfl) (by kernel_rfl) (fun _ => Ex.assign rfl) (Wn.none rfl) rfl rfl (fun _ _ => rfl) (WA.seq (fuel := 0) [0, 3] rfl (by kernel_rfl) (ST (Ex.loadAgg H rfl (by repeat first | exact kMh | apply kMt) Tryz.isAgg27 Tryz.sizeOf27 (by rfl)) rfl ?_)))
   refine WR.store [_, _] H rfl rfl rfl (by repeat first | exact .head | apply Upd.tail) Tryz.sizeOf27 rfl (by rfl) (by rfl) (Wn.none rfl) ?_
   intro w H
   refine NA (WA.done (by kernel_rfl) (TN (RT ?_)))
   obtain rfl := oI h
   exact WQ.ret3 rfl rfl rfl ⟨_, rfl, H.loadAgg (by repeat first | exact kMh | apply kMt) Tryz.isAgg27 Tryz.sizeOf27 (by rfl)⟩ H.ext rfl
  ·
   subst hk6
   rw [if_neg Bool.false_ne_true] at h
   refine SK (TN (SQ (SQ (RG (ST (Ex.fieldAddr Tryz.underlying24 rfl Tryz.sizeOf22 (by decide) rfl) rfl (ST (Ex.load1 H rfl (by repeat first | exact kMh | apply kMt) Tryz.isAgg22 (by rfl)) rfl ?_))))))
   refine ST (Ex.lenSlS Tryz.underlying22 hp0_2 rfl) rfl (MV rfl rfl (NL (TN ?_)))
   obtain ⟨o7, e8, h⟩ := bnd h
   refine WC.cutX (fun e w => ∃ (n9 : Int) (n10 : Int) (M : Mem), e = [(6, ptr bk6 0)] ∧ St w0 M0 M [.blk bk6 (.cells #[I n9, I n10] 27)] w ∧ Tabs M ∧ some (.inl (n9, n10)) = some o7) [] ?_ ?_ (trivial)
   ·
    refine BL ?_
    refine WC.loopP (fun m e w => ∃ (n11 : Int) (n12 : Int) (n13 : Int) (M : Mem), e = [(1, S p1), (6, ptr bk6 0), (16, vp0_2), (17, I (p0.2.2.length : Int)), (18, I n13)] ∧ St w0 M0 M [.blk bk6 (.cells #[I n11, I n12] 27)] w ∧ Tabs M ∧ SlS M 2 xenc47 vp0_2 p0.2.2 ∧ media_Param_L1 p0 p1 m n11 n12 n13 = some o7) FU [(1, _), (6, _), (16, _), (17, _), (18, _)] ⟨rfl, rfl, rfl, rfl, rfl, trivial⟩ ⟨_, _, _, _, rfl, (H.pick (L' := [.blk bk6 (.cells #[I 0, I 0] 27)]) (by repeat first | exact kPn | refine kPc (by repeat first | exact .head | apply Rem.tail) ?_)), hg_tabs, hp0_2, e8⟩ ?_
    rintro m14 e w ⟨n11, n12, n13, M, rfl, H, hg_tabs, hp0_2, e8⟩
    rcases m14 with _ | m14
    · rw [media_Param_L1] at e8; cases e8
    rw [media_Param_L1] at e8
    refine SQ (RG (ST (Ex.lss rfl rfl) rfl (NL (TN (SQ ?_)))))
    refine WC.condB rfl (fun hk15 => ?_) (fun hk15 => ?_)
    ·
     replace hk15 : n13 < (p0.2.2.length : Int) := of_decide_eq_true hk15
     rw [if_pos hk15] at e8
     refine SK (TN (SQ (BL (SQ ?_))))
     obtain ⟨a16, hxa16, e8⟩ := bnd e8
     obtain ⟨bk20, o20, ha20, hc20⟩ := hp0_2.atC hxa16
     refine RG (ST (Ex.idxAt ha20 Tryz.underlying22 Tryz.sizeOf47 rfl rfl) rfl (ST (Ex.loadAggM H rfl hc20 Tryz.isAgg47 Tryz.sizeOf47 (by rfl)) rfl ?_))
     refine WR.alloc [_, _] H Tryz.zeroValue47 rfl (Wn.none rfl) rfl ?_
     intro bk9 w H
     refine WR.store [_, _] H rfl rfl rfl (by repeat first | exact .head | apply Upd.tail) Tryz.sizeOf47 rfl (by rfl) (by rfl) (Wn.none rfl) ?_
     intro w H
     refine NL (TN (SQ ?_))
     obtain ⟨b17, hx18, e8⟩ := bnd e8
     refine RG (ST (Ex.fieldAddr Tryz.underlying47 rfl Tryz.sizeOf9 (by decide) rfl) rfl (ST (Ex.load1 H rfl (by repeat first | exact kMh | apply kMt) Tryz.isAgg9 (by rfl)) rfl ?_))
     refine MV rfl rfl (WR.call H (basic_Same_ct hx18) rfl trivial (Wn.none rfl) rfl ?_)
     intro v25 M w H hle hR
     replace hg_tabs := hg_tabs.mono hle
     replace hp0_2 := hp0_2.mono hle
     replace hc20 := hc20.mono hle
     obtain rfl := hR
     refine NL (TN ?_)
     refine WC.condB rfl (fun hk19 => ?_) (fun hk19 => ?_)
     ·
      subst hk19
      rw [if_pos rfl] at e8
      refine SQ ?_
      obtain ⟨⟨n20, n21⟩, hx22, e8⟩ := bnd e8
      try dsimp only at e8
      refine WC.cutP (fun e w => ∃  (M : Mem), e = [(4, S a16.2), (5, Value.bool true), (6, ptr bk6 0)] ∧ St w0 M0 M [.blk bk6 (.cells #[I n20, I n21] 27)] w ∧ Tabs M) ?_ ?_
      ·
       refine WC.draw (m := 6) rfl rfl H ?_
       intro w H
       refine WA.take (i := 0) rfl (by kernel_rfl) (by kernel_rfl) (by kernel_rfl) (fun _ => Ex.fieldAddr Tryz.underlying47 rfl Tryz.sizeOf9 (by decide) rfl) (Wn.none rfl) rfl rfl (fun _ _ => rfl) ?_
       refine WA.two (i := 1) (j := 2) (by kernel_rfl) rfl rfl ?_ ?_
       ·
        refine ST (Ex.load1 H rfl (by repeat first | exact kMh | apply kMt) Tryz.isAgg9 (by rfl)) rfl ?_
        refine NA (WA.seq (fuel := 0) [2, 3, 4, 5] rfl (by kernel_rfl) (WR.call H (basic_None_ct hx22) rfl trivial (Wn.none rfl) rfl ?_))
        intro v28 M w H hle hR
        replace hg_tabs := hg_tabs.mono hle
        replace hp0_2 := hp0_2.mono hle
        replace hc20 := hc20.mono hle
        try dsimp only at hR
        obtain rfl := hR
        refine AS rfl rfl (AS rfl rfl (WR.store [_, _] H rfl rfl rfl (by repeat first | exact .head | apply Upd.tail) Tryz.sizeOf27 rfl (by rfl) (by rfl) (Wn.none rfl) ?_))
        intro w H
        refine NA (WA.done (by kernel_rfl) ?_)
        exact WQ.meetP [(4, _), (5, _), (6, _)] ⟨rfl, rfl, rfl, trivial⟩ ⟨_, rfl, (H.pick (L' := [.blk bk6 (.cells #[I n20, I n21] 27)]) (by repeat first | exact kPn | refine kPc (by repeat first | exact .head | apply Rem.tail) ?_)), hg_tabs⟩
       ·
        refine WR.call H (basic_None_ct hx22) rfl trivial (Wn.none rfl) rfl ?_
        intro v28 M w H hle hR
        replace hg_tabs := hg_tabs.mono hle
        replace hp0_2 := hp0_2.mono hle
        replace hc20 := hc20.mono hle
        try dsimp only at hR
        obtain rfl := hR
        refine NA (WA.seq (fuel := 0) [1, 3, 4, 5] rfl (by kernel_rfl) (ST (Ex.load1 H rfl (by repeat first | exact kMh | apply kMt) Tryz.isAgg9 (by rfl)) rfl ?_))
        refine AS rfl rfl (AS rfl rfl (WR.store [_, _] H rfl rfl rfl (by repeat first | exact .head | apply Upd.tail) Tryz.sizeOf27 rfl (by rfl) (by rfl) (Wn.none rfl) ?_))
        intro w H
        refine NA (WA.done (by kernel_rfl) ?_)
        exact WQ.meetP [(4, _), (5, _), (6, _)] ⟨rfl, rfl, rfl, trivial⟩ ⟨_, rfl, (H.pick (L' := [.blk bk6 (.cells #[I n20, I n21] 27)]) (by repeat first | exact kPn | refine kPc (by repeat first | exact .head | apply Rem.tail) ?_)), hg_tabs⟩
      ·
       rintro e w ⟨M, rfl, H, hg_tabs⟩
       refine TN (RT ?_)
       obtain rfl := oI e8
       try dsimp only at h
       obtain rfl := oI h
       exact WQ.ret3 rfl rfl rfl ⟨_, rfl, H.loadAgg (by repeat first | exact kMh | apply kMt) Tryz.isAgg27 Tryz.sizeOf27 (by rfl)⟩ H.ext rfl
     ·
      subst hk19
      rw [if_neg Bool.false_ne_true] at e8
      refine SK (IB (TN ?_))
      obtain ⟨n23, hxn23, e8⟩ := bnd e8
      refine RG (ST (Ex.addC rfl rfl hxn23) rfl (MV rfl rfl (NL ?_)))
      exact WQ.againP m14 [(1, _), (6, _), (16, _), (17, _), (18, _)] ⟨rfl, rfl, rfl, rfl, rfl, trivial⟩ ⟨_, _, _, _, rfl, (H.pick (L' := [.blk bk6 (.cells #[I n11, I n12] 27)]) (by repeat first | exact kPn | refine kPc (by repeat first | exact .head | apply Rem.tail) ?_)), hg_tabs, hp0_2, e8⟩ (Nat.lt_succ_self _)
    ·
     replace hk15 : ¬ (n13 < (p0.2.2.length : Int)) := of_decide_eq_false hk15
     rw [if_neg hk15] at e8
     refine WC.exit (WQ.thenExit (WQ.thenExit (WQ.exitHere ?_)))
     exact WQ.meetN [(6, _)] ⟨rfl, trivial⟩ ⟨_, _, _, rfl, H, hg_tabs, e8⟩
   ·
    rintro e w ⟨n9, n10, M, rfl, H, hg_tabs, q24⟩
    obtain rfl := oI q24
    try dsimp only at h
    refine TN (SQ ?_)
    obtain ⟨⟨n25, n26⟩, hx27, h⟩ := bnd h
    try dsimp only at h
    refine RG (WR.call H (basic_None_ct hx27) rfl trivial (Wn.none rfl) rfl ?_)
    intro v30 M w H hle hR
    replace hg_tabs := hg_tabs.mono hle
    try dsimp only at hR
    obtain rfl := hR
    refine AS rfl rfl (AS rfl rfl (WR.store [_, _] H rfl rfl rfl (by repeat first | exact .head | apply Upd.tail) Tryz.sizeOf27 rfl (by rfl) (by rfl) (Wn.none rfl) ?_))
    intro w H
    refine NL (TN (RT ?_))
    obtain rfl := oI h
    exact WQ.ret3 rfl rfl rfl ⟨_, rfl, H.loadAgg (by repeat first | exact kMh | apply kMt) Tryz.isAgg27 Tryz.sizeOf27 (by rfl)⟩ H.ext rfl
theorem L_mediaExample_ct  {r : Bool} (h : L_mediaExample = some r) : Ct Tryz.prog 9 [] (fun M => GlF (fun w => ∃ tp p, w.var? Tryz.prog "strconv.ErrRange" = some #[.iface tp p]) M ∧ GlF (fun w => ∃ tp p, w.var? Tryz.prog "strconv.ErrSyntax" = some #[.iface tp p]) M ∧ GlF (fun w => ∃ m, w.cell? ⟨2, 0, none⟩ = some (.int .i64 m)) M ∧ GlF (fun w => Lib.TabIs Tryz.prog w "internal/strconv.uint64pow10" .u64 Lib.pow10Tab) M ∧ Tabs M) (fun v M => v = Value.bool r) := by
  refine Ct.of Tryz.func9 (enters Tryz.func9 (by kernel_rfl) rfl) rfl rfl rfl ?_
  intro w0 M0 H hp
  obtain ⟨hg_errR, hg_errS, hg_maxl, hg_pow10, hg_tabs⟩ := hp
  unfold L_mediaExample at h
  refine SQ (RG (AS rfl rfl (NL (TN (SQ ?_)))))
  obtain ⟨⟨s1, ⟨n2, n3⟩⟩, hx4, h⟩ := bnd h
  try dsimp only at h
  refine RG (ST (Ex.build [S [97], S [98, 32, 99]] Tryz.underlying47 Tryz.zeroValue47 (xplaces47 Tryz.underlying47) rfl rfl) rfl (WR.litS (enc := xenc47) xty22 ([([97], [98, 32, 99])] : List (List UInt8 × List UInt8)) H (fun _ => rfl) rfl (by kernel_rfl) rfl rfl rfl (Wn.none rfl) rfl ?_))
  intro v10 M w H hle hs10
  replace hg_errR := hg_errR.mono hle
  replace hg_errS := hg_errS.mono hle
  replace hg_maxl := hg_maxl.mono hle
  replace hg_pow10 := hg_pow10.mono hle
  replace hg_tabs := hg_tabs.mono hle
  refine ST (Ex.build [S [116, 101, 120, 116], S [112, 108, 97, 105, 110], v10] Tryz.underlying24 Tryz.zeroValue24 (xplaces24 Tryz.underlying24) rfl (by obtain ⟨_, _, _, hv, -⟩ := hs10; rw [hv]; clear hv; rfl)) rfl ?_
  refine WR.call H (media_Print_ct hx4) rfl ⟨hg_pow10, hg_tabs, hs10⟩ (Wn.none rfl) rfl ?_
  intro v12 M w H hle hR
  replace hg_errR := hg_errR.mono hle
  replace hg_errS := hg_errS.mono hle
  replace hg_maxl := hg_maxl.mono hle
  replace hg_pow10 := hg_pow10.mono hle
  replace hg_tabs := hg_tabs.mono hle
  replace hs10 := hs10.mono hle
  try dsimp only at hR
  obtain rfl := hR
  refine MV rfl rfl (ST (Ex.extract rfl rfl) rfl (ST (Ex.extract rfl rfl) rfl (WR.alloc [_, _] H Tryz.zeroValue27 rfl (Wn.none rfl) rfl ?_)))
  intro bk2 w H
  refine AS rfl rfl (WR.store [_, _] H rfl rfl rfl (by repeat first | exact .head | apply Upd.tail) Tryz.sizeOf27 rfl (by rfl) (by rfl) (Wn.none rfl) ?_)
  intro w H
  refine NL (TN (SQ ?_))
  obtain ⟨⟨⟨s5, s6, l7⟩, ⟨n8, n9⟩⟩, hx10, h⟩ := bnd h
  try dsimp only at h
  refine RG (WR.call H (media_Parse_ct hx10) rfl ⟨hg_errR, hg_errS, hg_maxl, hg_pow10, hg_tabs⟩ (Wn.none rfl) rfl ?_)
  intro v16 M w H hle hR
  replace hg_errR := hg_errR.mono hle
  replace hg_errS := hg_errS.mono hle
  replace hg_maxl := hg_maxl.mono hle
  replace hg_pow10 := hg_pow10.mono hle
  replace hg_tabs := hg_tabs.mono hle
  replace hs10 := hs10.mono hle
  try dsimp only at hR
  obtain ⟨x16_0_2, rfl, f16_0_2⟩ := hR
  refine MV rfl rfl (ST (Ex.extract rfl rfl) rfl (ST (Ex.extract rfl rfl) rfl (WR.alloc [_, _, _] H Tryz.zeroValue24 rfl (Wn.none rfl) rfl ?_)))
  intro bk3 w H
  refine WR.alloc [_, _] H Tryz.zeroValue27 rfl (Wn.none rfl) rfl ?_
  intro bk4 w H
  refine WR.store [_, _, _] H rfl rfl rfl (by repeat first | exact .head | apply Upd.tail) Tryz.sizeOf24 rfl (by rfl) (by simp only [List.all_cons, List.all_nil, (f16_0_2).one.2]; rfl) (Wn.none rfl) ?_
  intro w H
  refine WR.store [_, _] H rfl rfl rfl (by repeat first | exact .head | apply Upd.tail) Tryz.sizeOf27 rfl (by rfl) (by rfl) (Wn.none rfl) ?_
  intro w H
  refine NL (TN (SQ ?_))
  obtain ⟨⟨s11, b12, ⟨n13, n14⟩⟩, hx15, h⟩ := bnd h
  try dsimp only at h
  refine RG (ST (Ex.loadAgg H rfl (by repeat first | exact kMh | apply kMt) Tryz.isAgg24 Tryz.sizeOf24 (by rfl)) rfl ?_)
  refine WR.call H (media_Param_ct hx15) rfl ⟨hg_tabs, f16_0_2⟩ (Wn.none rfl) rfl ?_
  intro v21 M w H hle hR
  replace hg_errR := hg_errR.mono hle
  replace hg_errS := hg_errS.mono hle
  replace hg_maxl := hg_maxl.mono hle
  replace hg_pow10 := hg_pow10.mono hle
  replace hg_tabs := hg_tabs.mono hle
  replace hs10 := hs10.mono hle
  replace f16_0_2 := f16_0_2.mono hle
  try dsimp only at hR
  obtain rfl := hR
  refine MV rfl rfl (ST (Ex.extract rfl rfl) rfl (ST (Ex.extract rfl rfl) rfl (ST (Ex.extract rfl rfl) rfl (WR.alloc [_, _] H Tryz.zeroValue27 rfl (Wn.none rfl) rfl ?_))))
  intro bk7 w H
  refine AS rfl rfl (AS rfl rfl (WR.store [_, _] H rfl rfl rfl (by repeat first | exact .head | apply Upd.tail) Tryz.sizeOf27 rfl (by rfl) (by rfl) (Wn.none rfl) ?_))
  intro w H
  refine NL (TN (SQ ?_))
  obtain ⟨o16, e17, h⟩ := bnd h
  refine WC.cutX (fun e w => ∃ (b18 : Bool) (M : Mem), e = [(0, Value.bool b18)] ∧ St w0 M0 M [] w ∧ GlF (fun w => ∃ tp p, w.var? Tryz.prog "strconv.ErrRange" = some #[.iface tp p]) M ∧ GlF (fun w => ∃ tp p, w.var? Tryz.prog "strconv.ErrSyntax" = some #[.iface tp p]) M ∧ GlF (fun w => ∃ m, w.cell? ⟨2, 0, none⟩ = some (.int .i64 m)) M ∧ GlF (fun w => Lib.TabIs Tryz.prog w "internal/strconv.uint64pow10" .u64 Lib.pow10Tab) M ∧ Tabs M ∧ some b18 = some o16) [] ?_ ?_ (trivial)
  ·
   refine RG (ST (Ex.fieldAddr Tryz.underlying27 rfl Tryz.sizeOf3 (by decide) rfl) rfl (ST (Ex.load1 H rfl (by repeat first | exact kMh | apply kMt) Tryz.isAgg3 (by rfl)) rfl ?_))
   by_cases hk19 : n2 = (0 : Int)
   ·
    rw [if_pos hk19] at e17
    by_cases hk20 : n8 = (0 : Int)
    ·
     rw [if_pos hk20] at e17
     by_cases hk21 : n13 = (0 : Int)
     ·
      rw [if_pos hk21] at e17
      by_cases hk22 : s1 = [116, 101, 120, 116, 47, 112, 108, 97, 105, 110, 59, 32, 97, 61, 34, 98, 32, 99, 34]
      ·
       rw [if_pos hk22] at e17
       by_cases hk23 : s5 = [84, 101, 120, 116]
       ·
        rw [if_pos hk23] at e17
        by_cases hk24 : (l7.length : Int) = (1 : Int)
        ·
         rw [if_pos hk24] at e17
         obtain ⟨a25, hxa25, e17⟩ := bnd e17
         obtain ⟨bk56, o56, ha56, hc56⟩ := f16_0_2.atC hxa25
         by_cases hk26 : a25.1 = [65] ∧ a25.2 = [98, 32, 99]
         ·
          rw [if_pos hk26] at e17
          rcases b12 with _ | _
          ·
           rw [if_neg Bool.false_ne_true] at e17
           refine WR.stepE (v' := .bool true) (Ex.eql rfl rfl) (congrArg Value.bool (decide_eq_true hk19)) (Wn.none rfl) rfl rfl (MV rfl rfl (SG (Ex.fieldAddr Tryz.underlying27 rfl Tryz.sizeOf3 (by decide) rfl) rfl rfl rfl (SG (Ex.load1 H rfl (by repeat first | exact kMh | apply kMt) Tryz.isAgg3 (by rfl)) rfl rfl rfl ?_)))
           refine WR.stepE (v' := .bool true) (Ex.eql rfl rfl) (congrArg Value.bool (decide_eq_true hk20)) (Wn.some rfl rfl rfl) rfl rfl (PT rfl rfl rfl (MV rfl rfl (SG (Ex.fieldAddr Tryz.underlying27 rfl Tryz.sizeOf3 (by decide) rfl) rfl rfl rfl (SG (Ex.load1 H rfl (by repeat first | exact kMh | apply kMt) Tryz.isAgg3 (by rfl)) rfl rfl rfl ?_))))
           refine WR.stepE (v' := .bool true) (Ex.eql rfl rfl) (congrArg Value.bool (decide_eq_true hk21)) (Wn.some rfl rfl rfl) rfl rfl (PT rfl rfl rfl (MV rfl rfl (SG (Ex.move rfl) rfl rfl rfl (WR.stepE (v' := .bool true) (Ex.strEql rfl rfl) (congrArg Value.bool (decide_eq_true hk22)) (Wn.some rfl rfl rfl) rfl rfl (PT rfl rfl rfl (MV rfl rfl (SG (Ex.fieldAddr Tryz.underlying24 rfl Tryz.sizeOf9 (by decide) rfl) rfl rfl rfl (SG (Ex.load1 H rfl (by repeat first | exact kMh | apply kMt) Tryz.isAgg9 (by rfl)) rfl rfl rfl ?_))))))))
           refine WR.stepE (v' := .bool true) (Ex.strEql rfl rfl) (congrArg Value.bool (decide_eq_true hk23)) (Wn.some rfl rfl rfl) rfl rfl (PT rfl rfl rfl (MV rfl rfl (SG (Ex.fieldAddr Tryz.underlying24 rfl Tryz.sizeOf22 (by decide) rfl) rfl rfl rfl (SG (Ex.load1 H rfl (by repeat first | exact kMh | apply kMt) Tryz.isAgg22 (by rfl)) rfl rfl rfl ?_))))
           refine SG (Ex.lenSlS Tryz.underlying22 f16_0_2 rfl) rfl rfl rfl (WR.stepE (v' := .bool true) (Ex.eql rfl rfl) (congrArg Value.bool (decide_eq_true hk24)) (Wn.some rfl rfl rfl) rfl rfl (PT rfl rfl rfl (MV rfl rfl (SG (Ex.fieldAddr Tryz.underlying24 rfl Tryz.sizeOf22 (by decide) rfl) rfl rfl rfl (SG (Ex.load1 H rfl (by repeat first | exact kMh | apply kMt) Tryz.isAgg22 (by rfl)) rfl rfl rfl ?_)))))
           refine SG (Ex.idxAt ha56 Tryz.underlying22 Tryz.sizeOf47 rfl rfl) rfl rfl rfl (SG (Ex.loadAggM H rfl hc56 Tryz.isAgg47 Tryz.sizeOf47 (by rfl)) rfl rfl rfl ?_)
           refine SG (Ex.build [S [65], S [98, 32, 99]] Tryz.underlying47 Tryz.zeroValue47 (xplaces47 Tryz.underlying47) rfl rfl) rfl rfl rfl (WR.stepE (v' := .bool true) (Ex.eqlAgg rfl rfl (by kernel_rfl) (xeq47 a25.1 [65] a25.2 [98, 32, 99])) (congrArg Value.bool (decide_eq_true hk26)) (Wn.some rfl rfl rfl) rfl rfl (PT rfl rfl rfl (MV rfl rfl (SG (Ex.move rfl) rfl rfl rfl (PT rfl rfl rfl (MV rfl rfl (GF rfl rfl rfl (GF rfl rfl rfl (PF rfl rfl rfl (AS rfl rfl (NL ?_)))))))))))
           exact WQ.meetN [(0, _)] ⟨rfl, trivial⟩ ⟨_, _, rfl, (H.pick (L' := []) (by repeat first | exact kPn | refine kPc (by repeat first | exact .head | apply Rem.tail) ?_)), hg_errR, hg_errS, hg_maxl, hg_pow10, hg_tabs, e17⟩
          ·
           rw [if_pos rfl] at e17
           refine WR.stepE (v' := .bool true) (Ex.eql rfl rfl) (congrArg Value.bool (decide_eq_true hk19)) (Wn.none rfl) rfl rfl (MV rfl rfl (SG (Ex.fieldAddr Tryz.underlying27 rfl Tryz.sizeOf3 (by decide) rfl) rfl rfl rfl (SG (Ex.load1 H rfl (by repeat first | exact kMh | apply kMt) Tryz.isAgg3 (by rfl)) rfl rfl rfl ?_)))
           refine WR.stepE (v' := .bool true) (Ex.eql rfl rfl) (congrArg Value.bool (decide_eq_true hk20)) (Wn.some rfl rfl rfl) rfl rfl (PT rfl rfl rfl (MV rfl rfl (SG (Ex.fieldAddr Tryz.underlying27 rfl Tryz.sizeOf3 (by decide) rfl) rfl rfl rfl (SG (Ex.load1 H rfl (by repeat first | exact kMh | apply kMt) Tryz.isAgg3 (by rfl)) rfl rfl rfl ?_))))
           refine WR.stepE (v' := .bool true) (Ex.eql rfl rfl) (congrArg Value.bool (decide_eq_true hk21)) (Wn.some rfl rfl rfl) rfl rfl (PT rfl rfl rfl (MV rfl rfl (SG (Ex.move rfl) rfl rfl rfl (WR.stepE (v' := .bool true) (Ex.strEql rfl rfl) (congrArg Value.bool (decide_eq_true hk22)) (Wn.some rfl rfl rfl) rfl rfl (PT rfl rfl rfl (MV rfl rfl (SG (Ex.fieldAddr Tryz.underlying24 rfl Tryz.sizeOf9 (by decide) rfl) rfl rfl rfl (SG (Ex.load1 H rfl (by repeat first | exact kMh | apply kMt) Tryz.isAgg9 (by rfl)) rfl rfl rfl ?_))))))))
           refine WR.stepE (v' := .bool true) (Ex.strEql rfl rfl) (congrArg Value.bool (decide_eq_true hk23)) (Wn.some rfl rfl rfl) rfl rfl (PT rfl rfl rfl (MV rfl rfl (SG (Ex.fieldAddr Tryz.underlying24 rfl Tryz.sizeOf22 (by decide) rfl) rfl rfl rfl (SG (Ex.load1 H rfl (by repeat first | exact kMh | apply kMt) Tryz.isAgg22 (by rfl)) rfl rfl rfl ?_))))
           refine SG (Ex.lenSlS Tryz.underlying22 f16_0_2 rfl) rfl rfl rfl (WR.stepE (v' := .bool true) (Ex.eql rfl rfl) (congrArg Value.bool (decide_eq_true hk24)) (Wn.some rfl rfl rfl) rfl rfl (PT rfl rfl rfl (MV rfl rfl (SG (Ex.fieldAddr Tryz.underlying24 rfl Tryz.sizeOf22 (by decide) rfl) rfl rfl rfl (SG (Ex.load1 H rfl (by repeat first | exact kMh | apply kMt) Tryz.isAgg22 (by rfl)) rfl rfl rfl ?_)))))
           refine SG (Ex.idxAt ha56 Tryz.underlying22 Tryz.sizeOf47 rfl rfl) rfl rfl rfl (SG (Ex.loadAggM H rfl hc56 Tryz.isAgg47 Tryz.sizeOf47 (by rfl)) rfl rfl rfl ?_)
           refine SG (Ex.build [S [65], S [98, 32, 99]] Tryz.underlying47 Tryz.zeroValue47 (xplaces47 Tryz.underlying47) rfl rfl) rfl rfl rfl (WR.stepE (v' := .bool true) (Ex.eqlAgg rfl rfl (by kernel_rfl) (xeq47 a25.1 [65] a25.2 [98, 32, 99])) (congrArg Value.bool (decide_eq_true hk26)) (Wn.some rfl rfl rfl) rfl rfl (PT rfl rfl rfl (MV rfl rfl (SG (Ex.move rfl) rfl rfl rfl (PT rfl rfl rfl (MV rfl rfl (SG (Ex.move rfl) rfl rfl rfl (SG (Ex.strEql rfl rfl) rfl rfl rfl (PT rfl rfl rfl (AS rfl rfl (NL ?_)))))))))))
           exact WQ.meetN [(0, _)] ⟨rfl, trivial⟩ ⟨_, _, rfl, (H.pick (L' := []) (by repeat first | exact kPn | refine kPc (by repeat first | exact .head | apply Rem.tail) ?_)), hg_errR, hg_errS, hg_maxl, hg_pow10, hg_tabs, e17⟩
         ·
          rw [if_neg hk26] at e17
          refine WR.stepE (v' := .bool true) (Ex.eql rfl rfl) (congrArg Value.bool (decide_eq_true hk19)) (Wn.none rfl) rfl rfl (MV rfl rfl (SG (Ex.fieldAddr Tryz.underlying27 rfl Tryz.sizeOf3 (by decide) rfl) rfl rfl rfl (SG (Ex.load1 H rfl (by repeat first | exact kMh | apply kMt) Tryz.isAgg3 (by rfl)) rfl rfl rfl ?_)))
          refine WR.stepE (v' := .bool true) (Ex.eql rfl rfl) (congrArg Value.bool (decide_eq_true hk20)) (Wn.some rfl rfl rfl) rfl rfl (PT rfl rfl rfl (MV rfl rfl (SG (Ex.fieldAddr Tryz.underlying27 rfl Tryz.sizeOf3 (by decide) rfl) rfl rfl rfl (SG (Ex.load1 H rfl (by repeat first | exact kMh | apply kMt) Tryz.isAgg3 (by rfl)) rfl rfl rfl ?_))))
          refine WR.stepE (v' := .bool true) (Ex.eql rfl rfl) (congrArg Value.bool (decide_eq_true hk21)) (Wn.some rfl rfl rfl) rfl rfl (PT rfl rfl rfl (MV rfl rfl (SG (Ex.move rfl) rfl rfl rfl (WR.stepE (v' := .bool true) (Ex.strEql rfl rfl) (congrArg Value.bool (decide_eq_true hk22)) (Wn.some rfl rfl rfl) rfl rfl (PT rfl rfl rfl (MV rfl rfl (SG (Ex.fieldAddr Tryz.underlying24 rfl Tryz.sizeOf9 (by decide) rfl) rfl rfl rfl (SG (Ex.load1 H rfl (by repeat first | exact kMh | apply kMt) Tryz.isAgg9 (by rfl)) rfl rfl rfl ?_))))))))
          refine WR.stepE (v' := .bool true) (Ex.strEql rfl rfl) (congrArg Value.bool (decide_eq_true hk23)) (Wn.some rfl rfl rfl) rfl rfl (PT rfl rfl rfl (MV rfl rfl (SG (Ex.fieldAddr Tryz.underlying24 rfl Tryz.sizeOf22 (by decide) rfl) rfl rfl rfl (SG (Ex.load1 H rfl (by repeat first | exact kMh | apply kMt) Tryz.isAgg22 (by rfl)) rfl rfl rfl ?_))))
          refine SG (Ex.lenSlS Tryz.underlying22 f16_0_2 rfl) rfl rfl rfl (WR.stepE (v' := .bool true) (Ex.eql rfl rfl) (congrArg Value.bool (decide_eq_true hk24)) (Wn.some rfl rfl rfl) rfl rfl (PT rfl rfl rfl (MV rfl rfl (SG (Ex.fieldAddr Tryz.underlying24 rfl Tryz.sizeOf22 (by decide) rfl) rfl rfl rfl (SG (Ex.load1 H rfl (by repeat first | exact kMh | apply kMt) Tryz.isAgg22 (by rfl)) rfl rfl rfl ?_)))))
          refine SG (Ex.idxAt ha56 Tryz.underlying22 Tryz.sizeOf47 rfl rfl) rfl rfl rfl (SG (Ex.loadAggM H rfl hc56 Tryz.isAgg47 Tryz.sizeOf47 (by rfl)) rfl rfl rfl ?_)
          refine SG (Ex.build [S [65], S [98, 32, 99]] Tryz.underlying47 Tryz.zeroValue47 (xplaces47 Tryz.underlying47) rfl rfl) rfl rfl rfl (WR.stepE (v' := .bool false) (Ex.eqlAgg rfl rfl (by kernel_rfl) (xeq47 a25.1 [65] a25.2 [98, 32, 99])) (congrArg Value.bool (decide_eq_false hk26)) (Wn.some rfl rfl rfl) rfl rfl (PT rfl rfl rfl (MV rfl rfl (GF rfl rfl rfl (PF rfl rfl rfl (MV rfl rfl (GF rfl rfl rfl (GF rfl rfl rfl (PF rfl rfl rfl (AS rfl rfl (NL ?_)))))))))))
          exact WQ.meetN [(0, _)] ⟨rfl, trivial⟩ ⟨_, _, rfl, (H.pick (L' := []) (by repeat first | exact kPn | refine kPc (by repeat first | exact .head | apply Rem.tail) ?_)), hg_errR, hg_errS, hg_maxl, hg_pow10, hg_tabs, e17⟩
        ·
         rw [if_neg hk24] at e17
         refine WR.stepE (v' := .bool true) (Ex.eql rfl rfl) (congrArg Value.bool (decide_eq_true hk19)) (Wn.none rfl) rfl rfl (MV rfl rfl (SG (Ex.fieldAddr Tryz.underlying27 rfl Tryz.sizeOf3 (by decide) rfl) rfl rfl rfl (SG (Ex.load1 H rfl (by repeat first | exact kMh | apply kMt) Tryz.isAgg3 (by rfl)) rfl rfl rfl ?_)))
         refine WR.stepE (v' := .bool true) (Ex.eql rfl rfl) (congrArg Value.bool (decide_eq_true hk20)) (Wn.some rfl rfl rfl) rfl rfl (PT rfl rfl rfl (MV rfl rfl (SG (Ex.fieldAddr Tryz.underlying27 rfl Tryz.sizeOf3 (by decide) rfl) rfl rfl rfl (SG (Ex.load1 H rfl (by repeat first | exact kMh | apply kMt) Tryz.isAgg3 (by rfl)) rfl rfl rfl ?_))))
         refine WR.stepE (v' := .bool true) (Ex.eql rfl rfl) (congrArg Value.bool (decide_eq_true hk21)) (Wn.some rfl rfl rfl) rfl rfl (PT rfl rfl rfl (MV rfl rfl (SG (Ex.move rfl) rfl rfl rfl (WR.stepE (v' := .bool true) (Ex.strEql rfl rfl) (congrArg Value.bool (decide_eq_true hk22)) (Wn.some rfl rfl rfl) rfl rfl (PT rfl rfl rfl (MV rfl rfl (SG (Ex.fieldAddr Tryz.underlying24 rfl Tryz.sizeOf9 (by decide) rfl) rfl rfl rfl (SG (Ex.load1 H rfl (by repeat first | exact kMh | apply kMt) Tryz.isAgg9 (by rfl)) rfl rfl rfl ?_))))))))
         refine WR.stepE (v' := .bool true) (Ex.strEql rfl rfl) (congrArg Value.bool (decide_eq_true hk23)) (Wn.some rfl rfl rfl) rfl rfl (PT rfl rfl rfl (MV rfl rfl (SG (Ex.fieldAddr Tryz.underlying24 rfl Tryz.sizeOf22 (by decide) rfl) rfl rfl rfl (SG (Ex.load1 H rfl (by repeat first | exact kMh | apply kMt) Tryz.isAgg22 (by rfl)) rfl rfl rfl ?_))))
         refine SG (Ex.lenSlS Tryz.underlying22 f16_0_2 rfl) rfl rfl rfl (WR.stepE (v' := .bool false) (Ex.eql rfl rfl) (congrArg Value.bool (decide_eq_false hk24)) (Wn.some rfl rfl rfl) rfl rfl (PT rfl rfl rfl (MV rfl rfl (WR.skipN 6 rfl rfl (PF rfl rfl rfl (MV rfl rfl (GF rfl rfl rfl (PF rfl rfl rfl (MV rfl rfl (GF rfl rfl rfl (GF rfl rfl rfl (PF rfl rfl rfl (AS rfl rfl (NL ?_))))))))))))))
         exact WQ.meetN [(0, _)] ⟨rfl, trivial⟩ ⟨_, _, rfl, (H.pick (L' := []) (by repeat first | exact kPn | refine kPc (by repeat first | exact .head | apply Rem.tail) ?_)), hg_errR, hg_errS, hg_maxl, hg_pow10, hg_tabs, e17⟩
       ·
        rw [if_neg hk23] at e17
        refine WR.stepE (v' := .bool true) (Ex.eql rfl rfl) (congrArg Value.bool (decide_eq_true hk19)) (Wn.none rfl) rfl rfl (MV rfl rfl (SG (Ex.fieldAddr Tryz.underlying27 rfl Tryz.sizeOf3 (by decide) rfl) rfl rfl rfl (SG (Ex.load1 H rfl (by repeat first | exact kMh | apply kMt) Tryz.isAgg3 (by rfl)) rfl rfl rfl ?_)))
        refine WR.stepE (v' := .bool true) (Ex.eql rfl rfl) (congrArg Value.bool (decide_eq_true hk20)) (Wn.some rfl rfl rfl) rfl rfl (PT rfl rfl rfl (MV rfl rfl (SG (Ex.fieldAddr Tryz.underlying27 rfl Tryz.sizeOf3 (by decide) rfl) rfl rfl rfl (SG (Ex.load1 H rfl (by repeat first | exact kMh | apply kMt) Tryz.isAgg3 (by rfl)) rfl rfl rfl ?_))))
        refine WR.stepE (v' := .bool true) (Ex.eql rfl rfl) (congrArg Value.bool (decide_eq_true hk21)) (Wn.some rfl rfl rfl) rfl rfl (PT rfl rfl rfl (MV rfl rfl (SG (Ex.move rfl) rfl rfl rfl (WR.stepE (v' := .bool true) (Ex.strEql rfl rfl) (congrArg Value.bool (decide_eq_true hk22)) (Wn.some rfl rfl rfl) rfl rfl (PT rfl rfl rfl (MV rfl rfl (SG (Ex.fieldAddr Tryz.underlying24 rfl Tryz.sizeOf9 (by decide) rfl) rfl rfl rfl (SG (Ex.load1 H rfl (by repeat first | exact kMh | apply kMt) Tryz.isAgg9 (by rfl)) rfl rfl rfl ?_))))))))
        refine WR.stepE (v' := .bool false) (Ex.strEql rfl rfl) (congrArg Value.bool (decide_eq_false hk23)) (Wn.some rfl rfl rfl) rfl rfl (PT rfl rfl rfl (MV rfl rfl (WR.skipN 4 rfl rfl (PF rfl rfl rfl (MV rfl rfl (WR.skipN 6 rfl rfl (PF rfl rfl rfl (MV rfl rfl (GF rfl rfl rfl (PF rfl rfl rfl (MV rfl rfl (GF rfl rfl rfl (GF rfl rfl rfl (PF rfl rfl rfl (AS rfl rfl (NL ?_))))))))))))))))
        exact WQ.meetN [(0, _)] ⟨rfl, trivial⟩ ⟨_, _, rfl, (H.pick (L' := []) (by repeat first | exact kPn | refine kPc (by repeat first | exact .head | apply Rem.tail) ?_)), hg_errR, hg_errS, hg_maxl, hg_pow10, hg_tabs, e17⟩
      ·
       rw [if_neg hk22] at e17
       refine WR.stepE (v' := .bool true) (Ex.eql rfl rfl) (congrArg Value.bool (decide_eq_true hk19)) (Wn.none rfl) rfl rfl (MV rfl rfl (SG (Ex.fieldAddr Tryz.underlying27 rfl Tryz.sizeOf3 (by decide) rfl) rfl rfl rfl (SG (Ex.load1 H rfl (by repeat first | exact kMh | apply kMt) Tryz.isAgg3 (by rfl)) rfl rfl rfl ?_)))
       refine WR.stepE (v' := .bool true) (Ex.eql rfl rfl) (congrArg Value.bool (decide_eq_true hk20)) (Wn.some rfl rfl rfl) rfl rfl (PT rfl rfl rfl (MV rfl rfl (SG (Ex.fieldAddr Tryz.underlying27 rfl Tryz.sizeOf3 (by decide) rfl) rfl rfl rfl (SG (Ex.load1 H rfl (by repeat first | exact kMh | apply kMt) Tryz.isAgg3 (by rfl)) rfl rfl rfl ?_))))
       refine WR.stepE (v' := .bool true) (Ex.eql rfl rfl) (congrArg Value.bool (decide_eq_true hk21)) (Wn.some rfl rfl rfl) rfl rfl (PT rfl rfl rfl (MV rfl rfl (SG (Ex.move rfl) rfl rfl rfl (WR.stepE (v' := .bool false) (Ex.strEql rfl rfl) (congrArg Value.bool (decide_eq_false hk22)) (Wn.some rfl rfl rfl) rfl rfl (PT rfl rfl rfl (MV rfl rfl (WR.skipN 3 rfl rfl (PF rfl rfl rfl (MV rfl rfl (WR.skipN 4 rfl rfl (PF rfl rfl rfl (MV rfl rfl (WR.skipN 6 rfl rfl (PF rfl rfl rfl (MV rfl rfl (GF rfl rfl rfl (PF rfl rfl rfl (MV rfl rfl (GF rfl rfl rfl (GF rfl rfl rfl (PF rfl rfl rfl (AS rfl rfl (NL ?_)))))))))))))))))))))))
       exact WQ.meetN [(0, _)] ⟨rfl, trivial⟩ ⟨_, _, rfl, (H.pick (L' := []) (by repeat first | exact kPn | refine kPc (by repeat first | exact .head | apply Rem.tail) ?_)), hg_errR, hg_errS, hg_maxl, hg_pow10, hg_tabs, e17⟩
     ·
      rw [if_neg hk21] at e17
      refine WR.stepE (v' := .bool true) (Ex.eql rfl rfl) (congrArg Value.bool (decide_eq_true hk19)) (Wn.none rfl) rfl rfl (MV rfl rfl (SG (Ex.fieldAddr Tryz.underlying27 rfl Tryz.sizeOf3 (by decide) rfl) rfl rfl rfl (SG (Ex.load1 H rfl (by repeat first | exact kMh | apply kMt) Tryz.isAgg3 (by rfl)) rfl rfl rfl ?_)))
      refine WR.stepE (v' := .bool true) (Ex.eql rfl rfl) (congrArg Value.bool (decide_eq_true hk20)) (Wn.some rfl rfl rfl) rfl rfl (PT rfl rfl rfl (MV rfl rfl (SG (Ex.fieldAddr Tryz.underlying27 rfl Tryz.sizeOf3 (by decide) rfl) rfl rfl rfl (SG (Ex.load1 H rfl (by repeat first | exact kMh | apply kMt) Tryz.isAgg3 (by rfl)) rfl rfl rfl ?_))))
      refine WR.stepE (v' := .bool false) (Ex.eql rfl rfl) (congrArg Value.bool (decide_eq_false hk21)) (Wn.some rfl rfl rfl) rfl rfl (PT rfl rfl rfl (MV rfl rfl (GF rfl rfl rfl (GF rfl rfl rfl (PF rfl rfl rfl (MV rfl rfl (WR.skipN 3 rfl rfl (PF rfl rfl rfl (MV rfl rfl (WR.skipN 4 rfl rfl (PF rfl rfl rfl (MV rfl rfl (WR.skipN 6 rfl rfl (PF rfl rfl rfl (MV rfl rfl (GF rfl rfl rfl (PF rfl rfl rfl (MV rfl rfl (GF rfl rfl rfl (GF rfl rfl rfl (PF rfl rfl rfl (AS rfl rfl (NL ?_)))))))))))))))))))))))
      exact WQ.meetN [(0, _)] ⟨rfl, trivial⟩ ⟨_, _, rfl, (H.pick (L' := []) (by repeat first | exact kPn | refine kPc (by repeat first | exact .head | apply Rem.tail) ?_)), hg_errR, hg_errS, hg_maxl, hg_pow10, hg_tabs, e17⟩
    ·
     rw [if_neg hk20] at e17
     refine WR.stepE (v' := .bool true) (Ex.eql rfl rfl) (congrArg Value.bool (decide_eq_true hk19)) (Wn.none rfl) rfl rfl (MV rfl rfl (SG (Ex.fieldAddr Tryz.underlying27 rfl Tryz.sizeOf3 (by decide) rfl) rfl rfl rfl (SG (Ex.load1 H rfl (by repeat first | exact kMh | apply kMt) Tryz.isAgg3 (by rfl)) rfl rfl rfl ?_)))
     refine WR.stepE (v' := .bool false) (Ex.eql rfl rfl) (congrArg Value.bool (decide_eq_false hk20)) (Wn.some rfl rfl rfl) rfl rfl (PT rfl rfl rfl (MV rfl rfl (WR.skipN 3 rfl rfl (PF rfl rfl rfl (MV rfl rfl (GF rfl rfl rfl (GF rfl rfl rfl (PF rfl rfl rfl (MV rfl rfl (WR.skipN 3 rfl rfl (PF rfl rfl rfl (MV rfl rfl (WR.skipN 4 rfl rfl (PF rfl rfl rfl (MV rfl rfl (WR.skipN 6 rfl rfl (PF rfl rfl rfl (MV rfl rfl (GF rfl rfl rfl (PF rfl rfl rfl (MV rfl rfl (GF rfl rfl rfl (GF rfl rfl rfl (PF rfl rfl rfl (AS rfl rfl (NL ?_))))))))))))))))))))))))))
     exact WQ.meetN [(0, _)] ⟨rfl, trivial⟩ ⟨_, _, rfl, (H.pick (L' := []) (by repeat first | exact kPn | refine kPc (by repeat first | exact .head | apply Rem.tail) ?_)), hg_errR, hg_errS, hg_maxl, hg_pow10, hg_tabs, e17⟩
   ·
    rw [if_neg hk19] at e17
    refine WR.stepE (v' := .bool false) (Ex.eql rfl rfl) (congrArg Value.bool (decide_eq_false hk19)) (Wn.none rfl) rfl rfl (MV rfl rfl (WR.skipN 3 rfl rfl (PF rfl rfl rfl (MV rfl rfl (WR.skipN 3 rfl rfl (PF rfl rfl rfl (MV rfl rfl (GF rfl rfl rfl (GF rfl rfl rfl (PF rfl rfl rfl (MV rfl rfl (WR.skipN 3 rfl rfl (PF rfl rfl rfl (MV rfl rfl (WR.skipN 4 rfl rfl (PF rfl rfl rfl (MV rfl rfl (WR.skipN 6 rfl rfl (PF rfl rfl rfl (MV rfl rfl (GF rfl rfl rfl (PF rfl rfl rfl (MV rfl rfl (GF rfl rfl rfl (GF rfl rfl rfl (PF rfl rfl rfl (AS rfl rfl (NL ?_))))))))))))))))))))))))))))
    exact WQ.meetN [(0, _)] ⟨rfl, trivial⟩ ⟨_, _, rfl, (H.pick (L' := []) (by repeat first | exact kPn | refine kPc (by repeat first | exact .head | apply Rem.tail) ?_)), hg_errR, hg_errS, hg_maxl, hg_pow10, hg_tabs, e17⟩
  ·
   rintro e w ⟨b18, M, rfl, H, hg_errR, hg_errS, hg_maxl, hg_pow10, hg_tabs, q27⟩
   obtain rfl := oI q27
   refine TN (RT ?_)
   obtain rfl := oI h
   exact WQ.ret1 rfl rfl H.ext rfl
theorem R_In_ct {p0 : Int} {p1 : Int} {p2 : Int} {r : Bool} (h : R_In p0 p1 p2 = some r) : Ct Tryz.prog 20 [I p0, I p1, I p2] (fun M => True) (fun v M => v = Value.bool r) := by
  refine Ct.of Tryz.func20 (enters Tryz.func20 (by kernel_rfl) rfl) rfl rfl rfl ?_
  intro w0 M0 H hp
  unfold R_In at h
  refine SQ (RG (AS rfl rfl (NL (TN (SQ ?_)))))
  obtain ⟨o1, e2, h⟩ := bnd h
  refine WC.cutX (fun e w => ∃ (b3 : Bool) (M : Mem), e = [(6, Value.bool b3)] ∧ St w0 M0 M [] w ∧ some b3 = some o1) [] ?_ ?_ (trivial)
  ·
   refine RG (MV rfl rfl (MV rfl rfl ?_))
   by_cases hk4 : p1 ≤ p0
   ·
    rw [if_pos hk4] at e2
    refine WR.stepE (v' := .bool true) (Ex.geq rfl rfl) (congrArg Value.bool (decide_eq_true hk4)) (Wn.none rfl) rfl rfl (MV rfl rfl (SG (Ex.move rfl) rfl rfl rfl (SG (Ex.move rfl) rfl rfl rfl (SG (Ex.leq rfl rfl) rfl rfl rfl (PT rfl rfl rfl (AS rfl rfl (NL ?_)))))))
    exact WQ.meetN [(6, _)] ⟨rfl, trivial⟩ ⟨_, _, rfl, H, e2⟩
   ·
    rw [if_neg hk4] at e2
    refine WR.stepE (v' := .bool false) (Ex.geq rfl rfl) (congrArg Value.bool (decide_eq_false hk4)) (Wn.none rfl) rfl rfl (MV rfl rfl (WR.skipN 3 rfl rfl (PF rfl rfl rfl (AS rfl rfl (NL ?_)))))
    exact WQ.meetN [(6, _)] ⟨rfl, trivial⟩ ⟨_, _, rfl, H, e2⟩
  ·
   rintro e w ⟨b3, M, rfl, H, q5⟩
   obtain rfl := oI q5
   refine TN (RT ?_)
   obtain rfl := oI h
   exact WQ.ret1 rfl rfl H.ext rfl
theorem R_OneOf_ct {p0 : UInt8} {p1 : List UInt8} {r : Bool} (h : R_OneOf p0 p1 = some r) : Ct Tryz.prog 62 [encB p0, S p1] (fun M => True) (fun v M => v = Value.bool r) := by
  refine Ct.of Tryz.func62 (enters Tryz.func62 (by kernel_rfl) rfl) rfl rfl rfl ?_
  intro w0 M0 H hp
  unfold R_OneOf at h
  refine SQ (RG (AS rfl rfl (NL (TN (SQ (SQ (RG (AS rfl rfl (NL (TN ?_))))))))))
  obtain ⟨o1, e2, h⟩ := bnd h
  refine WC.cutX (fun e w => ∃  (M : Mem), e = [] ∧ St w0 M0 M [] w ∧ some (.inl ()) = some o1) [] ?_ ?_ (trivial)
  ·
   refine BL (WC.loopP (fun m e w => ∃ (n3 : Int) (M : Mem), e = [(0, encB p0), (1, S p1), (5, I n3)] ∧ St w0 M0 M [] w ∧ R_OneOf_L1 p0 p1 m n3 = some o1) FU [(0, _), (1, _), (5, _)] ⟨rfl, rfl, rfl, trivial⟩ ⟨_, _, rfl, H, e2⟩ ?_)
   rintro m4 e w ⟨n3, M, rfl, H, e2⟩
   rcases m4 with _ | m4
   · rw [R_OneOf_L1] at e2; cases e2
   rw [R_OneOf_L1] at e2
   refine SQ (SQ (RG (MV rfl rfl (MV rfl rfl (ST (Ex.lenStr Tryz.underlying9 rfl) rfl (ST (Ex.lss rfl rfl) rfl (NL (TN ?_))))))))
   refine WC.condB rfl (fun hk5 => ?_) (fun hk5 => ?_)
   ·
    replace hk5 : n3 < (p1.length : Int) := of_decide_eq_true hk5
    rw [if_pos hk5] at e2
    refine SK (TN (SQ (BL (SQ ?_))))
    obtain ⟨c6, hxc6, e2⟩ := bnd e2
    refine RG (MV rfl rfl (MV rfl rfl (ST (Ex.idxStrC Tryz.underlying9 rfl rfl hxc6) rfl (MV rfl rfl (ST (Ex.eqlB (c := c6) (d := p0) rfl rfl) rfl (NL (TN ?_)))))))
    refine WC.condB rfl (fun hk7 => ?_) (fun hk7 => ?_)
    ·
     replace hk7 : c6 = p0 := of_decide_eq_true hk7
     rw [if_pos hk7] at e2
     refine SQ (RG (AS rfl rfl (NL (TN (RT ?_)))))
     obtain rfl := oI e2
     try dsimp only at h
     obtain rfl := oI h
     exact WQ.ret1 rfl rfl H.ext rfl
    ·
     replace hk7 : ¬ (c6 = p0) := of_decide_eq_false hk7
     rw [if_neg hk7] at e2
     refine SK (IB (TN ?_))
     obtain ⟨n8, hxn8, e2⟩ := bnd e2
     refine RG (MV rfl rfl (ST (Ex.addC rfl rfl hxn8) rfl (AS rfl rfl (NL ?_))))
     exact WQ.againP m4 [(0, _), (1, _), (5, _)] ⟨rfl, rfl, rfl, trivial⟩ ⟨_, _, rfl, H, e2⟩ (Nat.lt_succ_self _)
   ·
    replace hk5 : ¬ (n3 < (p1.length : Int)) := of_decide_eq_false hk5
    rw [if_neg hk5] at e2
    refine WC.exit (WQ.thenExit (WQ.thenExit (WQ.exitHere ?_)))
    exact WQ.meetN [] trivial ⟨_, rfl, H, e2⟩
  ·
   rintro e w ⟨M, rfl, H, q9⟩
   obtain rfl := oI q9
   try dsimp only at h
   refine TN (SQ (RG (AS rfl rfl (NL (TN (RT ?_))))))
   obtain rfl := oI h
   exact WQ.ret1 rfl rfl H.ext rfl
theorem R_TokenByte_ct {p0 : UInt8} {r : Bool} (h : R_TokenByte p0 = some r) : Ct Tryz.prog 41 [encB p0] (fun M => True) (fun v M => v = Value.bool r) := by
  refine Ct.of Tryz.func41 (enters Tryz.func41 (by kernel_rfl) rfl) rfl rfl rfl ?_
  intro w0 M0 H hp
  unfold R_TokenByte at h
  refine SQ (RG (AS rfl rfl (NL (TN (SQ ?_)))))
  obtain ⟨o1, e2, h⟩ := bnd h
  refine WC.cutX (fun e w => ∃ (b3 : Bool) (M : Mem), e = [(2, Value.bool b3)] ∧ St w0 M0 M [] w ∧ some b3 = some o1) [] ?_ ?_ (trivial)
  ·
   obtain ⟨b4, hx5, e2⟩ := bnd e2
   refine RG (MV rfl rfl (ST (Ex.convB Tryz.underlying5 Tryz.underlying3 rfl) rfl (WR.call H (R_In_ct hx5) rfl trivial (Wn.none rfl) rfl ?_)))
   intro v5 M w H hle hR
   obtain rfl := hR
   refine MV rfl rfl ?_
   rcases b4 with _ | _
   ·
    rw [if_neg Bool.false_ne_true] at e2
    refine WR.skipN 3 rfl rfl (PF rfl rfl rfl (AS rfl rfl (NL ?_)))
    exact WQ.meetN [(2, _)] ⟨rfl, trivial⟩ ⟨_, _, rfl, H, e2⟩
   ·
    rw [if_pos rfl] at e2
    obtain ⟨b6, hx7, e2⟩ := bnd e2
    refine SG (Ex.move rfl) rfl rfl rfl (WR.call H (R_OneOf_ct hx7) rfl trivial (Wn.some rfl rfl rfl) rfl ?_)
    intro v8 M w H hle hR
    obtain rfl := hR
    refine SG (Ex.not rfl) rfl rfl rfl (PT rfl rfl rfl (AS rfl rfl (NL ?_)))
    exact WQ.meetN [(2, _)] ⟨rfl, trivial⟩ ⟨_, _, rfl, H, e2⟩
  ·
   rintro e w ⟨b3, M, rfl, H, q8⟩
   obtain rfl := oI q8
   refine TN (RT ?_)
   obtain rfl := oI h
   exact WQ.ret1 rfl rfl H.ext rfl
theorem R_TokenText_ct {p0 : List UInt8} {r : Bool} (h : R_TokenText p0 = some r) : Ct Tryz.prog 21 [S p0] (fun M => True) (fun v M => v = Value.bool r) := by
  refine Ct.of Tryz.func21 (enters Tryz.func21 (by kernel_rfl) rfl) rfl rfl rfl ?_
  intro w0 M0 H hp
  unfold R_TokenText at h
  refine SQ (RG (AS rfl rfl (NL (TN (SQ (SQ (RG (AS rfl rfl (NL (TN ?_))))))))))
  obtain ⟨o1, e2, h⟩ := bnd h
  refine WC.cutX (fun e w => ∃  (M : Mem), e = [(0, S p0)] ∧ St w0 M0 M [] w ∧ some (.inl ()) = some o1) [] ?_ ?_ (trivial)
  ·
   refine BL (WC.loopP (fun m e w => ∃ (n3 : Int) (M : Mem), e = [(0, S p0), (3, I n3)] ∧ St w0 M0 M [] w ∧ R_TokenText_L1 p0 m n3 = some o1) FU [(0, _), (3, _)] ⟨rfl, rfl, trivial⟩ ⟨_, _, rfl, H, e2⟩ ?_)
   rintro m4 e w ⟨n3, M, rfl, H, e2⟩
   rcases m4 with _ | m4
   · rw [R_TokenText_L1] at e2; cases e2
   rw [R_TokenText_L1] at e2
   refine SQ (SQ (RG (MV rfl rfl (MV rfl rfl (ST (Ex.lenStr Tryz.underlying9 rfl) rfl (ST (Ex.lss rfl rfl) rfl (NL (TN ?_))))))))
   refine WC.condB rfl (fun hk5 => ?_) (fun hk5 => ?_)
   ·
    replace hk5 : n3 < (p0.length : Int) := of_decide_eq_true hk5
    rw [if_pos hk5] at e2
    refine SK (TN (SQ (BL (SQ ?_))))
    obtain ⟨c6, hxc6, e2⟩ := bnd e2
    obtain ⟨b7, hx8, e2⟩ := bnd e2
    refine RG (MV rfl rfl (MV rfl rfl (ST (Ex.idxStrC Tryz.underlying9 rfl rfl hxc6) rfl (WR.call H (R_TokenByte_ct hx8) rfl trivial (Wn.none rfl) rfl ?_))))
    intro v13 M w H hle hR
    obtain rfl := hR
    refine ST (Ex.not rfl) rfl (NL (TN ?_))
    refine WC.condB rfl (fun hk9 => ?_) (fun hk9 => ?_)
    ·
     replace hk9 : b7 = false := by simpa using hk9
     subst hk9
     rw [if_neg Bool.false_ne_true] at e2
     refine SQ (RG (AS rfl rfl (NL (TN (RT ?_)))))
     obtain rfl := oI e2
     try dsimp only at h
     obtain rfl := oI h
     exact WQ.ret1 rfl rfl H.ext rfl
    ·
     replace hk9 : b7 = true := by simpa using hk9
     subst hk9
     rw [if_pos rfl] at e2
     refine SK (IB (TN ?_))
     obtain ⟨n10, hxn10, e2⟩ := bnd e2
     refine RG (MV rfl rfl (ST (Ex.addC rfl rfl hxn10) rfl (AS rfl rfl (NL ?_))))
     exact WQ.againP m4 [(0, _), (3, _)] ⟨rfl, rfl, trivial⟩ ⟨_, _, rfl, H, e2⟩ (Nat.lt_succ_self _)
   ·
    replace hk5 : ¬ (n3 < (p0.length : Int)) := of_decide_eq_false hk5
    rw [if_neg hk5] at e2
    refine WC.exit (WQ.thenExit (WQ.thenExit (WQ.exitHere ?_)))
    exact WQ.meetN [(0, _)] ⟨rfl, trivial⟩ ⟨_, rfl, H, e2⟩
  ·
   rintro e w ⟨M, rfl, H, q11⟩
   obtain rfl := oI q11
   try dsimp only at h
   refine TN (SQ ?_)
   obtain ⟨b12, hx13, h⟩ := bnd h
   refine RG (MV rfl rfl (ST (Ex.lenStr Tryz.underlying9 rfl) rfl (WR.call H (R_In_ct hx13) rfl trivial (Wn.none rfl) rfl ?_)))
   intro v17 M w H hle hR
   obtain rfl := hR
   refine AS rfl rfl (NL (TN (RT ?_)))
   obtain rfl := oI h
   exact WQ.ret1 rfl rfl H.ext rfl
theorem R_At_ct {p0 : Int} {p1 : Int} {r : (Int × Int)} (h : R_At p0 p1 = some r) : Ct Tryz.prog 14 [I p0, I p1] (fun M => True) (fun v M => v = Value.agg #[I r.1, I r.2]) := by
  refine Ct.of Tryz.func14 (enters Tryz.func14 (by kernel_rfl) rfl) rfl rfl rfl ?_
  intro w0 M0 H hp
  unfold R_At at h
  refine SQ (RG (WR.alloc [_, _] H Tryz.zeroValue27 rfl (Wn.none rfl) rfl ?_))
  intro bk4 w H
  refine NL (TN (SQ (RG (MV rfl rfl (MV rfl rfl (ST (Ex.build [I p0, I p1] Tryz.underlying27 Tryz.zeroValue27 (xplaces27 Tryz.underlying27) rfl rfl) rfl (WR.store [_, _] H rfl rfl rfl (by repeat first | exact .head | apply Upd.tail) Tryz.sizeOf27 rfl (by rfl) (by rfl) (Wn.none rfl) ?_)))))))
  intro w H
  refine NL (TN (RT ?_))
  obtain rfl := oI h
  exact WQ.ret1 rfl ⟨_, rfl, H.loadAgg (by repeat first | exact kMh | apply kMt) Tryz.isAgg27 Tryz.sizeOf27 (by rfl)⟩ H.ext rfl
end Go.Proofs.YtegkhjbajijidaaGreatDoor
end
section
namespace Go.Proofs.YtegkhjbajijidaaGreatDoor
open Go Go.RowKit Go.Ph Go.Ph.Pl Go.Ph.Pf
theorem R_MediaFault_ct {p0 : (List UInt8 × List UInt8 × List (List UInt8 × List UInt8))} {vp0_2 : Value} {r : (Int × Int)} (h : R_MediaFault p0 = some r) : Ct Tryz.prog 11 [Value.agg #[S p0.1, S p0.2.1, vp0_2]] (fun M => SlS M 2 xenc47 vp0_2 p0.2.2) (fun v M => v = Value.agg #[I r.1, I r.2]) := by
  refine Ct.of Tryz.func11 (enters Tryz.func11 (by kernel_rfl) rfl) rfl rfl rfl ?_
  intro w0 M0 H hp
  have hp0_2 := hp
  unfold R_MediaFault at h
  refine SQ (RG (WR.box [_, _, _] H rfl rfl (Wn.none rfl) rfl ?_))
  intro bk1 w H
  refine WR.alloc [_, _] H Tryz.zeroValue27 rfl (Wn.none rfl) rfl ?_
  intro bk2 w H
  refine NL (TN (SQ (SQ ?_)))
  obtain ⟨o1, e2, h⟩ := bnd h
  refine WC.cutX (fun e w => ∃ (b3 : Bool) (M : Mem), e = [(1, ptr bk1 0), (2, ptr bk2 0), (15, Value.bool b3)] ∧ St w0 M0 M [.blk bk1 (.cells #[S p0.1, S p0.2.1, vp0_2] 24), .blk bk2 (.cells #[I 0, I 0] 27)] w ∧ SlS M 2 xenc47 vp0_2 p0.2.2 ∧ some b3 = some o1) [] ?_ ?_ (trivial)
  ·
   obtain ⟨b4, hx5, e2⟩ := bnd e2
   refine RG (ST (Ex.fieldAddr Tryz.underlying24 rfl Tryz.sizeOf9 (by decide) rfl) rfl (ST (Ex.load1 H rfl (by repeat first | exact kMh | apply kMt) Tryz.isAgg9 (by rfl)) rfl ?_))
   refine WR.call H (R_TokenText_ct hx5) rfl trivial (Wn.none rfl) rfl ?_
   intro v8 M w H hle hR
   replace hp0_2 := hp0_2.mono hle
   obtain rfl := hR
   refine ST (Ex.not rfl) rfl (MV rfl rfl ?_)
   rcases b4 with _ | _
   ·
    rw [if_neg Bool.false_ne_true] at e2
    refine WR.skipN 4 rfl rfl (PT rfl rfl rfl (NL ?_))
    exact WQ.meetN [(1, _), (2, _), (15, _)] ⟨rfl, rfl, rfl, trivial⟩ ⟨_, _, rfl, (H.pick (L' := [.blk bk1 (.cells #[S p0.1, S p0.2.1, vp0_2] 24), .blk bk2 (.cells #[I 0, I 0] 27)]) (by repeat first | exact kPn | refine kPc (by repeat first | exact .head | apply Rem.tail) ?_)), hp0_2, e2⟩
   ·
    rw [if_pos rfl] at e2
    obtain ⟨b6, hx7, e2⟩ := bnd e2
    refine SG (Ex.fieldAddr Tryz.underlying24 rfl Tryz.sizeOf9 (by decide) rfl) rfl rfl rfl (SG (Ex.load1 H rfl (by repeat first | exact kMh | apply kMt) Tryz.isAgg9 (by rfl)) rfl rfl rfl ?_)
    refine WR.call H (R_TokenText_ct hx7) rfl trivial (Wn.some rfl rfl rfl) rfl ?_
    intro v13 M w H hle hR
    replace hp0_2 := hp0_2.mono hle
    obtain rfl := hR
    refine SG (Ex.not rfl) rfl rfl rfl (PF rfl rfl rfl (NL ?_))
    exact WQ.meetN [(1, _), (2, _), (15, _)] ⟨rfl, rfl, rfl, trivial⟩ ⟨_, _, rfl, (H.pick (L' := [.blk bk1 (.cells #[S p0.1, S p0.2.1, vp0_2] 24), .blk bk2 (.cells #[I 0, I 0] 27)]) (by repeat first | exact kPn | refine kPc (by repeat first | exact .head | apply Rem.tail) ?_)), hp0_2, e2⟩
  ·
   rintro e w ⟨b3, M, rfl, H, hp0_2, q8⟩
   obtain rfl := oI q8
   refine TN ?_
   refine WC.condB rfl (fun hk9 => ?_) (fun hk9 => ?_)
   ·
    subst hk9
    rw [if_pos rfl] at h
    refine SQ ?_
    obtain ⟨⟨n10, n11⟩, hx12, h⟩ := bnd h
    try dsimp only at h
    refine RG (WR.call H (R_At_ct hx12) rfl trivial (Wn.none rfl) rfl ?_)
    intro v16 M w H hle hR
    replace hp0_2 := hp0_2.mono hle
    try dsimp only at hR
    obtain rfl := hR
    refine WR.store [_, _] H rfl rfl rfl (by repeat first | exact .head | apply Upd.tail) Tryz.sizeOf27 rfl (by rfl) (by rfl) (Wn.none rfl) ?_
    intro w H
    refine NL (TN (RT ?_))
    obtain rfl := oI h
    exact WQ.ret1 rfl ⟨_, rfl, H.loadAgg (by repeat first | exact kMh | apply kMt) Tryz.isAgg27 Tryz.sizeOf27 (by rfl)⟩ H.ext rfl
   ·
    subst hk9
    rw [if_neg Bool.false_ne_true] at h
    refine SK (TN (SQ (SQ (RG (ST (Ex.fieldAddr Tryz.underlying24 rfl Tryz.sizeOf22 (by decide) rfl) rfl (ST (Ex.load1 H rfl (by repeat first | exact kMh | apply kMt) Tryz.isAgg22 (by rfl)) rfl ?_))))))
    refine ST (Ex.lenSlS Tryz.underlying22 hp0_2 rfl) rfl (ST (Ex.gtr rfl rfl) rfl (NL (TN ?_)))
    refine WC.condB rfl (fun hk13 => ?_) (fun hk13 => ?_)
    ·
     replace hk13 : (60 : Int) < (p0.2.2.length : Int) := of_decide_eq_true hk13
     rw [if_pos hk13] at h
     refine SQ ?_
     obtain ⟨⟨n14, n15⟩, hx16, h⟩ := bnd h
     try dsimp only at h
     refine RG (WR.call H (R_At_ct hx16) rfl trivial (Wn.none rfl) rfl ?_)
     intro v21 M w H hle hR
     replace hp0_2 := hp0_2.mono hle
     try dsimp only at hR
     obtain rfl := hR
     refine WR.store [_, _] H rfl rfl rfl (by repeat first | exact .head | apply Upd.tail) Tryz.sizeOf27 rfl (by rfl) (by rfl) (Wn.none rfl) ?_
     intro w H
     refine NL (TN (RT ?_))
     obtain rfl := oI h
     exact WQ.ret1 rfl ⟨_, rfl, H.loadAgg (by repeat first | exact kMh | apply kMt) Tryz.isAgg27 Tryz.sizeOf27 (by rfl)⟩ H.ext rfl
    ·
     replace hk13 : ¬ ((60 : Int) < (p0.2.2.length : Int)) := of_decide_eq_false hk13
     rw [if_neg hk13] at h
     refine SK (TN (SQ (SQ (RG (AS rfl rfl (NL (TN ?_)))))))
     obtain ⟨o17, e18, h⟩ := bnd h
     refine WC.cutX (fun e w => ∃ (n19 : Int) (n20 : Int) (M : Mem), e = [(2, ptr bk2 0)] ∧ St w0 M0 M [.blk bk2 (.cells #[I n19, I n20] 27)] w ∧ some (.inl (n19, n20)) = some o17) [] ?_ ?_ (trivial)
     ·
      refine BL (WC.loopP (fun m e w => ∃ (n21 : Int) (n22 : Int) (n23 : Int) (M : Mem), e = [(1, ptr bk1 0), (2, ptr bk2 0), (3, I n23)] ∧ St w0 M0 M [.blk bk1 (.cells #[S p0.1, S p0.2.1, vp0_2] 24), .blk bk2 (.cells #[I n21, I n22] 27)] w ∧ SlS M 2 xenc47 vp0_2 p0.2.2 ∧ R_MediaFault_L1 p0 m n21 n22 n23 = some o17) FU [(1, _), (2, _), (3, _)] ⟨rfl, rfl, rfl, trivial⟩ ⟨_, _, _, _, rfl, H, hp0_2, e18⟩ ?_)
      rintro m24 e w ⟨n21, n22, n23, M, rfl, H, hp0_2, e18⟩
      rcases m24 with _ | m24
      · rw [R_MediaFault_L1] at e18; cases e18
      rw [R_MediaFault_L1] at e18
      refine SQ (SQ (RG (MV rfl rfl (ST (Ex.fieldAddr Tryz.underlying24 rfl Tryz.sizeOf22 (by decide) rfl) rfl (ST (Ex.load1 H rfl (by repeat first | exact kMh | apply kMt) Tryz.isAgg22 (by rfl)) rfl ?_)))))
      refine ST (Ex.lenSlS Tryz.underlying22 hp0_2 rfl) rfl (ST (Ex.lss rfl rfl) rfl (NL (TN ?_)))
      refine WC.condB rfl (fun hk25 => ?_) (fun hk25 => ?_)
      ·
       replace hk25 : n23 < (p0.2.2.length : Int) := of_decide_eq_true hk25
       rw [if_pos hk25] at e18
       refine SK (TN (SQ (BL (SQ ?_))))
       obtain ⟨a26, hxa26, e18⟩ := bnd e18
       obtain ⟨bk32, o32, ha32, hc32⟩ := hp0_2.atC hxa26
       refine RG (ST (Ex.fieldAddr Tryz.underlying24 rfl Tryz.sizeOf22 (by decide) rfl) rfl (ST (Ex.load1 H rfl (by repeat first | exact kMh | apply kMt) Tryz.isAgg22 (by rfl)) rfl ?_))
       refine MV rfl rfl (ST (Ex.idxAt ha32 Tryz.underlying22 Tryz.sizeOf47 rfl rfl) rfl (ST (Ex.loadAggM H rfl hc32 Tryz.isAgg47 Tryz.sizeOf47 (by rfl)) rfl ?_))
       refine WR.alloc [_, _] H Tryz.zeroValue47 rfl (Wn.none rfl) rfl ?_
       intro bk4 w H
       refine WR.store [_, _] H rfl rfl rfl (by repeat first | exact .head | apply Upd.tail) Tryz.sizeOf47 rfl (by rfl) (by rfl) (Wn.none rfl) ?_
       intro w H
       refine NL (TN (SQ (SQ ?_)))
       obtain ⟨o27, e28, e18⟩ := bnd e18
       refine WC.cutX (fun e w => ∃ (b29 : Bool) (M : Mem), e = [(1, ptr bk1 0), (2, ptr bk2 0), (3, I n23), (4, ptr bk4 0), (43, Value.bool b29)] ∧ St w0 M0 M [.blk bk1 (.cells #[S p0.1, S p0.2.1, vp0_2] 24), .blk bk2 (.cells #[I n21, I n22] 27), .blk bk4 (.cells #[S a26.1, S a26.2] 47)] w ∧ SlS M 2 xenc47 vp0_2 p0.2.2 ∧ some b29 = some o27) [] ?_ ?_ (trivial)
       ·
        obtain ⟨b30, hx31, e28⟩ := bnd e28
        refine RG (ST (Ex.fieldAddr Tryz.underlying47 rfl Tryz.sizeOf9 (by decide) rfl) rfl (ST (Ex.load1 H rfl (by repeat first | exact kMh | apply kMt) Tryz.isAgg9 (by rfl)) rfl ?_))
        refine WR.call H (R_TokenText_ct hx31) rfl trivial (Wn.none rfl) rfl ?_
        intro v36 M w H hle hR
        replace hp0_2 := hp0_2.mono hle
        replace hc32 := hc32.mono hle
        obtain rfl := hR
        refine ST (Ex.not rfl) rfl (MV rfl rfl ?_)
        rcases b30 with _ | _
        ·
         rw [if_neg Bool.false_ne_true] at e28
         refine WR.skipN 4 rfl rfl (PT rfl rfl rfl (NL ?_))
         exact WQ.meetN [(1, _), (2, _), (3, _), (4, _), (43, _)] ⟨rfl, rfl, rfl, rfl, rfl, trivial⟩ ⟨_, _, rfl, (H.pick (L' := [.blk bk1 (.cells #[S p0.1, S p0.2.1, vp0_2] 24), .blk bk2 (.cells #[I n21, I n22] 27), .blk bk4 (.cells #[S a26.1, S a26.2] 47)]) (by repeat first | exact kPn | refine kPc (by repeat first | exact .head | apply Rem.tail) ?_)), hp0_2, e28⟩
        ·
         rw [if_pos rfl] at e28
         refine SG (Ex.fieldAddr Tryz.underlying47 rfl Tryz.sizeOf9 (by decide) rfl) rfl rfl rfl (SG (Ex.load1 H rfl (by repeat first | exact kMh | apply kMt) Tryz.isAgg9 (by rfl)) rfl rfl rfl ?_)
         refine SG (Ex.lenStr Tryz.underlying9 rfl) rfl rfl rfl (SG (Ex.gtr rfl rfl) rfl rfl rfl (PF rfl rfl rfl (NL ?_)))
         exact WQ.meetN [(1, _), (2, _), (3, _), (4, _), (43, _)] ⟨rfl, rfl, rfl, rfl, rfl, trivial⟩ ⟨_, _, rfl, (H.pick (L' := [.blk bk1 (.cells #[S p0.1, S p0.2.1, vp0_2] 24), .blk bk2 (.cells #[I n21, I n22] 27), .blk bk4 (.cells #[S a26.1, S a26.2] 47)]) (by repeat first | exact kPn | refine kPc (by repeat first | exact .head | apply Rem.tail) ?_)), hp0_2, e28⟩
       ·
        rintro e w ⟨b29, M, rfl, H, hp0_2, q32⟩
        obtain rfl := oI q32
        refine TN ?_
        refine WC.condB rfl (fun hk33 => ?_) (fun hk33 => ?_)
        ·
         subst hk33
         rw [if_pos rfl] at e18
         refine SQ ?_
         obtain ⟨⟨n34, n35⟩, hx36, e18⟩ := bnd e18
         try dsimp only at e18
         refine RG (MV rfl rfl (WR.call H (R_At_ct hx36) rfl trivial (Wn.none rfl) rfl ?_))
         intro v45 M w H hle hR
         replace hp0_2 := hp0_2.mono hle
         try dsimp only at hR
         obtain rfl := hR
         refine WR.store [_, _] H rfl rfl rfl (by repeat first | exact .head | apply Upd.tail) Tryz.sizeOf27 rfl (by rfl) (by rfl) (Wn.none rfl) ?_
         intro w H
         refine NL (TN (RT ?_))
         obtain rfl := oI e18
         try dsimp only at h
         obtain rfl := oI h
         exact WQ.ret1 rfl ⟨_, rfl, H.loadAgg (by repeat first | exact kMh | apply kMt) Tryz.isAgg27 Tryz.sizeOf27 (by rfl)⟩ H.ext rfl
        ·
         subst hk33
         rw [if_neg Bool.false_ne_true] at e18
         refine SK (TN (SQ (SQ (RG (AS rfl rfl (NL (TN ?_)))))))
         obtain ⟨o37, e38, e18⟩ := bnd e18
         refine WC.cutX (fun e w => ∃ (n39 : Int) (n40 : Int) (M : Mem), e = [(1, ptr bk1 0), (2, ptr bk2 0), (3, I n23), (4, ptr bk4 0)] ∧ St w0 M0 M [.blk bk1 (.cells #[S p0.1, S p0.2.1, vp0_2] 24), .blk bk2 (.cells #[I n39, I n40] 27), .blk bk4 (.cells #[S a26.1, S a26.2] 47)] w ∧ SlS M 2 xenc47 vp0_2 p0.2.2 ∧ some (.inl (n39, n40)) = some o37) [] ?_ ?_ (trivial)
         ·
          refine BL (WC.loopP (fun m e w => ∃ (n41 : Int) (n42 : Int) (n43 : Int) (M : Mem), e = [(1, ptr bk1 0), (2, ptr bk2 0), (3, I n23), (4, ptr bk4 0), (5, I n43)] ∧ St w0 M0 M [.blk bk1 (.cells #[S p0.1, S p0.2.1, vp0_2] 24), .blk bk2 (.cells #[I n41, I n42] 27), .blk bk4 (.cells #[S a26.1, S a26.2] 47)] w ∧ SlS M 2 xenc47 vp0_2 p0.2.2 ∧ R_MediaFault_L2 p0 n23 a26 m n41 n42 n43 = some o37) FU [(1, _), (2, _), (3, _), (4, _), (5, _)] ⟨rfl, rfl, rfl, rfl, rfl, trivial⟩ ⟨_, _, _, _, rfl, H, hp0_2, e38⟩ ?_)
          rintro m44 e w ⟨n41, n42, n43, M, rfl, H, hp0_2, e38⟩
          rcases m44 with _ | m44
          · rw [R_MediaFault_L2] at e38; cases e38
          rw [R_MediaFault_L2] at e38
          refine SQ (SQ (RG (MV rfl rfl (MV rfl rfl (ST (Ex.lss rfl rfl) rfl (NL (TN ?_)))))))
          refine WC.condB rfl (fun hk45 => ?_) (fun hk45 => ?_)
          ·
           replace hk45 : n43 < n23 := of_decide_eq_true hk45
           rw [if_pos hk45] at e38
           refine SK (TN (SQ (BL (SQ ?_))))
           obtain ⟨a46, hxa46, e38⟩ := bnd e38
           obtain ⟨bk54, o54, ha54, hc54⟩ := hp0_2.atC hxa46
           obtain ⟨b47, hx48, e38⟩ := bnd e38
           refine WC.draw (m := 9) rfl rfl H ?_
           intro w H
           refine WA.take (i := 0) rfl (by kernel_rfl) (by kernel_rfl) (by kernel_rfl) (fun _ => Ex.fieldAddr Tryz.underlying24 rfl Tryz.sizeOf22 (by decide) rfl) (Wn.none rfl) rfl rfl (fun _ _ => rfl) (WA.take (i := 2) rfl (by kernel_rfl) (by kernel_rfl) (by kernel_rfl) (fun _ => Ex.move rfl) (Wn.none rfl) rfl rfl (fun _ _ => rfl) (WA.take (i := 6) rfl (by kernel_rfl) (by kernel_rfl) (by kernel_rfl) (fun _ => Ex.fieldAddr Tryz.underlying47 rfl Tryz.sizeOf9 (by decide) rfl) (Wn.none rfl) rfl rfl (fun _ _ => rfl) (WA.takeM (i := 1) [7] rfl (by kernel_rfl) (by kernel_rfl) (by kernel_rfl) (Ex.load1 H rfl (by repeat first | exact kMh | apply kMt) Tryz.isAgg22 (by rfl)) (Wn.none rfl) rfl rfl (fun _ _ => rfl) ?_)))
           refine WA.take (i := 3) rfl (by kernel_rfl) (by kernel_rfl) (by kernel_rfl) (fun _ => Ex.idxAt ha54 Tryz.underlying22 Tryz.sizeOf47 rfl rfl) (Wn.none rfl) rfl rfl (fun _ _ => rfl) (WA.take (i := 4) rfl (by kernel_rfl) (by kernel_rfl) (by kernel_rfl) (fun _ => Ex.fieldAddr Tryz.underlying47 rfl Tryz.sizeOf9 (by decide) rfl) (Wn.none rfl) rfl rfl (fun _ _ => rfl) (WA.takeM (i := 5) [7] rfl (by kernel_rfl) (by kernel_rfl) (by kernel_rfl) (Ex.loadM H rfl (hc54.at (j := 0) rfl) Tryz.isAgg9) (Wn.none rfl) rfl rfl (fun _ _ => rfl) (WA.seq (fuel := 0) [7, 8] rfl (by kernel_rfl) (ST (Ex.load1 H rfl (by repeat first | exact kMh | apply kMt) Tryz.isAgg9 (by rfl)) rfl ?_))))
           refine WR.call H (R_Alike_ct hx48) rfl trivial (Wn.none rfl) rfl ?_
           intro v59 M w H hle hR
           replace hp0_2 := hp0_2.mono hle
           replace hc54 := hc54.mono hle
           obtain rfl := hR
           refine NA (WA.done (by kernel_rfl) (TN ?_))
           refine WC.condB rfl (fun hk49 => ?_) (fun hk49 => ?_)
           ·
            subst hk49
            rw [if_pos rfl] at e38
            refine SQ ?_
            obtain ⟨⟨n50, n51⟩, hx52, e38⟩ := bnd e38
            try dsimp only at e38
            refine RG (MV rfl rfl (WR.call H (R_At_ct hx52) rfl trivial (Wn.none rfl) rfl ?_))
            intro v61 M w H hle hR
            replace hp0_2 := hp0_2.mono hle
            replace hc54 := hc54.mono hle
            try dsimp only at hR
            obtain rfl := hR
            refine WR.store [_, _] H rfl rfl rfl (by repeat first | exact .head | apply Upd.tail) Tryz.sizeOf27 rfl (by rfl) (by rfl) (Wn.none rfl) ?_
            intro w H
            refine NL (TN (RT ?_))
            obtain rfl := oI e38
            try dsimp only at e18
            obtain rfl := oI e18
            try dsimp only at h
            obtain rfl := oI h
            exact WQ.ret1 rfl ⟨_, rfl, H.loadAgg (by repeat first | exact kMh | apply kMt) Tryz.isAgg27 Tryz.sizeOf27 (by rfl)⟩ H.ext rfl
           ·
            subst hk49
            rw [if_neg Bool.false_ne_true] at e38
            refine SK (IB (TN ?_))
            obtain ⟨n53, hxn53, e38⟩ := bnd e38
            refine RG (MV rfl rfl (ST (Ex.addC rfl rfl hxn53) rfl (AS rfl rfl (NL ?_))))
            exact WQ.againP m44 [(1, _), (2, _), (3, _), (4, _), (5, _)] ⟨rfl, rfl, rfl, rfl, rfl, trivial⟩ ⟨_, _, _, _, rfl, H, hp0_2, e38⟩ (Nat.lt_succ_self _)
          ·
           replace hk45 : ¬ (n43 < n23) := of_decide_eq_false hk45
           rw [if_neg hk45] at e38
           refine WC.exit (WQ.thenExit (WQ.thenExit (WQ.exitHere ?_)))
           exact WQ.meetN [(1, _), (2, _), (3, _), (4, _)] ⟨rfl, rfl, rfl, rfl, trivial⟩ ⟨_, _, _, rfl, H, hp0_2, e38⟩
         ·
          rintro e w ⟨n39, n40, M, rfl, H, hp0_2, q54⟩
          obtain rfl := oI q54
          try dsimp only at e18
          refine TN (SQ (SQ (RG (ST (Ex.fieldAddr Tryz.underlying47 rfl Tryz.sizeOf9 (by decide) rfl) rfl (ST (Ex.load1 H rfl (by repeat first | exact kMh | apply kMt) Tryz.isAgg9 (by rfl)) rfl ?_)))))
          refine ST (Ex.lenStr Tryz.underlying9 rfl) rfl (ST (Ex.gtr rfl rfl) rfl (NL (TN ?_)))
          refine WC.condB rfl (fun hk55 => ?_) (fun hk55 => ?_)
          ·
           replace hk55 : (500 : Int) < (a26.2.length : Int) := of_decide_eq_true hk55
           rw [if_pos hk55] at e18
           refine SQ ?_
           obtain ⟨⟨n56, n57⟩, hx58, e18⟩ := bnd e18
           try dsimp only at e18
           refine RG (MV rfl rfl (WR.call H (R_At_ct hx58) rfl trivial (Wn.none rfl) rfl ?_))
           intro v67 M w H hle hR
           replace hp0_2 := hp0_2.mono hle
           try dsimp only at hR
           obtain rfl := hR
           refine WR.store [_, _] H rfl rfl rfl (by repeat first | exact .head | apply Upd.tail) Tryz.sizeOf27 rfl (by rfl) (by rfl) (Wn.none rfl) ?_
           intro w H
           refine NL (TN (RT ?_))
           obtain rfl := oI e18
           try dsimp only at h
           obtain rfl := oI h
           exact WQ.ret1 rfl ⟨_, rfl, H.loadAgg (by repeat first | exact kMh | apply kMt) Tryz.isAgg27 Tryz.sizeOf27 (by rfl)⟩ H.ext rfl
          ·
           replace hk55 : ¬ ((500 : Int) < (a26.2.length : Int)) := of_decide_eq_false hk55
           rw [if_neg hk55] at e18
           refine SK (TN (SQ ?_))
           obtain ⟨b59, hx60, e18⟩ := bnd e18
           refine RG (ST (Ex.fieldAddr Tryz.underlying47 rfl Tryz.sizeOf9 (by decide) rfl) rfl (ST (Ex.load1 H rfl (by repeat first | exact kMh | apply kMt) Tryz.isAgg9 (by rfl)) rfl ?_))
           refine WR.call H (R_Valid_ct hx60) rfl trivial (Wn.none rfl) rfl ?_
           intro v70 M w H hle hR
           replace hp0_2 := hp0_2.mono hle
           obtain rfl := hR
           refine ST (Ex.not rfl) rfl (NL (TN ?_))
           refine WC.condB rfl (fun hk61 => ?_) (fun hk61 => ?_)
           ·
            replace hk61 : b59 = false := by simpa using hk61
            subst hk61
            rw [if_neg Bool.false_ne_true] at e18
            refine SQ ?_
            obtain ⟨⟨n62, n63⟩, hx64, e18⟩ := bnd e18
            try dsimp only at e18
            refine RG (MV rfl rfl (WR.call H (R_At_ct hx64) rfl trivial (Wn.none rfl) rfl ?_))
            intro v73 M w H hle hR
            replace hp0_2 := hp0_2.mono hle
            try dsimp only at hR
            obtain rfl := hR
            refine WR.store [_, _] H rfl rfl rfl (by repeat first | exact .head | apply Upd.tail) Tryz.sizeOf27 rfl (by rfl) (by rfl) (Wn.none rfl) ?_
            intro w H
            refine NL (TN (RT ?_))
            obtain rfl := oI e18
            try dsimp only at h
            obtain rfl := oI h
            exact WQ.ret1 rfl ⟨_, rfl, H.loadAgg (by repeat first | exact kMh | apply kMt) Tryz.isAgg27 Tryz.sizeOf27 (by rfl)⟩ H.ext rfl
           ·
            replace hk61 : b59 = true := by simpa using hk61
            subst hk61
            rw [if_pos rfl] at e18
            refine SK (IB (TN ?_))
            obtain ⟨n65, hxn65, e18⟩ := bnd e18
            refine RG (MV rfl rfl (ST (Ex.addC rfl rfl hxn65) rfl (AS rfl rfl (NL ?_))))
            exact WQ.againP m24 [(1, _), (2, _), (3, _)] ⟨rfl, rfl, rfl, trivial⟩ ⟨_, _, _, _, rfl, (H.pick (L' := [.blk bk1 (.cells #[S p0.1, S p0.2.1, vp0_2] 24), .blk bk2 (.cells #[I n39, I n40] 27)]) (by repeat first | exact kPn | refine kPc (by repeat first | exact .head | apply Rem.tail) ?_)), hp0_2, e18⟩ (Nat.lt_succ_self _)
      ·
       replace hk25 : ¬ (n23 < (p0.2.2.length : Int)) := of_decide_eq_false hk25
       rw [if_neg hk25] at e18
       refine WC.exit (WQ.thenExit (WQ.thenExit (WQ.exitHere ?_)))
       exact WQ.meetN [(2, _)] ⟨rfl, trivial⟩ ⟨_, _, _, rfl, (H.pick (L' := [.blk bk2 (.cells #[I n21, I n22] 27)]) (by repeat first | exact kPn | refine kPc (by repeat first | exact .head | apply Rem.tail) ?_)), e18⟩
     ·
      rintro e w ⟨n19, n20, M, rfl, H, q68⟩
      obtain rfl := oI q68
      try dsimp only at h
      refine TN (SQ (RG (ST (Ex.build [I 0, I 0] Tryz.underlying27 Tryz.zeroValue27 (xplaces27 Tryz.underlying27) rfl rfl) rfl (WR.store [_, _] H rfl rfl rfl (by repeat first | exact .head | apply Upd.tail) Tryz.sizeOf27 rfl (by rfl) (by rfl) (Wn.none rfl) ?_))))
      intro w H
      refine NL (TN (RT ?_))
      obtain rfl := oI h
      exact WQ.ret1 rfl ⟨_, rfl, H.loadAgg (by repeat first | exact kMh | apply kMt) Tryz.isAgg27 Tryz.sizeOf27 (by rfl)⟩ H.ext rfl
theorem R_decimal_B_ct {self : Int → Option (List UInt8)} (ih : ∀ {p0 : Int} {r : List UInt8}, self p0 = some r → Ct Tryz.prog 72 [Value.int .u64 p0] (fun M => True) (fun v M => v = S r)) {p0 : Int} {r : List UInt8} (h : R_decimal_B self p0 = some r) : Ct Tryz.prog 72 [Value.int .u64 p0] (fun M => True) (fun v M => v = S r) := by
  refine Ct.of Tryz.func72 (enters Tryz.func72 (by kernel_rfl) rfl) rfl rfl rfl ?_
  intro w0 M0 H hp
  unfold R_decimal_B at h
  refine SQ (RG (AS rfl rfl (NL (TN (SQ (SQ (RG (MV rfl rfl (ST (Ex.lss rfl rfl) rfl (NL (TN ?_)))))))))))
  refine WC.condB rfl (fun hk1 => ?_) (fun hk1 => ?_)
  ·
   replace hk1 : p0 < (10 : Int) := of_decide_eq_true hk1
   rw [if_pos hk1] at h
   refine SQ ?_
   obtain ⟨s2, hxs2, h⟩ := bnd h
   refine RG (MV rfl rfl (MV rfl rfl (ST (Ex.add rfl rfl) rfl (ST (Ex.sliceCK Tryz.underlying9 rfl rfl rfl hxs2) rfl (AS rfl rfl (NL (TN (RT ?_))))))))
   obtain rfl := oI h
   exact WQ.ret1 rfl rfl H.ext rfl
  ·
   replace hk1 : ¬ (p0 < (10 : Int)) := of_decide_eq_false hk1
   rw [if_neg hk1] at h
   refine SK (TN (SQ ?_))
   obtain ⟨s3, hx4, h⟩ := bnd h
   obtain ⟨s5, hxs5, h⟩ := bnd h
   obtain ⟨s6, hxs6, h⟩ := bnd h
   refine WC.draw (m := 11) rfl rfl H ?_
   intro w H
   refine WA.take (i := 0) rfl (by kernel_rfl) (by kernel_rfl) (by kernel_rfl) (fun _ => Ex.move rfl) (Wn.none rfl) rfl rfl (fun _ _ => rfl) (WA.take (i := 1) rfl (by kernel_rfl) (by kernel_rfl) (by kernel_rfl) (fun _ => Ex.quoT rfl rfl (by decide)) (Wn.none rfl) rfl rfl (fun _ _ => rfl) (WA.take (i := 3) rfl (by kernel_rfl) (by kernel_rfl) (by kernel_rfl) (fun _ => Ex.move rfl) (Wn.none rfl) rfl rfl (fun _ _ => rfl) (WA.take (i := 4) rfl (by kernel_rfl) (by kernel_rfl) (by kernel_rfl) (fun _ => Ex.remT rfl rfl (by decide)) (Wn.none rfl) rfl rfl (fun _ _ => rfl) (WA.take (i := 5) rfl (by kernel_rfl) (by kernel_rfl) (by kernel_rfl) (fun _ => Ex.move rfl) (Wn.none rfl) rfl rfl (fun _ _ => rfl) (WA.take (i := 6) rfl (by kernel_rfl) (by kernel_rfl) (by kernel_rfl) (fun _ => Ex.remT rfl rfl (by decide)) (Wn.none rfl) rfl rfl (fun _ _ => rfl) (WA.take (i := 7) rfl (by kernel_rfl) (by kernel_rfl) (by kernel_rfl) (fun _ => Ex.add rfl rfl) (Wn.none rfl) rfl rfl (fun _ _ => rfl) ?_))))))
   refine WA.take (i := 8) rfl (by kernel_rfl) (by kernel_rfl) (by kernel_rfl) (fun _ => Ex.sliceCK Tryz.underlying9 rfl rfl rfl hxs5) (Wn.none rfl) rfl rfl (fun _ _ => rfl) (WA.seq (fuel := 0) [2, 9, 10] rfl (by kernel_rfl) (WR.call H (ih hx4) rfl trivial (Wn.none rfl) rfl ?_))
   intro v11 M w H hle hR
   obtain rfl := hR
   refine ST (Ex.strAddC rfl rfl hxs6) rfl (AS rfl rfl (NA (WA.done (by kernel_rfl) (TN (RT ?_)))))
   obtain rfl := oI h
   exact WQ.ret1 rfl rfl H.ext rfl
theorem R_decimal_Rct : ∀ (m : Nat) {p0 : Int} {r : List UInt8}, R_decimal_R m p0 = some r → Ct Tryz.prog 72 [Value.int .u64 p0] (fun M => True) (fun v M => v = S r)
  | 0, _, _, h => by rw [R_decimal_R] at h; cases h
  | m + 1, _, _, h => R_decimal_B_ct (fun h => R_decimal_Rct m h) (by rw [R_decimal_R] at h; exact h)
theorem R_decimal_ct {p0 : Int} {r : List UInt8} (h : R_decimal p0 = some r) : Ct Tryz.prog 72 [Value.int .u64 p0] (fun M => True) (fun v M => v = S r) := R_decimal_Rct FU h
theorem R_Number_ct {p0 : Int} {r : List UInt8} (h : R_Number p0 = some r) : Ct Tryz.prog 55 [I p0] (fun M => True) (fun v M => v = S r) := by
  refine Ct.of Tryz.func55 (enters Tryz.func55 (by kernel_rfl) rfl) rfl rfl rfl ?_
  intro w0 M0 H hp
  unfold R_Number at h
  refine SQ (RG (AS rfl rfl (NL (TN (SQ (SQ (RG (MV rfl rfl (ST (Ex.lss rfl rfl) rfl (NL (TN ?_)))))))))))
  refine WC.condB rfl (fun hk1 => ?_) (fun hk1 => ?_)
  ·
   replace hk1 : p0 < (0 : Int) := of_decide_eq_true hk1
   rw [if_pos hk1] at h
   refine SQ ?_
   obtain ⟨n2, hxn2, h⟩ := bnd h
   obtain ⟨n3, hxn3, h⟩ := bnd h
   obtain ⟨s4, hx5, h⟩ := bnd h
   obtain ⟨s6, hxs6, h⟩ := bnd h
   refine RG (MV rfl rfl (ST (Ex.addC rfl rfl hxn2) rfl (ST (Ex.negC rfl hxn3) rfl (ST (Ex.conv Tryz.underlying3 Tryz.underlying96 rfl) rfl (ST (Ex.add rfl rfl) rfl (WR.call H (R_decimal_ct hx5) rfl trivial (Wn.none rfl) rfl ?_))))))
   intro v10 M w H hle hR
   obtain rfl := hR
   refine ST (Ex.strAddC rfl rfl hxs6) rfl (AS rfl rfl (NL (TN (RT ?_))))
   obtain rfl := oI h
   exact WQ.ret1 rfl rfl H.ext rfl
  ·
   replace hk1 : ¬ (p0 < (0 : Int)) := of_decide_eq_false hk1
   rw [if_neg hk1] at h
   refine SK (TN (SQ ?_))
   obtain ⟨s7, hx8, h⟩ := bnd h
   refine RG (MV rfl rfl (ST (Ex.conv Tryz.underlying3 Tryz.underlying96 rfl) rfl (WR.call H (R_decimal_ct hx8) rfl trivial (Wn.none rfl) rfl ?_)))
   intro v14 M w H hle hR
   obtain rfl := hR
   refine AS rfl rfl (NL (TN (RT ?_)))
   obtain rfl := oI h
   exact WQ.ret1 rfl rfl H.ext rfl
theorem R_SameMedia_ct {p0 : (List UInt8 × List UInt8 × List (List UInt8 × List UInt8))} {p1 : (List UInt8 × List UInt8 × List (List UInt8 × List UInt8))} {vp0_2 : Value} {vp1_2 : Value} {r : Bool} (h : R_SameMedia p0 p1 = some r) : Ct Tryz.prog 16 [Value.agg #[S p0.1, S p0.2.1, vp0_2], Value.agg #[S p1.1, S p1.2.1, vp1_2]] (fun M => SlS M 2 xenc47 vp0_2 p0.2.2 ∧ SlS M 2 xenc47 vp1_2 p1.2.2) (fun v M => v = Value.bool r) := by
  refine Ct.of Tryz.func16 (enters Tryz.func16 (by kernel_rfl) rfl) rfl rfl rfl ?_
  intro w0 M0 H hp
  obtain ⟨hp0_2, hp1_2⟩ := hp
  unfold R_SameMedia at h
  refine SQ (RG (WR.box [_, _, _] H rfl rfl (Wn.none rfl) rfl ?_))
  intro bk2 w H
  refine WR.box [_, _, _] H rfl rfl (Wn.none rfl) rfl ?_
  intro bk3 w H
  refine AS rfl rfl (NL (TN (SQ (SQ ?_))))
  obtain ⟨o1, e2, h⟩ := bnd h
  refine WC.cutX (fun e w => ∃ (b3 : Bool) (M : Mem), e = [(2, ptr bk2 0), (3, ptr bk3 0), (26, Value.bool b3)] ∧ St w0 M0 M [.blk bk2 (.cells #[S p0.1, S p0.2.1, vp0_2] 24), .blk bk3 (.cells #[S p1.1, S p1.2.1, vp1_2] 24)] w ∧ SlS M 2 xenc47 vp0_2 p0.2.2 ∧ SlS M 2 xenc47 vp1_2 p1.2.2 ∧ some b3 = some o1) [] ?_ ?_ (trivial)
  ·
   refine RG (ST (Ex.fieldAddr Tryz.underlying24 rfl Tryz.sizeOf9 (by decide) rfl) rfl (ST (Ex.load1 H rfl (by repeat first | exact kMh | apply kMt) Tryz.isAgg9 (by rfl)) rfl ?_))
   refine ST (Ex.fieldAddr Tryz.underlying24 rfl Tryz.sizeOf9 (by decide) rfl) rfl (ST (Ex.load1 H rfl (by repeat first | exact kMh | apply kMt) Tryz.isAgg9 (by rfl)) rfl ?_)
   by_cases hk4 : p0.1 = p1.1
   ·
    rw [if_pos hk4] at e2
    by_cases hk5 : p0.2.1 = p1.2.1
    ·
     rw [if_pos hk5] at e2
     refine WR.stepE (v' := .bool false) (Ex.strNeqC rfl rfl) (congrArg Value.bool (by rw [decide_eq_true hk4]; rfl)) (Wn.none rfl) rfl rfl ?_
     refine MV rfl rfl (SG (Ex.fieldAddr Tryz.underlying24 rfl Tryz.sizeOf9 (by decide) rfl) rfl rfl rfl (SG (Ex.load1 H rfl (by repeat first | exact kMh | apply kMt) Tryz.isAgg9 (by rfl)) rfl rfl rfl ?_))
     refine SG (Ex.fieldAddr Tryz.underlying24 rfl Tryz.sizeOf9 (by decide) rfl) rfl rfl rfl (SG (Ex.load1 H rfl (by repeat first | exact kMh | apply kMt) Tryz.isAgg9 (by rfl)) rfl rfl rfl ?_)
     refine WR.stepE (v' := .bool false) (Ex.strNeqC rfl rfl) (congrArg Value.bool (by rw [decide_eq_true hk5]; rfl)) (Wn.some rfl rfl rfl) rfl rfl ?_
     refine PF rfl rfl rfl (MV rfl rfl (SG (Ex.fieldAddr Tryz.underlying24 rfl Tryz.sizeOf22 (by decide) rfl) rfl rfl rfl (SG (Ex.load1 H rfl (by repeat first | exact kMh | apply kMt) Tryz.isAgg22 (by rfl)) rfl rfl rfl ?_)))
     refine SG (Ex.lenSlS Tryz.underlying22 hp0_2 rfl) rfl rfl rfl (SG (Ex.fieldAddr Tryz.underlying24 rfl Tryz.sizeOf22 (by decide) rfl) rfl rfl rfl (SG (Ex.load1 H rfl (by repeat first | exact kMh | apply kMt) Tryz.isAgg22 (by rfl)) rfl rfl rfl ?_))
     refine SG (Ex.lenSlS Tryz.underlying22 hp1_2 rfl) rfl rfl rfl (SG (Ex.neqC rfl rfl) rfl rfl rfl (PF rfl rfl rfl (NL ?_)))
     exact WQ.meetN [(2, _), (3, _), (26, _)] ⟨rfl, rfl, rfl, trivial⟩ ⟨_, _, rfl, (H.pick (L' := [.blk bk2 (.cells #[S p0.1, S p0.2.1, vp0_2] 24), .blk bk3 (.cells #[S p1.1, S p1.2.1, vp1_2] 24)]) (by repeat first | exact kPn | refine kPc (by repeat first | exact .head | apply Rem.tail) ?_)), hp0_2, hp1_2, e2⟩
    ·
     rw [if_neg hk5] at e2
     refine WR.stepE (v' := .bool false) (Ex.strNeqC rfl rfl) (congrArg Value.bool (by rw [decide_eq_true hk4]; rfl)) (Wn.none rfl) rfl rfl ?_
     refine MV rfl rfl (SG (Ex.fieldAddr Tryz.underlying24 rfl Tryz.sizeOf9 (by decide) rfl) rfl rfl rfl (SG (Ex.load1 H rfl (by repeat first | exact kMh | apply kMt) Tryz.isAgg9 (by rfl)) rfl rfl rfl ?_))
     refine SG (Ex.fieldAddr Tryz.underlying24 rfl Tryz.sizeOf9 (by decide) rfl) rfl rfl rfl (SG (Ex.load1 H rfl (by repeat first | exact kMh | apply kMt) Tryz.isAgg9 (by rfl)) rfl rfl rfl ?_)
     refine WR.stepE (v' := .bool true) (Ex.strNeqC rfl rfl) (congrArg Value.bool (by rw [decide_eq_false hk5]; rfl)) (Wn.some rfl rfl rfl) rfl rfl ?_
     refine PF rfl rfl rfl (MV rfl rfl (WR.skipN 7 rfl rfl (PT rfl rfl rfl (NL ?_))))
     exact WQ.meetN [(2, _), (3, _), (26, _)] ⟨rfl, rfl, rfl, trivial⟩ ⟨_, _, rfl, (H.pick (L' := [.blk bk2 (.cells #[S p0.1, S p0.2.1, vp0_2] 24), .blk bk3 (.cells #[S p1.1, S p1.2.1, vp1_2] 24)]) (by repeat first | exact kPn | refine kPc (by repeat first | exact .head | apply Rem.tail) ?_)), hp0_2, hp1_2, e2⟩
   ·
    rw [if_neg hk4] at e2
    refine WR.stepE (v' := .bool true) (Ex.strNeqC rfl rfl) (congrArg Value.bool (by rw [decide_eq_false hk4]; rfl)) (Wn.none rfl) rfl rfl ?_
    refine MV rfl rfl (WR.skipN 5 rfl rfl (PT rfl rfl rfl (MV rfl rfl (WR.skipN 7 rfl rfl (PT rfl rfl rfl (NL ?_))))))
    exact WQ.meetN [(2, _), (3, _), (26, _)] ⟨rfl, rfl, rfl, trivial⟩ ⟨_, _, rfl, (H.pick (L' := [.blk bk2 (.cells #[S p0.1, S p0.2.1, vp0_2] 24), .blk bk3 (.cells #[S p1.1, S p1.2.1, vp1_2] 24)]) (by repeat first | exact kPn | refine kPc (by repeat first | exact .head | apply Rem.tail) ?_)), hp0_2, hp1_2, e2⟩
  ·
   rintro e w ⟨b3, M, rfl, H, hp0_2, hp1_2, q6⟩
   obtain rfl := oI q6
   refine TN ?_
   refine WC.condB rfl (fun hk7 => ?_) (fun hk7 => ?_)
   ·
    subst hk7
    rw [if_pos rfl] at h
    refine SQ (RG (AS rfl rfl (NL (TN (RT ?_)))))
    obtain rfl := oI h
    exact WQ.ret1 rfl rfl H.ext rfl
   ·
    subst hk7
    rw [if_neg Bool.false_ne_true] at h
    refine SK (TN (SQ (SQ (RG (AS rfl rfl (NL (TN ?_)))))))
    obtain ⟨o8, e9, h⟩ := bnd h
    refine WC.cutX (fun e w => ∃  (M : Mem), e = [] ∧ St w0 M0 M [] w ∧ some (.inl ()) = some o8) [] ?_ ?_ (trivial)
    ·
     refine BL (WC.loopP (fun m e w => ∃ (n10 : Int) (M : Mem), e = [(2, ptr bk2 0), (3, ptr bk3 0), (5, I n10)] ∧ St w0 M0 M [.blk bk2 (.cells #[S p0.1, S p0.2.1, vp0_2] 24), .blk bk3 (.cells #[S p1.1, S p1.2.1, vp1_2] 24)] w ∧ SlS M 2 xenc47 vp0_2 p0.2.2 ∧ SlS M 2 xenc47 vp1_2 p1.2.2 ∧ R_SameMedia_L1 p0 p1 m n10 = some o8) FU [(2, _), (3, _), (5, _)] ⟨rfl, rfl, rfl, trivial⟩ ⟨_, _, rfl, H, hp0_2, hp1_2, e9⟩ ?_)
     rintro m11 e w ⟨n10, M, rfl, H, hp0_2, hp1_2, e9⟩
     rcases m11 with _ | m11
     · rw [R_SameMedia_L1] at e9; cases e9
     rw [R_SameMedia_L1] at e9
     refine SQ (SQ (RG (MV rfl rfl (ST (Ex.fieldAddr Tryz.underlying24 rfl Tryz.sizeOf22 (by decide) rfl) rfl (ST (Ex.load1 H rfl (by repeat first | exact kMh | apply kMt) Tryz.isAgg22 (by rfl)) rfl ?_)))))
     refine ST (Ex.lenSlS Tryz.underlying22 hp0_2 rfl) rfl (ST (Ex.lss rfl rfl) rfl (NL (TN ?_)))
     refine WC.condB rfl (fun hk12 => ?_) (fun hk12 => ?_)
     ·
      replace hk12 : n10 < (p0.2.2.length : Int) := of_decide_eq_true hk12
      rw [if_pos hk12] at e9
      refine SK (TN (SQ (BL (SQ ?_))))
      obtain ⟨a13, hxa13, e9⟩ := bnd e9
      obtain ⟨bk37, o37, ha37, hc37⟩ := hp0_2.atC hxa13
      obtain ⟨a14, hxa14, e9⟩ := bnd e9
      obtain ⟨bk42, o42, ha42, hc42⟩ := hp1_2.atC hxa14
      refine WC.cutP (fun e w => ∃  (M : Mem), e = [(2, ptr bk2 0), (3, ptr bk3 0), (5, I n10), (44, Value.bool (!decide (a13.1 = a14.1 ∧ a13.2 = a14.2)))] ∧ St w0 M0 M [.blk bk2 (.cells #[S p0.1, S p0.2.1, vp0_2] 24), .blk bk3 (.cells #[S p1.1, S p1.2.1, vp1_2] 24)] w ∧ SlS M 2 xenc47 vp0_2 p0.2.2 ∧ SlS M 2 xenc47 vp1_2 p1.2.2) ?_ ?_
      ·
       refine WC.draw (m := 11) rfl rfl H ?_
       intro w H
       refine WA.take (i := 0) rfl (by kernel_rfl) (by kernel_rfl) (by kernel_rfl) (fun _ => Ex.fieldAddr Tryz.underlying24 rfl Tryz.sizeOf22 (by decide) rfl) (Wn.none rfl) rfl rfl (fun _ _ => rfl) (WA.take (i := 2) rfl (by kernel_rfl) (by kernel_rfl) (by kernel_rfl) (fun _ => Ex.move rfl) (Wn.none rfl) rfl rfl (fun _ _ => rfl) (WA.take (i := 5) rfl (by kernel_rfl) (by kernel_rfl) (by kernel_rfl) (fun _ => Ex.fieldAddr Tryz.underlying24 rfl Tryz.sizeOf22 (by decide) rfl) (Wn.none rfl) rfl rfl (fun _ _ => rfl) (WA.take (i := 7) rfl (by kernel_rfl) (by kernel_rfl) (by kernel_rfl) (fun _ => Ex.move rfl) (Wn.none rfl) rfl rfl (fun _ _ => rfl) ?_)))
       refine WA.two (i := 1) (j := 6) (by kernel_rfl) rfl rfl ?_ ?_
       ·
        refine ST (Ex.load1 H rfl (by repeat first | exact kMh | apply kMt) Tryz.isAgg22 (by rfl)) rfl ?_
        refine NA (WA.take (i := 3) rfl (by kernel_rfl) (by kernel_rfl) (by kernel_rfl) (fun _ => Ex.idxAt ha37 Tryz.underlying22 Tryz.sizeOf47 rfl rfl) (Wn.none rfl) rfl rfl (fun _ _ => rfl) (WA.takeM (i := 6) [4] rfl (by kernel_rfl) (by kernel_rfl) (by kernel_rfl) (Ex.load1 H rfl (by repeat first | exact kMh | apply kMt) Tryz.isAgg22 (by rfl)) (Wn.none rfl) rfl rfl (fun _ _ => rfl) ?_))
        refine WA.take (i := 8) rfl (by kernel_rfl) (by kernel_rfl) (by kernel_rfl) (fun _ => Ex.idxAt ha42 Tryz.underlying22 Tryz.sizeOf47 rfl rfl) (Wn.none rfl) rfl rfl (fun _ _ => rfl) (WA.takeM (i := 4) [9] rfl (by kernel_rfl) (by kernel_rfl) (by kernel_rfl) (Ex.loadAggM H rfl hc37 Tryz.isAgg47 Tryz.sizeOf47 (by rfl)) (Wn.none rfl) rfl rfl (fun _ _ => rfl) ?_)
        refine WA.seq (fuel := 0) [9, 10] rfl (by kernel_rfl) (ST (Ex.loadAggM H rfl hc42 Tryz.isAgg47 Tryz.sizeOf47 (by rfl)) rfl ?_)
        refine ST (Ex.neqAggC rfl rfl (by kernel_rfl) (xeq47 a13.1 a14.1 a13.2 a14.2)) rfl (NA (WA.done (by kernel_rfl) ?_))
        exact WQ.meetP [(2, _), (3, _), (5, _), (44, _)] ⟨rfl, rfl, rfl, rfl, trivial⟩ ⟨_, rfl, H, hp0_2, hp1_2⟩
       ·
        refine ST (Ex.load1 H rfl (by repeat first | exact kMh | apply kMt) Tryz.isAgg22 (by rfl)) rfl ?_
        refine NA (WA.take (i := 8) rfl (by kernel_rfl) (by kernel_rfl) (by kernel_rfl) (fun _ => Ex.idxAt ha42 Tryz.underlying22 Tryz.sizeOf47 rfl rfl) (Wn.none rfl) rfl rfl (fun _ _ => rfl) (WA.takeM (i := 1) [9] rfl (by kernel_rfl) (by kernel_rfl) (by kernel_rfl) (Ex.load1 H rfl (by repeat first | exact kMh | apply kMt) Tryz.isAgg22 (by rfl)) (Wn.none rfl) rfl rfl (fun _ _ => rfl) ?_))
        refine WA.take (i := 3) rfl (by kernel_rfl) (by kernel_rfl) (by kernel_rfl) (fun _ => Ex.idxAt ha37 Tryz.underlying22 Tryz.sizeOf47 rfl rfl) (Wn.none rfl) rfl rfl (fun _ _ => rfl) (WA.takeM (i := 4) [9] rfl (by kernel_rfl) (by kernel_rfl) (by kernel_rfl) (Ex.loadAggM H rfl hc37 Tryz.isAgg47 Tryz.sizeOf47 (by rfl)) (Wn.none rfl) rfl rfl (fun _ _ => rfl) ?_)
        refine WA.seq (fuel := 0) [9, 10] rfl (by kernel_rfl) (ST (Ex.loadAggM H rfl hc42 Tryz.isAgg47 Tryz.sizeOf47 (by rfl)) rfl ?_)
        refine ST (Ex.neqAggC rfl rfl (by kernel_rfl) (xeq47 a13.1 a14.1 a13.2 a14.2)) rfl (NA (WA.done (by kernel_rfl) ?_))
        exact WQ.meetP [(2, _), (3, _), (5, _), (44, _)] ⟨rfl, rfl, rfl, rfl, trivial⟩ ⟨_, rfl, H, hp0_2, hp1_2⟩
      ·
       rintro e w ⟨M, rfl, H, hp0_2, hp1_2⟩
       refine TN ?_
       refine WC.condB rfl (fun hk15 => ?_) (fun hk15 => ?_)
       ·
        replace hk15 : ¬ (a13.1 = a14.1 ∧ a13.2 = a14.2) := of_not_decide hk15
        rw [if_neg hk15] at e9
        refine SQ (RG (AS rfl rfl (NL (TN (RT ?_)))))
        obtain rfl := oI e9
        try dsimp only at h
        obtain rfl := oI h
        exact WQ.ret1 rfl rfl H.ext rfl
       ·
        replace hk15 : a13.1 = a14.1 ∧ a13.2 = a14.2 := of_not_decide' hk15
        rw [if_pos hk15] at e9
        refine SK (IB (TN ?_))
        obtain ⟨n16, hxn16, e9⟩ := bnd e9
        refine RG (MV rfl rfl (ST (Ex.addC rfl rfl hxn16) rfl (AS rfl rfl (NL ?_))))
        exact WQ.againP m11 [(2, _), (3, _), (5, _)] ⟨rfl, rfl, rfl, trivial⟩ ⟨_, _, rfl, H, hp0_2, hp1_2, e9⟩ (Nat.lt_succ_self _)
     ·
      replace hk12 : ¬ (n10 < (p0.2.2.length : Int)) := of_decide_eq_false hk12
      rw [if_neg hk12] at e9
      refine WC.exit (WQ.thenExit (WQ.thenExit (WQ.exitHere ?_)))
      exact WQ.meetN [] trivial ⟨_, rfl, (H.pick (L' := []) (by repeat first | exact kPn | refine kPc (by repeat first | exact .head | apply Rem.tail) ?_)), e9⟩
    ·
     rintro e w ⟨M, rfl, H, q17⟩
     obtain rfl := oI q17
     try dsimp only at h
     refine TN (SQ (RG (AS rfl rfl (NL (TN (RT ?_))))))
     obtain rfl := oI h
     exact WQ.ret1 rfl rfl H.ext rfl
theorem R_Blank_ct {p0 : UInt8} {r : Bool} (h : R_Blank p0 = some r) : Ct Tryz.prog 61 [encB p0] (fun M => True) (fun v M => v = Value.bool r) := by
  refine Ct.of Tryz.func61 (enters Tryz.func61 (by kernel_rfl) rfl) rfl rfl rfl ?_
  intro w0 M0 H hp
  unfold R_Blank at h
  refine SQ (RG (AS rfl rfl (NL (TN (SQ ?_)))))
  obtain ⟨o1, e2, h⟩ := bnd h
  refine WC.cutX (fun e w => ∃ (b3 : Bool) (M : Mem), e = [(2, Value.bool b3)] ∧ St w0 M0 M [] w ∧ some b3 = some o1) [] ?_ ?_ (trivial)
  ·
   by_cases hk4 : p0 = 32
   ·
    rw [if_pos hk4] at e2
    refine RG (MV rfl rfl (WR.stepE (v' := .bool true) (Ex.eqlB (c := p0) (d := 32) rfl rfl) (congrArg Value.bool (decide_eq_true hk4)) (Wn.none rfl) rfl rfl (MV rfl rfl (GT rfl rfl rfl (GT rfl rfl rfl (PT rfl rfl rfl (AS rfl rfl (NL ?_))))))))
    exact WQ.meetN [(2, _)] ⟨rfl, trivial⟩ ⟨_, _, rfl, H, e2⟩
   ·
    rw [if_neg hk4] at e2
    refine RG (MV rfl rfl (WR.stepE (v' := .bool false) (Ex.eqlB (c := p0) (d := 32) rfl rfl) (congrArg Value.bool (decide_eq_false hk4)) (Wn.none rfl) rfl rfl (MV rfl rfl (SG (Ex.move rfl) rfl rfl rfl (SG (Ex.eqlB (c := p0) (d := 9) rfl rfl) rfl rfl rfl (PF rfl rfl rfl (AS rfl rfl (NL ?_))))))))
    exact WQ.meetN [(2, _)] ⟨rfl, trivial⟩ ⟨_, _, rfl, H, e2⟩
  ·
   rintro e w ⟨b3, M, rfl, H, q5⟩
   obtain rfl := oI q5
   refine TN (RT ?_)
   obtain rfl := oI h
   exact WQ.ret1 rfl rfl H.ext rfl
theorem R_skip_ct {p0 : List UInt8} {p1 : Int} {r : Int} (h : R_skip p0 p1 = some r) : Ct Tryz.prog 35 [S p0, I p1] (fun M => True) (fun v M => v = I r) := by
  refine Ct.of Tryz.func35 (enters Tryz.func35 (by kernel_rfl) rfl) rfl rfl rfl ?_
  intro w0 M0 H hp
  unfold R_skip at h
  refine SQ (RG (AS rfl rfl (NL (TN (SQ ?_)))))
  obtain ⟨o1, e2, h⟩ := bnd h
  refine WC.cutX (fun e w => ∃ (n3 : Int) (M : Mem), e = [(1, I n3)] ∧ St w0 M0 M [] w ∧ some n3 = some o1) [] ?_ ?_ (trivial)
  ·
   refine BL (WC.loopP (fun m e w => ∃ (n4 : Int) (M : Mem), e = [(0, S p0), (1, I n4)] ∧ St w0 M0 M [] w ∧ R_skip_L1 p0 m n4 = some o1) FU [(0, _), (1, _)] ⟨rfl, rfl, trivial⟩ ⟨_, _, rfl, H, e2⟩ ?_)
   rintro m5 e w ⟨n4, M, rfl, H, e2⟩
   rcases m5 with _ | m5
   · rw [R_skip_L1] at e2; cases e2
   rw [R_skip_L1] at e2
   refine SQ (SQ ?_)
   obtain ⟨o6, e7, e2⟩ := bnd e2
   refine WC.cutX (fun e w => ∃ (b8 : Bool) (M : Mem), e = [(0, S p0), (1, I n4), (14, Value.bool b8)] ∧ St w0 M0 M [] w ∧ some b8 = some o6) [] ?_ ?_ (trivial)
   ·
    refine RG (MV rfl rfl (MV rfl rfl (ST (Ex.lenStr Tryz.underlying9 rfl) rfl ?_)))
    by_cases hk9 : n4 < (p0.length : Int)
    ·
     rw [if_pos hk9] at e7
     obtain ⟨c10, hxc10, e7⟩ := bnd e7
     obtain ⟨b11, hx12, e7⟩ := bnd e7
     refine WR.stepE (v' := .bool true) (Ex.lss rfl rfl) (congrArg Value.bool (decide_eq_true hk9)) (Wn.none rfl) rfl rfl (MV rfl rfl (SG (Ex.move rfl) rfl rfl rfl (SG (Ex.move rfl) rfl rfl rfl (SG (Ex.idxStrC Tryz.underlying9 rfl rfl hxc10) rfl rfl rfl (WR.call H (R_Blank_ct hx12) rfl trivial (Wn.some rfl rfl rfl) rfl ?_)))))
     intro v13 M w H hle hR
     obtain rfl := hR
     refine PT rfl rfl rfl (NL ?_)
     exact WQ.meetN [(0, _), (1, _), (14, _)] ⟨rfl, rfl, rfl, trivial⟩ ⟨_, _, rfl, H, e7⟩
    ·
     rw [if_neg hk9] at e7
     refine WR.stepE (v' := .bool false) (Ex.lss rfl rfl) (congrArg Value.bool (decide_eq_false hk9)) (Wn.none rfl) rfl rfl (MV rfl rfl (WR.skipN 4 rfl rfl (PF rfl rfl rfl (NL ?_))))
     exact WQ.meetN [(0, _), (1, _), (14, _)] ⟨rfl, rfl, rfl, trivial⟩ ⟨_, _, rfl, H, e7⟩
   ·
    rintro e w ⟨b8, M, rfl, H, q13⟩
    obtain rfl := oI q13
    refine TN ?_
    refine WC.condB rfl (fun hk14 => ?_) (fun hk14 => ?_)
    ·
     subst hk14
     rw [if_pos rfl] at e2
     refine SK (TN (BL ?_))
     obtain ⟨n15, hxn15, e2⟩ := bnd e2
     refine RG (MV rfl rfl (ST (Ex.addC rfl rfl hxn15) rfl (AS rfl rfl (NL (IB ?_)))))
     exact WQ.againP m5 [(0, _), (1, _)] ⟨rfl, rfl, trivial⟩ ⟨_, _, rfl, H, e2⟩ (Nat.lt_succ_self _)
    ·
     subst hk14
     rw [if_neg Bool.false_ne_true] at e2
     refine WC.exit (WQ.thenExit (WQ.thenExit (WQ.exitHere ?_)))
     exact WQ.meetN [(1, _)] ⟨rfl, trivial⟩ ⟨_, _, rfl, H, e2⟩
  ·
   rintro e w ⟨n3, M, rfl, H, q16⟩
   obtain rfl := oI q16
   refine TN (SQ (RG (MV rfl rfl (AS rfl rfl (NL (TN (RT ?_)))))))
   obtain rfl := oI h
   exact WQ.ret1 rfl rfl H.ext rfl
theorem R_run_ct {p0 : List UInt8} {p1 : Int} {p2 : List UInt8} {r : Int} (h : R_run p0 p1 p2 = some r) : Ct Tryz.prog 36 [S p0, I p1, S p2] (fun M => True) (fun v M => v = I r) := by
  refine Ct.of Tryz.func36 (enters Tryz.func36 (by kernel_rfl) rfl) rfl rfl rfl ?_
  intro w0 M0 H hp
  unfold R_run at h
  refine SQ (RG (AS rfl rfl (NL (TN (SQ ?_)))))
  obtain ⟨o1, e2, h⟩ := bnd h
  refine WC.cutX (fun e w => ∃ (n3 : Int) (M : Mem), e = [(1, I n3)] ∧ St w0 M0 M [] w ∧ some n3 = some o1) [] ?_ ?_ (trivial)
  ·
   refine BL (WC.loopP (fun m e w => ∃ (n4 : Int) (M : Mem), e = [(0, S p0), (1, I n4), (2, S p2)] ∧ St w0 M0 M [] w ∧ R_run_L1 p0 p2 m n4 = some o1) FU [(0, _), (1, _), (2, _)] ⟨rfl, rfl, rfl, trivial⟩ ⟨_, _, rfl, H, e2⟩ ?_)
   rintro m5 e w ⟨n4, M, rfl, H, e2⟩
   rcases m5 with _ | m5
   · rw [R_run_L1] at e2; cases e2
   rw [R_run_L1] at e2
   refine SQ (SQ ?_)
   obtain ⟨o6, e7, e2⟩ := bnd e2
   refine WC.cutX (fun e w => ∃ (b8 : Bool) (M : Mem), e = [(0, S p0), (1, I n4), (2, S p2), (23, Value.bool b8)] ∧ St w0 M0 M [] w ∧ some b8 = some o6) [] ?_ ?_ (trivial)
   ·
    refine RG (MV rfl rfl (MV rfl rfl (ST (Ex.lenStr Tryz.underlying9 rfl) rfl ?_)))
    by_cases hk9 : n4 < (p0.length : Int)
    ·
     rw [if_pos hk9] at e7
     obtain ⟨c10, hxc10, e7⟩ := bnd e7
     obtain ⟨b11, hx12, e7⟩ := bnd e7
     rcases b11 with _ | _
     ·
      rw [if_neg Bool.false_ne_true] at e7
      obtain ⟨c13, hxc13, e7⟩ := bnd e7
      obtain ⟨b14, hx15, e7⟩ := bnd e7
      refine WR.stepE (v' := .bool true) (Ex.lss rfl rfl) (congrArg Value.bool (decide_eq_true hk9)) (Wn.none rfl) rfl rfl (MV rfl rfl (SG (Ex.move rfl) rfl rfl rfl (SG (Ex.move rfl) rfl rfl rfl (SG (Ex.idxStrC Tryz.underlying9 rfl rfl hxc10) rfl rfl rfl (WR.call H (R_TokenByte_ct hx12) rfl trivial (Wn.some rfl rfl rfl) rfl ?_)))))
      intro v15 M w H hle hR
      obtain rfl := hR
      refine SG (Ex.move rfl) rfl rfl rfl (SG (Ex.move rfl) rfl rfl rfl (SG (Ex.move rfl) rfl rfl rfl (SG (Ex.idxStrC Tryz.underlying9 rfl rfl hxc13) rfl rfl rfl (SG (Ex.move rfl) rfl rfl rfl (WR.call H (R_OneOf_ct hx15) rfl trivial (Wn.some rfl rfl rfl) rfl ?_)))))
      intro v21 M w H hle hR
      obtain rfl := hR
      refine SG (Ex.pickF rfl rfl) rfl rfl rfl (PT rfl rfl rfl (NL ?_))
      exact WQ.meetN [(0, _), (1, _), (2, _), (23, _)] ⟨rfl, rfl, rfl, rfl, trivial⟩ ⟨_, _, rfl, H, e7⟩
     ·
      rw [if_pos rfl] at e7
      refine WR.stepE (v' := .bool true) (Ex.lss rfl rfl) (congrArg Value.bool (decide_eq_true hk9)) (Wn.none rfl) rfl rfl (MV rfl rfl (SG (Ex.move rfl) rfl rfl rfl (SG (Ex.move rfl) rfl rfl rfl (SG (Ex.idxStrC Tryz.underlying9 rfl rfl hxc10) rfl rfl rfl (WR.call H (R_TokenByte_ct hx12) rfl trivial (Wn.some rfl rfl rfl) rfl ?_)))))
      intro v15 M w H hle hR
      obtain rfl := hR
      refine SG (Ex.move rfl) rfl rfl rfl (WR.skipN 5 rfl rfl (SG (Ex.pickT rfl rfl) rfl rfl rfl (PT rfl rfl rfl (NL ?_))))
      exact WQ.meetN [(0, _), (1, _), (2, _), (23, _)] ⟨rfl, rfl, rfl, rfl, trivial⟩ ⟨_, _, rfl, H, e7⟩
    ·
     rw [if_neg hk9] at e7
     refine WR.stepE (v' := .bool false) (Ex.lss rfl rfl) (congrArg Value.bool (decide_eq_false hk9)) (Wn.none rfl) rfl rfl (MV rfl rfl (WR.skipN 11 rfl rfl (PF rfl rfl rfl (NL ?_))))
     exact WQ.meetN [(0, _), (1, _), (2, _), (23, _)] ⟨rfl, rfl, rfl, rfl, trivial⟩ ⟨_, _, rfl, H, e7⟩
   ·
    rintro e w ⟨b8, M, rfl, H, q16⟩
    obtain rfl := oI q16
    refine TN ?_
    refine WC.condB rfl (fun hk17 => ?_) (fun hk17 => ?_)
    ·
     subst hk17
     rw [if_pos rfl] at e2
     refine SK (TN (BL ?_))
     obtain ⟨n18, hxn18, e2⟩ := bnd e2
     refine RG (MV rfl rfl (ST (Ex.addC rfl rfl hxn18) rfl (AS rfl rfl (NL (IB ?_)))))
     exact WQ.againP m5 [(0, _), (1, _), (2, _)] ⟨rfl, rfl, rfl, trivial⟩ ⟨_, _, rfl, H, e2⟩ (Nat.lt_succ_self _)
    ·
     subst hk17
     rw [if_neg Bool.false_ne_true] at e2
     refine WC.exit (WQ.thenExit (WQ.thenExit (WQ.exitHere ?_)))
     exact WQ.meetN [(1, _)] ⟨rfl, trivial⟩ ⟨_, _, rfl, H, e2⟩
  ·
   rintro e w ⟨n3, M, rfl, H, q19⟩
   obtain rfl := oI q19
   refine TN (SQ (RG (MV rfl rfl (AS rfl rfl (NL (TN (RT ?_)))))))
   obtain rfl := oI h
   exact WQ.ret1 rfl rfl H.ext rfl
theorem R_Find_ct {p0 : List UInt8} {p1 : List UInt8} {p2 : Int} {r : Int} (h : R_Find p0 p1 p2 = some r) : Ct Tryz.prog 63 [S p0, S p1, I p2] (fun M => True) (fun v M => v = I r) := by
  refine Ct.of Tryz.func63 (enters Tryz.func63 (by kernel_rfl) rfl) rfl rfl rfl ?_
  intro w0 M0 H hp
  unfold R_Find at h
  refine SQ (RG (AS rfl rfl (NL (TN (SQ (SQ (RG (MV rfl rfl (AS rfl rfl (NL (TN ?_)))))))))))
  obtain ⟨o1, e2, h⟩ := bnd h
  refine WC.cutX (fun e w => ∃  (M : Mem), e = [] ∧ St w0 M0 M [] w ∧ some (.inl ()) = some o1) [] ?_ ?_ (trivial)
  ·
   refine BL (WC.loopP (fun m e w => ∃ (n3 : Int) (M : Mem), e = [(0, S p0), (1, S p1), (7, I n3)] ∧ St w0 M0 M [] w ∧ R_Find_L1 p0 p1 m n3 = some o1) FU [(0, _), (1, _), (7, _)] ⟨rfl, rfl, rfl, trivial⟩ ⟨_, _, rfl, H, e2⟩ ?_)
   rintro m4 e w ⟨n3, M, rfl, H, e2⟩
   rcases m4 with _ | m4
   · rw [R_Find_L1] at e2; cases e2
   rw [R_Find_L1] at e2
   refine SQ (SQ ?_)
   obtain ⟨n5, hxn5, e2⟩ := bnd e2
   refine RG (MV rfl rfl (MV rfl rfl (ST (Ex.lenStr Tryz.underlying9 rfl) rfl (ST (Ex.addC rfl rfl hxn5) rfl (MV rfl rfl (ST (Ex.lenStr Tryz.underlying9 rfl) rfl (ST (Ex.leq rfl rfl) rfl (NL (TN ?_)))))))))
   refine WC.condB rfl (fun hk6 => ?_) (fun hk6 => ?_)
   ·
    replace hk6 : n5 ≤ (p0.length : Int) := of_decide_eq_true hk6
    rw [if_pos hk6] at e2
    refine SK (TN (SQ (BL (SQ ?_))))
    obtain ⟨n7, hxn7, e2⟩ := bnd e2
    obtain ⟨s8, hxs8, e2⟩ := bnd e2
    refine RG (MV rfl rfl (MV rfl rfl (MV rfl rfl (MV rfl rfl (ST (Ex.lenStr Tryz.underlying9 rfl) rfl (ST (Ex.addC rfl rfl hxn7) rfl (ST (Ex.sliceC Tryz.underlying9 rfl rfl rfl hxs8) rfl (MV rfl rfl (ST (Ex.strEql rfl rfl) rfl (NL (TN ?_)))))))))))
    refine WC.condB rfl (fun hk9 => ?_) (fun hk9 => ?_)
    ·
     replace hk9 : s8 = p1 := of_decide_eq_true hk9
     rw [if_pos hk9] at e2
     refine SQ (RG (MV rfl rfl (AS rfl rfl (NL (TN (RT ?_))))))
     obtain rfl := oI e2
     try dsimp only at h
     obtain rfl := oI h
     exact WQ.ret1 rfl rfl H.ext rfl
    ·
     replace hk9 : ¬ (s8 = p1) := of_decide_eq_false hk9
     rw [if_neg hk9] at e2
     refine SK (IB (TN ?_))
     obtain ⟨n10, hxn10, e2⟩ := bnd e2
     refine RG (MV rfl rfl (ST (Ex.addC rfl rfl hxn10) rfl (AS rfl rfl (NL ?_))))
     exact WQ.againP m4 [(0, _), (1, _), (7, _)] ⟨rfl, rfl, rfl, trivial⟩ ⟨_, _, rfl, H, e2⟩ (Nat.lt_succ_self _)
   ·
    replace hk6 : ¬ (n5 ≤ (p0.length : Int)) := of_decide_eq_false hk6
    rw [if_neg hk6] at e2
    refine WC.exit (WQ.thenExit (WQ.thenExit (WQ.exitHere ?_)))
    exact WQ.meetN [] trivial ⟨_, rfl, H, e2⟩
  ·
   rintro e w ⟨M, rfl, H, q11⟩
   obtain rfl := oI q11
   try dsimp only at h
   refine TN (SQ (RG (AS rfl rfl (NL (TN (RT ?_))))))
   obtain rfl := oI h
   exact WQ.ret1 rfl rfl H.ext rfl
theorem R_digitsOf_ct {p0 : List UInt8} {p1 : Int} {p2 : Int} {r : Int} (h : R_digitsOf p0 p1 p2 = some r) : Ct Tryz.prog 64 [S p0, I p1, I p2] (fun M => True) (fun v M => v = I r) := by
  refine Ct.of Tryz.func64 (enters Tryz.func64 (by kernel_rfl) rfl) rfl rfl rfl ?_
  intro w0 M0 H hp
  unfold R_digitsOf at h
  refine SQ (RG (AS rfl rfl (NL (TN (SQ (RG (AS rfl rfl (NL (TN (SQ (SQ (RG (AS rfl rfl (NL (TN ?_)))))))))))))))
  obtain ⟨o1, e2, h⟩ := bnd h
  refine WC.cutX (fun e w => ∃ (n3 : Int) (M : Mem), e = [(0, S p0), (1, I p1), (2, I p2), (7, I n3)] ∧ St w0 M0 M [] w ∧ some (.inl n3) = some o1) [] ?_ ?_ (trivial)
  ·
   refine BL (WC.loopP (fun m e w => ∃ (n4 : Int) (n5 : Int) (M : Mem), e = [(0, S p0), (1, I p1), (2, I p2), (7, I n4), (8, I n5)] ∧ St w0 M0 M [] w ∧ R_digitsOf_L1 p0 m n4 n5 = some o1) FU [(0, _), (1, _), (2, _), (7, _), (8, _)] ⟨rfl, rfl, rfl, rfl, rfl, trivial⟩ ⟨_, _, _, rfl, H, e2⟩ ?_)
   rintro m6 e w ⟨n4, n5, M, rfl, H, e2⟩
   rcases m6 with _ | m6
   · rw [R_digitsOf_L1] at e2; cases e2
   rw [R_digitsOf_L1] at e2
   refine SQ (SQ (RG (MV rfl rfl (MV rfl rfl (ST (Ex.lenStr Tryz.underlying9 rfl) rfl (ST (Ex.lss rfl rfl) rfl (NL (TN ?_))))))))
   refine WC.condB rfl (fun hk7 => ?_) (fun hk7 => ?_)
   ·
    replace hk7 : n5 < (p0.length : Int) := of_decide_eq_true hk7
    rw [if_pos hk7] at e2
    refine SK (TN (SQ (BL (SQ (SQ ?_)))))
    obtain ⟨o8, e9, e2⟩ := bnd e2
    refine WC.cutX (fun e w => ∃ (b10 : Bool) (M : Mem), e = [(0, S p0), (1, I p1), (2, I p2), (7, I n4), (8, I n5), (24, Value.bool b10)] ∧ St w0 M0 M [] w ∧ some b10 = some o8) [] ?_ ?_ (trivial)
    ·
     obtain ⟨c11, hxc11, e9⟩ := bnd e9
     obtain ⟨b12, hx13, e9⟩ := bnd e9
     refine RG (MV rfl rfl (MV rfl rfl (ST (Ex.idxStrC Tryz.underlying9 rfl rfl hxc11) rfl (ST (Ex.convB Tryz.underlying5 Tryz.underlying3 rfl) rfl (WR.call H (R_In_ct hx13) rfl trivial (Wn.none rfl) rfl ?_)))))
     intro v19 M w H hle hR
     obtain rfl := hR
     refine ST (Ex.not rfl) rfl (MV rfl rfl ?_)
     rcases b12 with _ | _
     ·
      rw [if_neg Bool.false_ne_true] at e9
      refine GT rfl rfl rfl (GT rfl rfl rfl (PT rfl rfl rfl (NL ?_)))
      exact WQ.meetN [(0, _), (1, _), (2, _), (7, _), (8, _), (24, _)] ⟨rfl, rfl, rfl, rfl, rfl, rfl, trivial⟩ ⟨_, _, rfl, H, e9⟩
     ·
      rw [if_pos rfl] at e9
      refine SG (Ex.move rfl) rfl rfl rfl (SG (Ex.geq rfl rfl) rfl rfl rfl (PF rfl rfl rfl (NL ?_)))
      exact WQ.meetN [(0, _), (1, _), (2, _), (7, _), (8, _), (24, _)] ⟨rfl, rfl, rfl, rfl, rfl, rfl, trivial⟩ ⟨_, _, rfl, H, e9⟩
    ·
     rintro e w ⟨b10, M, rfl, H, q14⟩
     obtain rfl := oI q14
     refine TN ?_
     refine WC.condB rfl (fun hk15 => ?_) (fun hk15 => ?_)
     ·
      subst hk15
      rw [if_pos rfl] at e2
      refine SQ (RG (AS rfl rfl (NL (TN (RT ?_)))))
      obtain rfl := oI e2
      try dsimp only at h
      obtain rfl := oI h
      exact WQ.ret1 rfl rfl H.ext rfl
     ·
      subst hk15
      rw [if_neg Bool.false_ne_true] at e2
      refine SK (TN ?_)
      obtain ⟨n16, hxn16, e2⟩ := bnd e2
      obtain ⟨c17, hxc17, e2⟩ := bnd e2
      obtain ⟨n18, hxn18, e2⟩ := bnd e2
      refine RG (MV rfl rfl (ST (Ex.mulC rfl rfl hxn16) rfl (MV rfl rfl (MV rfl rfl (ST (Ex.idxStrC Tryz.underlying9 rfl rfl hxc17) rfl (ST (Ex.subB (c := c17) (d := 48) rfl rfl) rfl (ST (Ex.convB Tryz.underlying5 Tryz.underlying3 rfl) rfl (ST (Ex.addC rfl rfl hxn18) rfl (AS rfl rfl (NL (IB (TN ?_))))))))))))
      obtain ⟨n19, hxn19, e2⟩ := bnd e2
      refine RG (MV rfl rfl (ST (Ex.addC rfl rfl hxn19) rfl (AS rfl rfl (NL ?_))))
      exact WQ.againP m6 [(0, _), (1, _), (2, _), (7, _), (8, _)] ⟨rfl, rfl, rfl, rfl, rfl, trivial⟩ ⟨_, _, _, rfl, H, e2⟩ (Nat.lt_succ_self _)
   ·
    replace hk7 : ¬ (n5 < (p0.length : Int)) := of_decide_eq_false hk7
    rw [if_neg hk7] at e2
    refine WC.exit (WQ.thenExit (WQ.thenExit (WQ.exitHere ?_)))
    exact WQ.meetN [(0, _), (1, _), (2, _), (7, _)] ⟨rfl, rfl, rfl, rfl, trivial⟩ ⟨_, _, rfl, H, e2⟩
  ·
   rintro e w ⟨n3, M, rfl, H, q20⟩
   obtain rfl := oI q20
   try dsimp only at h
   refine TN (SQ (SQ ?_))
   obtain ⟨b21, hx22, h⟩ := bnd h
   refine RG (MV rfl rfl (ST (Ex.lenStr Tryz.underlying9 rfl) rfl (MV rfl rfl (MV rfl rfl (WR.call H (R_In_ct hx22) rfl trivial (Wn.none rfl) rfl ?_)))))
   intro v37 M w H hle hR
   obtain rfl := hR
   refine ST (Ex.not rfl) rfl (NL (TN ?_))
   refine WC.condB rfl (fun hk23 => ?_) (fun hk23 => ?_)
   ·
    replace hk23 : b21 = false := by simpa using hk23
    subst hk23
    rw [if_neg Bool.false_ne_true] at h
    refine SQ (RG (AS rfl rfl (NL (TN (RT ?_)))))
    obtain rfl := oI h
    exact WQ.ret1 rfl rfl H.ext rfl
   ·
    replace hk23 : b21 = true := by simpa using hk23
    subst hk23
    rw [if_pos rfl] at h
    refine SK (TN (SQ (RG (MV rfl rfl (AS rfl rfl (NL (TN (RT ?_))))))))
    obtain rfl := oI h
    exact WQ.ret1 rfl rfl H.ext rfl
theorem R_pieceOf_ct {p0 : List UInt8} {p1 : List UInt8} {r : ((List UInt8 × List UInt8 × Int × Bool) × Bool)} (h : R_pieceOf p0 p1 = some r) : Ct Tryz.prog 37 [S p0, S p1] (fun M => True) (fun v M => v = Value.tuple #[Value.agg #[S r.1.1, S r.1.2.1, I r.1.2.2.1, Value.bool r.1.2.2.2], Value.bool r.2]) := by
  refine Ct.of Tryz.func37 (enters Tryz.func37 (by kernel_rfl) rfl) rfl rfl rfl ?_
  intro w0 M0 H hp
  unfold R_pieceOf at h
  refine SQ (RG (WR.alloc [_, _, _, _] H Tryz.zeroValue58 rfl (Wn.none rfl) rfl ?_))
  intro bk4 w H
  refine AS rfl rfl (NL (TN (SQ ?_)))
  obtain ⟨n1, hx2, h⟩ := bnd h
  refine RG (MV rfl rfl (WR.call H (R_Find_ct hx2) rfl trivial (Wn.none rfl) rfl ?_))
  intro v10 M w H hle hR
  obtain rfl := hR
  refine AS rfl rfl (NL (TN (SQ (SQ (RG (MV rfl rfl (ST (Ex.lss rfl rfl) rfl (NL (TN ?_)))))))))
  refine WC.condB rfl (fun hk3 => ?_) (fun hk3 => ?_)
  ·
   replace hk3 : n1 < (0 : Int) := of_decide_eq_true hk3
   rw [if_pos hk3] at h
   refine SQ (RG (MV rfl rfl (MV rfl rfl (ST (Ex.build [S p0, S p1, I (-1), Value.bool false] Tryz.underlying58 Tryz.zeroValue58 (xplaces58 Tryz.underlying58) rfl (by kernel_rfl)) rfl (MV rfl rfl (ST (Ex.strNeqC rfl rfl) rfl (WR.store [_, _, _, _] H rfl rfl rfl (by repeat first | exact .head | apply Upd.tail) Tryz.sizeOf58 rfl (by rfl) (by rfl) (Wn.none rfl) ?_)))))))
   intro w H
   refine AS rfl rfl (NL (TN (RT ?_)))
   obtain rfl := oI h
   exact WQ.ret2 rfl ⟨_, rfl, H.loadAgg (by repeat first | exact kMh | apply kMt) Tryz.isAgg58 Tryz.sizeOf58 (by rfl)⟩ rfl H.ext rfl
  ·
   replace hk3 : ¬ (n1 < (0 : Int)) := of_decide_eq_false hk3
   rw [if_neg hk3] at h
   refine SK (TN (SQ ?_))
   obtain ⟨n4, hxn4, h⟩ := bnd h
   obtain ⟨s5, hxs5, h⟩ := bnd h
   refine RG (MV rfl rfl (MV rfl rfl (ST (Ex.addC rfl rfl hxn4) rfl (ST (Ex.sliceL Tryz.underlying9 rfl rfl hxs5) rfl (AS rfl rfl (NL (TN (SQ ?_))))))))
   obtain ⟨s6, hxs6, h⟩ := bnd h
   refine RG (MV rfl rfl (MV rfl rfl (ST (Ex.sliceH Tryz.underlying9 rfl rfl hxs6) rfl (MV rfl rfl (ST (Ex.build [S s6, S p1, I (-1), Value.bool false] Tryz.underlying58 Tryz.zeroValue58 (xplaces58 Tryz.underlying58) rfl (by kernel_rfl)) rfl (WR.alloc [_, _, _, _] H Tryz.zeroValue58 rfl (Wn.none rfl) rfl ?_))))))
   intro bk8 w H
   refine WR.store [_, _, _, _] H rfl rfl rfl (by repeat first | exact .head | apply Upd.tail) Tryz.sizeOf58 rfl (by rfl) (by rfl) (Wn.none rfl) ?_
   intro w H
   refine NL (TN (SQ (SQ ?_)))
   obtain ⟨o7, e8, h⟩ := bnd h
   refine WC.cutX (fun e w => ∃ (b9 : Bool) (M : Mem), e = [(4, ptr bk4 0), (7, S s5), (8, ptr bk8 0), (37, Value.bool b9)] ∧ St w0 M0 M [.blk bk4 (.cells #[S [], S [], I 0, Value.bool false] 58), .blk bk8 (.cells #[S s6, S p1, I (-1), Value.bool false] 58)] w ∧ some b9 = some o7) [] ?_ ?_ (trivial)
   ·
    refine RG (MV rfl rfl (ST (Ex.lenStr Tryz.underlying9 rfl) rfl ?_))
    by_cases hk10 : (0 : Int) < (s5.length : Int)
    ·
     rw [if_pos hk10] at e8
     obtain ⟨n11, hxn11, e8⟩ := bnd e8
     obtain ⟨c12, hxc12, e8⟩ := bnd e8
     refine WR.stepE (v' := .bool true) (Ex.gtr rfl rfl) (congrArg Value.bool (decide_eq_true hk10)) (Wn.none rfl) rfl rfl (MV rfl rfl (SG (Ex.move rfl) rfl rfl rfl (SG (Ex.move rfl) rfl rfl rfl (SG (Ex.lenStr Tryz.underlying9 rfl) rfl rfl rfl (SG (Ex.subC rfl rfl hxn11) rfl rfl rfl (SG (Ex.idxStrC Tryz.underlying9 rfl rfl hxc12) rfl rfl rfl (SG (Ex.eqlB (c := c12) (d := 42) rfl rfl) rfl rfl rfl (PT rfl rfl rfl (NL ?_)))))))))
     exact WQ.meetN [(4, _), (7, _), (8, _), (37, _)] ⟨rfl, rfl, rfl, rfl, trivial⟩ ⟨_, _, rfl, (H.pick (L' := [.blk bk4 (.cells #[S [], S [], I 0, Value.bool false] 58), .blk bk8 (.cells #[S s6, S p1, I (-1), Value.bool false] 58)]) (by repeat first | exact kPn | refine kPc (by repeat first | exact .head | apply Rem.tail) ?_)), e8⟩
    ·
     rw [if_neg hk10] at e8
     refine WR.stepE (v' := .bool false) (Ex.gtr rfl rfl) (congrArg Value.bool (decide_eq_false hk10)) (Wn.none rfl) rfl rfl (MV rfl rfl (WR.skipN 6 rfl rfl (PF rfl rfl rfl (NL ?_))))
     exact WQ.meetN [(4, _), (7, _), (8, _), (37, _)] ⟨rfl, rfl, rfl, rfl, trivial⟩ ⟨_, _, rfl, (H.pick (L' := [.blk bk4 (.cells #[S [], S [], I 0, Value.bool false] 58), .blk bk8 (.cells #[S s6, S p1, I (-1), Value.bool false] 58)]) (by repeat first | exact kPn | refine kPc (by repeat first | exact .head | apply Rem.tail) ?_)), e8⟩
   ·
    rintro e w ⟨b9, M, rfl, H, q13⟩
    obtain rfl := oI q13
    refine TN ?_
    obtain ⟨o14, e15, h⟩ := bnd h
    refine WC.cutX (fun e w => ∃ (s16 : List UInt8) (s17 : List UInt8) (s18 : List UInt8) (n19 : Int) (b20 : Bool) (M : Mem), e = [(4, ptr bk4 0), (7, S s16), (8, ptr bk8 0)] ∧ St w0 M0 M [.blk bk4 (.cells #[S [], S [], I 0, Value.bool false] 58), .blk bk8 (.cells #[S s17, S s18, I n19, Value.bool b20] 58)] w ∧ some (s16, s17, s18, n19, b20) = some o14) [] ?_ ?_ (trivial)
    ·
     refine WC.condB rfl (fun hk21 => ?_) (fun hk21 => ?_)
     ·
      subst hk21
      rw [if_pos rfl] at e15
      refine SQ (RG (ST (Ex.fieldAddr Tryz.underlying58 rfl Tryz.sizeOf4 (by decide) rfl) rfl (WR.store1 [_, _, _, _] H rfl rfl (by repeat first | exact .head | apply Upd.tail) (by rfl) Tryz.sizeOf4 (by first | decide | (simp; done) | (simp; omega)) (by rfl) (by rfl) (Wn.none rfl) ?_)))
      intro w H
      refine NL (TN ?_)
      obtain ⟨n22, hxn22, e15⟩ := bnd e15
      obtain ⟨s23, hxs23, e15⟩ := bnd e15
      refine RG (MV rfl rfl (MV rfl rfl (ST (Ex.lenStr Tryz.underlying9 rfl) rfl (ST (Ex.subC rfl rfl hxn22) rfl (ST (Ex.sliceH Tryz.underlying9 rfl rfl hxs23) rfl (AS rfl rfl (NL ?_)))))))
      exact WQ.meetN [(4, _), (7, _), (8, _)] ⟨rfl, rfl, rfl, trivial⟩ ⟨_, _, _, _, _, _, rfl, H, e15⟩
     ·
      subst hk21
      rw [if_neg Bool.false_ne_true] at e15
      refine SK ?_
      exact WQ.meetN [(4, _), (7, _), (8, _)] ⟨rfl, rfl, rfl, trivial⟩ ⟨_, _, _, _, _, _, rfl, H, e15⟩
    ·
     rintro e w ⟨s16, s17, s18, n19, b20, M, rfl, H, q24⟩
     obtain rfl := oI q24
     try dsimp only at h
     refine TN (SQ ?_)
     obtain ⟨n25, hx26, h⟩ := bnd h
     refine RG (MV rfl rfl (WR.call H (R_digitsOf_ct hx26) rfl trivial (Wn.none rfl) rfl ?_))
     intro v45 M w H hle hR
     obtain rfl := hR
     refine ST (Ex.fieldAddr Tryz.underlying58 rfl Tryz.sizeOf3 (by decide) rfl) rfl (WR.store1 [_, _, _, _] H rfl rfl (by repeat first | exact .head | apply Upd.tail) (by rfl) Tryz.sizeOf3 (by first | decide | (simp; done) | (simp; omega)) (by rfl) (by rfl) (Wn.none rfl) ?_)
     intro w H
     refine NL (TN (SQ ?_))
     obtain ⟨o27, e28, h⟩ := bnd h
     refine WC.cutX (fun e w => ∃ (s29 : List UInt8) (s30 : List UInt8) (n31 : Int) (b32 : Bool) (b33 : Bool) (M : Mem), e = [(4, ptr bk4 0), (5, Value.bool b33)] ∧ St w0 M0 M [.blk bk4 (.cells #[S s29, S s30, I n31, Value.bool b32] 58)] w ∧ some (s29, s30, n31, b32, b33) = some o27) [] ?_ ?_ (trivial)
     ·
      refine WC.draw (m := 18) rfl rfl H ?_
      intro w H
      refine WA.take (i := 1) rfl (by kernel_rfl) (by kernel_rfl) (by kernel_rfl) (fun _ => Ex.fieldAddr Tryz.underlying58 rfl Tryz.sizeOf9 (by decide) rfl) (Wn.none rfl) rfl rfl (fun _ _ => rfl) (WA.takeM (i := 2) [0] rfl (by kernel_rfl) (by kernel_rfl) (by kernel_rfl) (Ex.load1 H rfl (by repeat first | exact kMh | apply kMt) Tryz.isAgg9 (by rfl)) (Wn.none rfl) rfl rfl (fun _ _ => rfl) ?_)
      by_cases hk34 : s17 = []
      ·
       rw [if_pos hk34] at e28
       refine WA.takeE (v' := .bool false) (i := 3) rfl (by kernel_rfl) (by kernel_rfl) (by kernel_rfl) (fun _ => Ex.strNeqC rfl rfl) (congrArg Value.bool (by rw [decide_eq_true hk34]; rfl)) (Wn.none rfl) rfl rfl (fun _ _ => rfl) ?_
       refine WA.take (i := 4) rfl (by kernel_rfl) (by kernel_rfl) (by kernel_rfl) (fun _ => Ex.move rfl) (Wn.none rfl) rfl rfl (fun _ _ => rfl) (WA.takes (fuel := 11) [5, 6, 7] rfl (by kernel_rfl) (by kernel_rfl) rfl (WA.take (i := 8) rfl (by kernel_rfl) (by kernel_rfl) (by kernel_rfl) (fun _ => Ex.pickF rfl rfl) (Wn.none rfl) rfl rfl (fun _ _ => rfl) (WA.take (i := 9) rfl (by kernel_rfl) (by kernel_rfl) (by kernel_rfl) (fun _ => Ex.move rfl) (Wn.none rfl) rfl rfl (fun _ _ => rfl) (WA.takes (fuel := 6) [10, 11, 13] rfl (by kernel_rfl) (by kernel_rfl) rfl ?_))))
       refine WA.two (i := 0) (j := 12) (by kernel_rfl) rfl rfl ?_ ?_
       ·
        refine ST (Ex.loadAgg H rfl (by repeat first | exact kMh | apply kMt) Tryz.isAgg58 Tryz.sizeOf58 (by rfl)) rfl ?_
        refine NA (ON 12 (by kernel_rfl) rfl (GF rfl rfl rfl (NA (WA.takeN (i := 14) rfl (by kernel_rfl) (by kernel_rfl) (by kernel_rfl) (wanted_g (b := false) rfl rfl rfl) rfl rfl (fun _ _ => rfl) (WA.take (i := 15) rfl (by kernel_rfl) (by kernel_rfl) (by kernel_rfl) (fun _ => Ex.pickF rfl rfl) (Wn.none rfl) rfl rfl (fun _ _ => rfl) (WA.seq (fuel := 0) [16, 17] rfl (by kernel_rfl) (WR.store [_, _, _, _] H rfl rfl rfl (by repeat first | exact .head | apply Upd.tail) Tryz.sizeOf58 rfl (by rfl) (by rfl) (Wn.none rfl) ?_)))))))
        intro w H
        refine AS rfl rfl (NA (WA.done (by kernel_rfl) ?_))
        exact WQ.meetN [(4, _), (5, _)] ⟨rfl, rfl, trivial⟩ ⟨_, _, _, _, _, _, rfl, (H.pick (L' := [.blk bk4 (.cells #[S s17, S s18, I n25, Value.bool b20] 58)]) (by repeat first | exact kPn | refine kPc (by repeat first | exact .head | apply Rem.tail) ?_)), e28⟩
       ·
        refine GF rfl rfl rfl (NA (WA.takeN (i := 14) rfl (by kernel_rfl) (by kernel_rfl) (by kernel_rfl) (wanted_g (b := false) rfl rfl rfl) rfl rfl (fun _ _ => rfl) (WA.take (i := 15) rfl (by kernel_rfl) (by kernel_rfl) (by kernel_rfl) (fun _ => Ex.pickF rfl rfl) (Wn.none rfl) rfl rfl (fun _ _ => rfl) (WA.seq (fuel := 0) [0, 16, 17] rfl (by kernel_rfl) (ST (Ex.loadAgg H rfl (by repeat first | exact kMh | apply kMt) Tryz.isAgg58 Tryz.sizeOf58 (by rfl)) rfl ?_)))))
        refine WR.store [_, _, _, _] H rfl rfl rfl (by repeat first | exact .head | apply Upd.tail) Tryz.sizeOf58 rfl (by rfl) (by rfl) (Wn.none rfl) ?_
        intro w H
        refine AS rfl rfl (NA (WA.done (by kernel_rfl) ?_))
        exact WQ.meetN [(4, _), (5, _)] ⟨rfl, rfl, trivial⟩ ⟨_, _, _, _, _, _, rfl, (H.pick (L' := [.blk bk4 (.cells #[S s17, S s18, I n25, Value.bool b20] 58)]) (by repeat first | exact kPn | refine kPc (by repeat first | exact .head | apply Rem.tail) ?_)), e28⟩
      ·
       rw [if_neg hk34] at e28
       refine WA.takeE (v' := .bool true) (i := 3) rfl (by kernel_rfl) (by kernel_rfl) (by kernel_rfl) (fun _ => Ex.strNeqC rfl rfl) (congrArg Value.bool (by rw [decide_eq_false hk34]; rfl)) (Wn.none rfl) rfl rfl (fun _ _ => rfl) ?_
       by_cases hk35 : (0 : Int) ≤ n25
       ·
        rw [if_pos hk35] at e28
        obtain ⟨s36, hx37, e28⟩ := bnd e28
        refine WA.take (i := 4) rfl (by kernel_rfl) (by kernel_rfl) (by kernel_rfl) (fun _ => Ex.move rfl) (Wn.none rfl) rfl rfl (fun _ _ => rfl) (WA.take (i := 5) rfl (by kernel_rfl) (by kernel_rfl) (by kernel_rfl) (fun _ => Ex.fieldAddr Tryz.underlying58 rfl Tryz.sizeOf3 (by decide) rfl) (Wn.some rfl rfl rfl) rfl rfl (fun _ _ => rfl) (WA.takeM (i := 6) [0] rfl (by kernel_rfl) (by kernel_rfl) (by kernel_rfl) (Ex.load1 H rfl (by repeat first | exact kMh | apply kMt) Tryz.isAgg3 (by rfl)) (Wn.some rfl rfl rfl) rfl rfl (fun _ _ => rfl) ?_))
        refine WA.takeE (v' := .bool true) (i := 7) rfl (by kernel_rfl) (by kernel_rfl) (by kernel_rfl) (fun _ => Ex.geq rfl rfl) (congrArg Value.bool (decide_eq_true hk35)) (Wn.some rfl rfl rfl) rfl rfl (fun _ _ => rfl) (WA.take (i := 8) rfl (by kernel_rfl) (by kernel_rfl) (by kernel_rfl) (fun _ => Ex.pickT rfl rfl) (Wn.none rfl) rfl rfl (fun _ _ => rfl) (WA.take (i := 9) rfl (by kernel_rfl) (by kernel_rfl) (by kernel_rfl) (fun _ => Ex.move rfl) (Wn.none rfl) rfl rfl (fun _ _ => rfl) (WA.take (i := 10) rfl (by kernel_rfl) (by kernel_rfl) (by kernel_rfl) (fun _ => Ex.fieldAddr Tryz.underlying58 rfl Tryz.sizeOf3 (by decide) rfl) (Wn.some rfl rfl rfl) rfl rfl (fun _ _ => rfl) (WA.take (i := 13) rfl (by kernel_rfl) (by kernel_rfl) (by kernel_rfl) (fun _ => Ex.move rfl) (Wn.some rfl rfl rfl) rfl rfl (fun _ _ => rfl) (WA.takeM (i := 11) [0] rfl (by kernel_rfl) (by kernel_rfl) (by kernel_rfl) (Ex.load1 H rfl (by repeat first | exact kMh | apply kMt) Tryz.isAgg3 (by rfl)) (Wn.some rfl rfl rfl) rfl rfl (fun _ _ => rfl) ?_)))))
        refine WA.two (i := 0) (j := 12) (by kernel_rfl) rfl rfl ?_ ?_
        ·
         refine ST (Ex.loadAgg H rfl (by repeat first | exact kMh | apply kMt) Tryz.isAgg58 Tryz.sizeOf58 (by rfl)) rfl ?_
         refine NA (ON 12 (by kernel_rfl) rfl (WR.call H (R_Number_ct hx37) rfl trivial (Wn.some rfl rfl rfl) rfl ?_))
         intro v59 M w H hle hR
         obtain rfl := hR
         refine NA (WA.take (i := 14) rfl (by kernel_rfl) (by kernel_rfl) (by kernel_rfl) (fun _ => Ex.strEql rfl rfl) (Wn.some rfl rfl rfl) rfl rfl (fun _ _ => rfl) (WA.take (i := 15) rfl (by kernel_rfl) (by kernel_rfl) (by kernel_rfl) (fun _ => Ex.pickT rfl rfl) (Wn.none rfl) rfl rfl (fun _ _ => rfl) (WA.seq (fuel := 0) [16, 17] rfl (by kernel_rfl) (WR.store [_, _, _, _] H rfl rfl rfl (by repeat first | exact .head | apply Upd.tail) Tryz.sizeOf58 rfl (by rfl) (by rfl) (Wn.none rfl) ?_))))
         intro w H
         refine AS rfl rfl (NA (WA.done (by kernel_rfl) ?_))
         exact WQ.meetN [(4, _), (5, _)] ⟨rfl, rfl, trivial⟩ ⟨_, _, _, _, _, _, rfl, (H.pick (L' := [.blk bk4 (.cells #[S s17, S s18, I n25, Value.bool b20] 58)]) (by repeat first | exact kPn | refine kPc (by repeat first | exact .head | apply Rem.tail) ?_)), e28⟩
        ·
         refine WR.call H (R_Number_ct hx37) rfl trivial (Wn.some rfl rfl rfl) rfl ?_
         intro v59 M w H hle hR
         obtain rfl := hR
         refine NA (WA.take (i := 14) rfl (by kernel_rfl) (by kernel_rfl) (by kernel_rfl) (fun _ => Ex.strEql rfl rfl) (Wn.some rfl rfl rfl) rfl rfl (fun _ _ => rfl) (WA.take (i := 15) rfl (by kernel_rfl) (by kernel_rfl) (by kernel_rfl) (fun _ => Ex.pickT rfl rfl) (Wn.none rfl) rfl rfl (fun _ _ => rfl) (WA.seq (fuel := 0) [0, 16, 17] rfl (by kernel_rfl) (ST (Ex.loadAgg H rfl (by repeat first | exact kMh | apply kMt) Tryz.isAgg58 Tryz.sizeOf58 (by rfl)) rfl ?_))))
         refine WR.store [_, _, _, _] H rfl rfl rfl (by repeat first | exact .head | apply Upd.tail) Tryz.sizeOf58 rfl (by rfl) (by rfl) (Wn.none rfl) ?_
         intro w H
         refine AS rfl rfl (NA (WA.done (by kernel_rfl) ?_))
         exact WQ.meetN [(4, _), (5, _)] ⟨rfl, rfl, trivial⟩ ⟨_, _, _, _, _, _, rfl, (H.pick (L' := [.blk bk4 (.cells #[S s17, S s18, I n25, Value.bool b20] 58)]) (by repeat first | exact kPn | refine kPc (by repeat first | exact .head | apply Rem.tail) ?_)), e28⟩
       ·
        rw [if_neg hk35] at e28
        refine WA.take (i := 4) rfl (by kernel_rfl) (by kernel_rfl) (by kernel_rfl) (fun _ => Ex.move rfl) (Wn.none rfl) rfl rfl (fun _ _ => rfl) (WA.take (i := 5) rfl (by kernel_rfl) (by kernel_rfl) (by kernel_rfl) (fun _ => Ex.fieldAddr Tryz.underlying58 rfl Tryz.sizeOf3 (by decide) rfl) (Wn.some rfl rfl rfl) rfl rfl (fun _ _ => rfl) (WA.takeM (i := 6) [0] rfl (by kernel_rfl) (by kernel_rfl) (by kernel_rfl) (Ex.load1 H rfl (by repeat first | exact kMh | apply kMt) Tryz.isAgg3 (by rfl)) (Wn.some rfl rfl rfl) rfl rfl (fun _ _ => rfl) ?_))
        refine WA.takeE (v' := .bool false) (i := 7) rfl (by kernel_rfl) (by kernel_rfl) (by kernel_rfl) (fun _ => Ex.geq rfl rfl) (congrArg Value.bool (decide_eq_false hk35)) (Wn.some rfl rfl rfl) rfl rfl (fun _ _ => rfl) (WA.take (i := 8) rfl (by kernel_rfl) (by kernel_rfl) (by kernel_rfl) (fun _ => Ex.pickT rfl rfl) (Wn.none rfl) rfl rfl (fun _ _ => rfl) (WA.take (i := 9) rfl (by kernel_rfl) (by kernel_rfl) (by kernel_rfl) (fun _ => Ex.move rfl) (Wn.none rfl) rfl rfl (fun _ _ => rfl) (WA.takes (fuel := 6) [10, 11, 13] rfl (by kernel_rfl) (by kernel_rfl) rfl ?_)))
        refine WA.two (i := 0) (j := 12) (by kernel_rfl) rfl rfl ?_ ?_
        ·
         refine ST (Ex.loadAgg H rfl (by repeat first | exact kMh | apply kMt) Tryz.isAgg58 Tryz.sizeOf58 (by rfl)) rfl ?_
         refine NA (ON 12 (by kernel_rfl) rfl (GF rfl rfl rfl (NA (WA.takeN (i := 14) rfl (by kernel_rfl) (by kernel_rfl) (by kernel_rfl) (wanted_g (b := false) rfl rfl rfl) rfl rfl (fun _ _ => rfl) (WA.take (i := 15) rfl (by kernel_rfl) (by kernel_rfl) (by kernel_rfl) (fun _ => Ex.pickF rfl rfl) (Wn.none rfl) rfl rfl (fun _ _ => rfl) (WA.seq (fuel := 0) [16, 17] rfl (by kernel_rfl) (WR.store [_, _, _, _] H rfl rfl rfl (by repeat first | exact .head | apply Upd.tail) Tryz.sizeOf58 rfl (by rfl) (by rfl) (Wn.none rfl) ?_)))))))
         intro w H
         refine AS rfl rfl (NA (WA.done (by kernel_rfl) ?_))
         exact WQ.meetN [(4, _), (5, _)] ⟨rfl, rfl, trivial⟩ ⟨_, _, _, _, _, _, rfl, (H.pick (L' := [.blk bk4 (.cells #[S s17, S s18, I n25, Value.bool b20] 58)]) (by repeat first | exact kPn | refine kPc (by repeat first | exact .head | apply Rem.tail) ?_)), e28⟩
        ·
         refine GF rfl rfl rfl (NA (WA.takeN (i := 14) rfl (by kernel_rfl) (by kernel_rfl) (by kernel_rfl) (wanted_g (b := false) rfl rfl rfl) rfl rfl (fun _ _ => rfl) (WA.take (i := 15) rfl (by kernel_rfl) (by kernel_rfl) (by kernel_rfl) (fun _ => Ex.pickF rfl rfl) (Wn.none rfl) rfl rfl (fun _ _ => rfl) (WA.seq (fuel := 0) [0, 16, 17] rfl (by kernel_rfl) (ST (Ex.loadAgg H rfl (by repeat first | exact kMh | apply kMt) Tryz.isAgg58 Tryz.sizeOf58 (by rfl)) rfl ?_)))))
         refine WR.store [_, _, _, _] H rfl rfl rfl (by repeat first | exact .head | apply Upd.tail) Tryz.sizeOf58 rfl (by rfl) (by rfl) (Wn.none rfl) ?_
         intro w H
         refine AS rfl rfl (NA (WA.done (by kernel_rfl) ?_))
         exact WQ.meetN [(4, _), (5, _)] ⟨rfl, rfl, trivial⟩ ⟨_, _, _, _, _, _, rfl, (H.pick (L' := [.blk bk4 (.cells #[S s17, S s18, I n25, Value.bool b20] 58)]) (by repeat first | exact kPn | refine kPc (by repeat first | exact .head | apply Rem.tail) ?_)), e28⟩
     ·
      rintro e w ⟨s29, s30, n31, b32, b33, M, rfl, H, q38⟩
      obtain rfl := oI q38
      try dsimp only at h
      refine TN (RT ?_)
      obtain rfl := oI h
      exact WQ.ret2 rfl ⟨_, rfl, H.loadAgg (by repeat first | exact kMh | apply kMt) Tryz.isAgg58 Tryz.sizeOf58 (by rfl)⟩ rfl H.ext rfl
theorem R_Hex_ct {p0 : UInt8} {r : Int} (h : R_Hex p0 = some r) : Ct Tryz.prog 65 [encB p0] (fun M => True) (fun v M => v = I r) := by
  refine Ct.of Tryz.func65 (enters Tryz.func65 (by kernel_rfl) rfl) rfl rfl rfl ?_
  intro w0 M0 H hp
  unfold R_Hex at h
  refine SQ (RG (AS rfl rfl (NL (TN (SQ (SQ (RG (AS rfl rfl (NL (TN ?_))))))))))
  obtain ⟨o1, e2, h⟩ := bnd h
  refine WC.cutX (fun e w => ∃  (M : Mem), e = [] ∧ St w0 M0 M [] w ∧ some (.inl ()) = some o1) [] ?_ ?_ (trivial)
  ·
   refine BL (WC.loopP (fun m e w => ∃ (n3 : Int) (M : Mem), e = [(0, encB p0), (3, I n3)] ∧ St w0 M0 M [] w ∧ R_Hex_L1 p0 m n3 = some o1) FU [(0, _), (3, _)] ⟨rfl, rfl, trivial⟩ ⟨_, _, rfl, H, e2⟩ ?_)
   rintro m4 e w ⟨n3, M, rfl, H, e2⟩
   rcases m4 with _ | m4
   · rw [R_Hex_L1] at e2; cases e2
   rw [R_Hex_L1] at e2
   refine SQ (SQ (RG (MV rfl rfl (ST (Ex.lss rfl rfl) rfl (NL (TN ?_))))))
   refine WC.condB rfl (fun hk5 => ?_) (fun hk5 => ?_)
   ·
    replace hk5 : n3 < (16 : Int) := of_decide_eq_true hk5
    rw [if_pos hk5] at e2
    refine SK (TN (SQ (BL (SQ ?_))))
    obtain ⟨o6, e7, e2⟩ := bnd e2
    refine WC.cutX (fun e w => ∃ (b8 : Bool) (M : Mem), e = [(0, encB p0), (3, I n3), (18, Value.bool b8)] ∧ St w0 M0 M [] w ∧ some b8 = some o6) [] ?_ ?_ (trivial)
    ·
     obtain ⟨c9, hxc9, e7⟩ := bnd e7
     refine RG (MV rfl rfl (ST (Ex.idxStrC Tryz.underlying9 rfl rfl hxc9) rfl (MV rfl rfl ?_)))
     by_cases hk10 : c9 = p0
     ·
      rw [if_pos hk10] at e7
      refine WR.stepE (v' := .bool true) (Ex.eqlB (c := c9) (d := p0) rfl rfl) (congrArg Value.bool (decide_eq_true hk10)) (Wn.none rfl) rfl rfl (MV rfl rfl (WR.skipN 5 rfl rfl (PT rfl rfl rfl (NL ?_))))
      exact WQ.meetN [(0, _), (3, _), (18, _)] ⟨rfl, rfl, rfl, trivial⟩ ⟨_, _, rfl, H, e7⟩
     ·
      rw [if_neg hk10] at e7
      obtain ⟨s11, hx12, e7⟩ := bnd e7
      obtain ⟨c13, hxc13, e7⟩ := bnd e7
      refine WR.stepE (v' := .bool false) (Ex.eqlB (c := c9) (d := p0) rfl rfl) (congrArg Value.bool (decide_eq_false hk10)) (Wn.none rfl) rfl rfl (MV rfl rfl (WR.call H (R_Lower_ct hx12) rfl trivial (Wn.some rfl rfl rfl) rfl ?_))
      intro v13 M w H hle hR
      obtain rfl := hR
      refine SG (Ex.move rfl) rfl rfl rfl (SG (Ex.idxStrC Tryz.underlying9 rfl rfl hxc13) rfl rfl rfl (SG (Ex.move rfl) rfl rfl rfl (SG (Ex.eqlB (c := c13) (d := p0) rfl rfl) rfl rfl rfl (PF rfl rfl rfl (NL ?_)))))
      exact WQ.meetN [(0, _), (3, _), (18, _)] ⟨rfl, rfl, rfl, trivial⟩ ⟨_, _, rfl, H, e7⟩
    ·
     rintro e w ⟨b8, M, rfl, H, q14⟩
     obtain rfl := oI q14
     refine TN ?_
     refine WC.condB rfl (fun hk15 => ?_) (fun hk15 => ?_)
     ·
      subst hk15
      rw [if_pos rfl] at e2
      refine SQ (RG (MV rfl rfl (AS rfl rfl (NL (TN (RT ?_))))))
      obtain rfl := oI e2
      try dsimp only at h
      obtain rfl := oI h
      exact WQ.ret1 rfl rfl H.ext rfl
     ·
      subst hk15
      rw [if_neg Bool.false_ne_true] at e2
      refine SK (IB (TN ?_))
      obtain ⟨n16, hxn16, e2⟩ := bnd e2
      refine RG (MV rfl rfl (ST (Ex.addC rfl rfl hxn16) rfl (AS rfl rfl (NL ?_))))
      exact WQ.againP m4 [(0, _), (3, _)] ⟨rfl, rfl, trivial⟩ ⟨_, _, rfl, H, e2⟩ (Nat.lt_succ_self _)
   ·
    replace hk5 : ¬ (n3 < (16 : Int)) := of_decide_eq_false hk5
    rw [if_neg hk5] at e2
    refine WC.exit (WQ.thenExit (WQ.thenExit (WQ.exitHere ?_)))
    exact WQ.meetN [] trivial ⟨_, rfl, H, e2⟩
  ·
   rintro e w ⟨M, rfl, H, q17⟩
   obtain rfl := oI q17
   try dsimp only at h
   refine TN (SQ (RG (AS rfl rfl (NL (TN (RT ?_))))))
   obtain rfl := oI h
   exact WQ.ret1 rfl rfl H.ext rfl
theorem R_unpercent_ct {p0 : List UInt8} {r : List UInt8} (h : R_unpercent p0 = some r) : Ct Tryz.prog 39 [S p0] (fun M => True) (fun v M => v = S r) := by
  refine Ct.of Tryz.func39 (enters Tryz.func39 (by kernel_rfl) rfl) rfl rfl rfl ?_
  intro w0 M0 H hp
  unfold R_unpercent at h
  refine SQ (RG (AS rfl rfl (NL (TN (SQ (RG (AS rfl rfl (NL (TN (SQ (SQ (RG (AS rfl rfl (NL (TN ?_)))))))))))))))
  obtain ⟨o1, e2, h⟩ := bnd h
  refine WC.cutX (fun e w => ∃ (s3 : List UInt8) (M : Mem), e = [(3, S s3)] ∧ St w0 M0 M [] w ∧ some s3 = some o1) [] ?_ ?_ (trivial)
  ·
   refine BL (WC.loopP (fun m e w => ∃ (s4 : List UInt8) (n5 : Int) (M : Mem), e = [(0, S p0), (3, S s4), (4, I n5)] ∧ St w0 M0 M [] w ∧ R_unpercent_L1 p0 m s4 n5 = some o1) FU [(0, _), (3, _), (4, _)] ⟨rfl, rfl, rfl, trivial⟩ ⟨_, _, _, rfl, H, e2⟩ ?_)
   rintro m6 e w ⟨s4, n5, M, rfl, H, e2⟩
   rcases m6 with _ | m6
   · rw [R_unpercent_L1] at e2; cases e2
   rw [R_unpercent_L1] at e2
   refine SQ (SQ (RG (MV rfl rfl (MV rfl rfl (ST (Ex.lenStr Tryz.underlying9 rfl) rfl (ST (Ex.lss rfl rfl) rfl (NL (TN ?_))))))))
   refine WC.condB rfl (fun hk7 => ?_) (fun hk7 => ?_)
   ·
    replace hk7 : n5 < (p0.length : Int) := of_decide_eq_true hk7
    rw [if_pos hk7] at e2
    refine SK (TN (SQ (BL (SQ ?_))))
    obtain ⟨o8, e9, e2⟩ := bnd e2
    refine WC.cutX (fun e w => ∃ (b10 : Bool) (M : Mem), e = [(0, S p0), (3, S s4), (4, I n5), (37, Value.bool b10)] ∧ St w0 M0 M [] w ∧ some b10 = some o8) [] ?_ ?_ (trivial)
    ·
     obtain ⟨c11, hxc11, e9⟩ := bnd e9
     refine RG (MV rfl rfl (MV rfl rfl (ST (Ex.idxStrC Tryz.underlying9 rfl rfl hxc11) rfl ?_)))
     by_cases hk12 : c11 = 37
     ·
      rw [if_pos hk12] at e9
      obtain ⟨n13, hxn13, e9⟩ := bnd e9
      by_cases hk14 : n13 < (p0.length : Int)
      ·
       rw [if_pos hk14] at e9
       obtain ⟨n15, hxn15, e9⟩ := bnd e9
       obtain ⟨c16, hxc16, e9⟩ := bnd e9
       obtain ⟨n17, hx18, e9⟩ := bnd e9
       by_cases hk19 : (0 : Int) ≤ n17
       ·
        rw [if_pos hk19] at e9
        obtain ⟨n20, hxn20, e9⟩ := bnd e9
        obtain ⟨c21, hxc21, e9⟩ := bnd e9
        obtain ⟨n22, hx23, e9⟩ := bnd e9
        refine WR.stepE (v' := .bool true) (Ex.eqlB (c := c11) (d := 37) rfl rfl) (congrArg Value.bool (decide_eq_true hk12)) (Wn.none rfl) rfl rfl (MV rfl rfl (SG (Ex.move rfl) rfl rfl rfl (SG (Ex.addC rfl rfl hxn13) rfl rfl rfl (SG (Ex.move rfl) rfl rfl rfl (SG (Ex.lenStr Tryz.underlying9 rfl) rfl rfl rfl (WR.stepE (v' := .bool true) (Ex.lss rfl rfl) (congrArg Value.bool (decide_eq_true hk14)) (Wn.some rfl rfl rfl) rfl rfl (PT rfl rfl rfl (MV rfl rfl (SG (Ex.move rfl) rfl rfl rfl (SG (Ex.move rfl) rfl rfl rfl (SG (Ex.addC rfl rfl hxn15) rfl rfl rfl (SG (Ex.idxStrC Tryz.underlying9 rfl rfl hxc16) rfl rfl rfl (WR.call H (R_Hex_ct hx18) rfl trivial (Wn.some rfl rfl rfl) rfl ?_)))))))))))))
        intro v27 M w H hle hR
        obtain rfl := hR
        refine WR.stepE (v' := .bool true) (Ex.geq rfl rfl) (congrArg Value.bool (decide_eq_true hk19)) (Wn.some rfl rfl rfl) rfl rfl (PT rfl rfl rfl (MV rfl rfl (SG (Ex.move rfl) rfl rfl rfl (SG (Ex.move rfl) rfl rfl rfl (SG (Ex.addC rfl rfl hxn20) rfl rfl rfl (SG (Ex.idxStrC Tryz.underlying9 rfl rfl hxc21) rfl rfl rfl (WR.call H (R_Hex_ct hx23) rfl trivial (Wn.some rfl rfl rfl) rfl ?_)))))))
        intro v35 M w H hle hR
        obtain rfl := hR
        refine SG (Ex.geq rfl rfl) rfl rfl rfl (PT rfl rfl rfl (NL ?_))
        exact WQ.meetN [(0, _), (3, _), (4, _), (37, _)] ⟨rfl, rfl, rfl, rfl, trivial⟩ ⟨_, _, rfl, H, e9⟩
       ·
        rw [if_neg hk19] at e9
        refine WR.stepE (v' := .bool true) (Ex.eqlB (c := c11) (d := 37) rfl rfl) (congrArg Value.bool (decide_eq_true hk12)) (Wn.none rfl) rfl rfl (MV rfl rfl (SG (Ex.move rfl) rfl rfl rfl (SG (Ex.addC rfl rfl hxn13) rfl rfl rfl (SG (Ex.move rfl) rfl rfl rfl (SG (Ex.lenStr Tryz.underlying9 rfl) rfl rfl rfl (WR.stepE (v' := .bool true) (Ex.lss rfl rfl) (congrArg Value.bool (decide_eq_true hk14)) (Wn.some rfl rfl rfl) rfl rfl (PT rfl rfl rfl (MV rfl rfl (SG (Ex.move rfl) rfl rfl rfl (SG (Ex.move rfl) rfl rfl rfl (SG (Ex.addC rfl rfl hxn15) rfl rfl rfl (SG (Ex.idxStrC Tryz.underlying9 rfl rfl hxc16) rfl rfl rfl (WR.call H (R_Hex_ct hx18) rfl trivial (Wn.some rfl rfl rfl) rfl ?_)))))))))))))
        intro v27 M w H hle hR
        obtain rfl := hR
        refine WR.stepE (v' := .bool false) (Ex.geq rfl rfl) (congrArg Value.bool (decide_eq_false hk19)) (Wn.some rfl rfl rfl) rfl rfl (PT rfl rfl rfl (MV rfl rfl (WR.skipN 6 rfl rfl (PF rfl rfl rfl (NL ?_)))))
        exact WQ.meetN [(0, _), (3, _), (4, _), (37, _)] ⟨rfl, rfl, rfl, rfl, trivial⟩ ⟨_, _, rfl, H, e9⟩
      ·
       rw [if_neg hk14] at e9
       refine WR.stepE (v' := .bool true) (Ex.eqlB (c := c11) (d := 37) rfl rfl) (congrArg Value.bool (decide_eq_true hk12)) (Wn.none rfl) rfl rfl (MV rfl rfl (SG (Ex.move rfl) rfl rfl rfl (SG (Ex.addC rfl rfl hxn13) rfl rfl rfl (SG (Ex.move rfl) rfl rfl rfl (SG (Ex.lenStr Tryz.underlying9 rfl) rfl rfl rfl (WR.stepE (v' := .bool false) (Ex.lss rfl rfl) (congrArg Value.bool (decide_eq_false hk14)) (Wn.some rfl rfl rfl) rfl rfl (PT rfl rfl rfl (MV rfl rfl (WR.skipN 6 rfl rfl (PF rfl rfl rfl (MV rfl rfl (WR.skipN 6 rfl rfl (PF rfl rfl rfl (NL ?_))))))))))))))
       exact WQ.meetN [(0, _), (3, _), (4, _), (37, _)] ⟨rfl, rfl, rfl, rfl, trivial⟩ ⟨_, _, rfl, H, e9⟩
     ·
      rw [if_neg hk12] at e9
      refine WR.stepE (v' := .bool false) (Ex.eqlB (c := c11) (d := 37) rfl rfl) (congrArg Value.bool (decide_eq_false hk12)) (Wn.none rfl) rfl rfl (MV rfl rfl (WR.skipN 5 rfl rfl (PF rfl rfl rfl (MV rfl rfl (WR.skipN 6 rfl rfl (PF rfl rfl rfl (MV rfl rfl (WR.skipN 6 rfl rfl (PF rfl rfl rfl (NL ?_))))))))))
      exact WQ.meetN [(0, _), (3, _), (4, _), (37, _)] ⟨rfl, rfl, rfl, rfl, trivial⟩ ⟨_, _, rfl, H, e9⟩
    ·
     rintro e w ⟨b10, M, rfl, H, q24⟩
     obtain rfl := oI q24
     refine TN ?_
     refine WC.condB rfl (fun hk25 => ?_) (fun hk25 => ?_)
     ·
      subst hk25
      rw [if_pos rfl] at e2
      refine SQ ?_
      obtain ⟨n26, hxn26, e2⟩ := bnd e2
      obtain ⟨c27, hxc27, e2⟩ := bnd e2
      obtain ⟨n28, hx29, e2⟩ := bnd e2
      obtain ⟨n30, hxn30, e2⟩ := bnd e2
      obtain ⟨n31, hxn31, e2⟩ := bnd e2
      obtain ⟨c32, hxc32, e2⟩ := bnd e2
      obtain ⟨n33, hx34, e2⟩ := bnd e2
      obtain ⟨n35, hxn35, e2⟩ := bnd e2
      obtain ⟨s36, hxs36, e2⟩ := bnd e2
      refine WC.draw (m := 18) rfl rfl H ?_
      intro w H
      refine WA.take (i := 0) rfl (by kernel_rfl) (by kernel_rfl) (by kernel_rfl) (fun _ => Ex.move rfl) (Wn.none rfl) rfl rfl (fun _ _ => rfl) (WA.take (i := 1) rfl (by kernel_rfl) (by kernel_rfl) (by kernel_rfl) (fun _ => Ex.move rfl) (Wn.none rfl) rfl rfl (fun _ _ => rfl) (WA.take (i := 2) rfl (by kernel_rfl) (by kernel_rfl) (by kernel_rfl) (fun _ => Ex.move rfl) (Wn.none rfl) rfl rfl (fun _ _ => rfl) (WA.take (i := 3) rfl (by kernel_rfl) (by kernel_rfl) (by kernel_rfl) (fun _ => Ex.addC rfl rfl hxn26) (Wn.none rfl) rfl rfl (fun _ _ => rfl) (WA.take (i := 4) rfl (by kernel_rfl) (by kernel_rfl) (by kernel_rfl) (fun _ => Ex.idxStrC Tryz.underlying9 rfl rfl hxc27) (Wn.none rfl) rfl rfl (fun _ _ => rfl) (WA.take (i := 7) rfl (by kernel_rfl) (by kernel_rfl) (by kernel_rfl) (fun _ => Ex.move rfl) (Wn.none rfl) rfl rfl (fun _ _ => rfl) (WA.take (i := 8) rfl (by kernel_rfl) (by kernel_rfl) (by kernel_rfl) (fun _ => Ex.move rfl) (Wn.none rfl) rfl rfl (fun _ _ => rfl) ?_))))))
      refine WA.take (i := 9) rfl (by kernel_rfl) (by kernel_rfl) (by kernel_rfl) (fun _ => Ex.addC rfl rfl hxn31) (Wn.none rfl) rfl rfl (fun _ _ => rfl) (WA.take (i := 10) rfl (by kernel_rfl) (by kernel_rfl) (by kernel_rfl) (fun _ => Ex.idxStrC Tryz.underlying9 rfl rfl hxc32) (Wn.none rfl) rfl rfl (fun _ _ => rfl) (ON 5 (by kernel_rfl) rfl (WR.call H (R_Hex_ct hx29) rfl trivial (Wn.none rfl) rfl ?_)))
      intro v43 M w H hle hR
      obtain rfl := hR
      refine NA (WA.take (i := 6) rfl (by kernel_rfl) (by kernel_rfl) (by kernel_rfl) (fun _ => Ex.mulC rfl rfl hxn30) (Wn.none rfl) rfl rfl (fun _ _ => rfl) (WA.seq (fuel := 0) [11, 12, 13, 14, 15, 16, 17] rfl (by kernel_rfl) (WR.call H (R_Hex_ct hx34) rfl trivial (Wn.none rfl) rfl ?_)))
      intro v49 M w H hle hR
      obtain rfl := hR
      refine ST (Ex.addC rfl rfl hxn35) rfl (ST (Ex.convU8C Tryz.underlying3 Tryz.underlying5 rfl) rfl (WR.lit (enc := encB) xty93 ([(ub8 n35)] : List UInt8) H rfl (by rfl) (fun _ => rfl) rfl rfl (Wn.none rfl) rfl ?_))
      intro v52 M w H hle hs52
      refine ST (Ex.toStr Tryz.underlying93 Tryz.underlying5 Tryz.underlying9 H (hs52) rfl) rfl (ST (Ex.strAddC rfl rfl hxs36) rfl (AS rfl rfl (NA (WA.done (by kernel_rfl) (TN ?_)))))
      obtain ⟨n37, hxn37, e2⟩ := bnd e2
      refine RG (MV rfl rfl (ST (Ex.addC rfl rfl hxn37) rfl (AS rfl rfl (NL (IB (TN ?_))))))
      obtain ⟨n38, hxn38, e2⟩ := bnd e2
      refine RG (MV rfl rfl (ST (Ex.addC rfl rfl hxn38) rfl (AS rfl rfl (NL ?_))))
      exact WQ.againP m6 [(0, _), (3, _), (4, _)] ⟨rfl, rfl, rfl, trivial⟩ ⟨_, _, _, rfl, H, e2⟩ (Nat.lt_succ_self _)
     ·
      subst hk25
      rw [if_neg Bool.false_ne_true] at e2
      obtain ⟨n39, hxn39, e2⟩ := bnd e2
      obtain ⟨s40, hxs40, e2⟩ := bnd e2
      obtain ⟨s41, hxs41, e2⟩ := bnd e2
      refine RG (MV rfl rfl (MV rfl rfl (MV rfl rfl (MV rfl rfl (ST (Ex.addC rfl rfl hxn39) rfl (ST (Ex.sliceC Tryz.underlying9 rfl rfl rfl hxs40) rfl (ST (Ex.strAddC rfl rfl hxs41) rfl (AS rfl rfl (NL (IB (TN ?_)))))))))))
      obtain ⟨n42, hxn42, e2⟩ := bnd e2
      refine RG (MV rfl rfl (ST (Ex.addC rfl rfl hxn42) rfl (AS rfl rfl (NL ?_))))
      exact WQ.againP m6 [(0, _), (3, _), (4, _)] ⟨rfl, rfl, rfl, trivial⟩ ⟨_, _, _, rfl, H, e2⟩ (Nat.lt_succ_self _)
   ·
    replace hk7 : ¬ (n5 < (p0.length : Int)) := of_decide_eq_false hk7
    rw [if_neg hk7] at e2
    refine WC.exit (WQ.thenExit (WQ.thenExit (WQ.exitHere ?_)))
    exact WQ.meetN [(3, _)] ⟨rfl, trivial⟩ ⟨_, _, rfl, H, e2⟩
  ·
   rintro e w ⟨s3, M, rfl, H, q43⟩
   obtain rfl := oI q43
   refine TN (SQ (RG (MV rfl rfl (AS rfl rfl (NL (TN (RT ?_)))))))
   obtain rfl := oI h
   exact WQ.ret1 rfl rfl H.ext rfl
theorem R_repaired_ct {p0 : List UInt8} {r : List UInt8} (h : R_repaired p0 = some r) : Ct Tryz.prog 40 [S p0] (fun M => True) (fun v M => v = S r) := by
  refine Ct.of Tryz.func40 (enters Tryz.func40 (by kernel_rfl) rfl) rfl rfl rfl ?_
  intro w0 M0 H hp
  unfold R_repaired at h
  refine SQ (RG (AS rfl rfl (NL (TN (SQ (RG (AS rfl rfl (NL (TN (SQ (RG (AS rfl rfl (NL (TN (SQ (SQ (RG (AS rfl rfl (NL (TN ?_))))))))))))))))))))
  obtain ⟨o1, e2, h⟩ := bnd h
  refine WC.cutX (fun e w => ∃ (s3 : List UInt8) (M : Mem), e = [(3, S s3)] ∧ St w0 M0 M [] w ∧ some s3 = some o1) [] ?_ ?_ (trivial)
  ·
   refine BL (WC.loopP (fun m e w => ∃ (s4 : List UInt8) (b5 : Bool) (n6 : Int) (M : Mem), e = [(0, S p0), (3, S s4), (4, Value.bool b5), (5, I n6)] ∧ St w0 M0 M [] w ∧ R_repaired_L1 p0 m s4 b5 n6 = some o1) FU [(0, _), (3, _), (4, _), (5, _)] ⟨rfl, rfl, rfl, rfl, trivial⟩ ⟨_, _, _, _, rfl, H, e2⟩ ?_)
   rintro m7 e w ⟨s4, b5, n6, M, rfl, H, e2⟩
   rcases m7 with _ | m7
   · rw [R_repaired_L1] at e2; cases e2
   rw [R_repaired_L1] at e2
   refine SQ (SQ (RG (MV rfl rfl (MV rfl rfl (ST (Ex.lenStr Tryz.underlying9 rfl) rfl (ST (Ex.lss rfl rfl) rfl (NL (TN ?_))))))))
   refine WC.condB rfl (fun hk8 => ?_) (fun hk8 => ?_)
   ·
    replace hk8 : n6 < (p0.length : Int) := of_decide_eq_true hk8
    rw [if_pos hk8] at e2
    refine SK (TN (BL (SQ ?_)))
    obtain ⟨⟨n9, n10⟩, hx11, e2⟩ := bnd e2
    try dsimp only at e2
    refine RG (MV rfl rfl (MV rfl rfl (WR.call H (R_Rune_ct hx11) rfl trivial (Wn.none rfl) rfl ?_)))
    intro v15 M w H hle hR
    try dsimp only at hR
    obtain rfl := hR
    refine MV rfl rfl (ST (Ex.extract rfl rfl) rfl (ST (Ex.extract rfl rfl) rfl (AS rfl rfl (AS rfl rfl (NL (TN (SQ (SQ (RG (MV rfl rfl (ST (Ex.geq rfl rfl) rfl (NL (TN ?_)))))))))))))
    obtain ⟨o12, e13, e2⟩ := bnd e2
    refine WC.cutX (fun e w => ∃ (s14 : List UInt8) (M : Mem), e = [(0, S p0), (3, S s14), (5, I n6), (6, I n9), (7, I n10)] ∧ St w0 M0 M [] w ∧ some s14 = some o12) [] ?_ ?_ (trivial)
    ·
     refine WC.condB rfl (fun hk15 => ?_) (fun hk15 => ?_)
     ·
      replace hk15 : (0 : Int) ≤ n9 := of_decide_eq_true hk15
      rw [if_pos hk15] at e13
      obtain ⟨n16, hxn16, e13⟩ := bnd e13
      obtain ⟨s17, hxs17, e13⟩ := bnd e13
      obtain ⟨s18, hxs18, e13⟩ := bnd e13
      refine RG (MV rfl rfl (MV rfl rfl (MV rfl rfl (MV rfl rfl (MV rfl rfl (ST (Ex.addC rfl rfl hxn16) rfl (ST (Ex.sliceC Tryz.underlying9 rfl rfl rfl hxs17) rfl (ST (Ex.strAddC rfl rfl hxs18) rfl (AS rfl rfl (NL ?_))))))))))
      exact WQ.meetN [(0, _), (3, _), (5, _), (6, _), (7, _)] ⟨rfl, rfl, rfl, rfl, rfl, trivial⟩ ⟨_, _, rfl, H, e13⟩
     ·
      replace hk15 : ¬ ((0 : Int) ≤ n9) := of_decide_eq_false hk15
      rw [if_neg hk15] at e13
      refine SQ (RG (MV rfl rfl (ST (Ex.not rfl) rfl (NL (TN ?_)))))
      refine WC.condB rfl (fun hk19 => ?_) (fun hk19 => ?_)
      ·
       replace hk19 : b5 = false := by simpa using hk19
       subst hk19
       rw [if_neg Bool.false_ne_true] at e13
       obtain ⟨s20, hx21, e13⟩ := bnd e13
       obtain ⟨s22, hxs22, e13⟩ := bnd e13
       refine RG (MV rfl rfl (WR.call H (R_Utf8_ct hx21) rfl trivial (Wn.none rfl) rfl ?_))
       intro v31 M w H hle hR
       obtain rfl := hR
       refine ST (Ex.strAddC rfl rfl hxs22) rfl (AS rfl rfl (NL ?_))
       exact WQ.meetN [(0, _), (3, _), (5, _), (6, _), (7, _)] ⟨rfl, rfl, rfl, rfl, rfl, trivial⟩ ⟨_, _, rfl, H, e13⟩
      ·
       replace hk19 : b5 = true := by simpa using hk19
       subst hk19
       rw [if_pos rfl] at e13
       refine SK ?_
       exact WQ.meetN [(0, _), (3, _), (5, _), (6, _), (7, _)] ⟨rfl, rfl, rfl, rfl, rfl, trivial⟩ ⟨_, _, rfl, H, e13⟩
    ·
     rintro e w ⟨s14, M, rfl, H, q23⟩
     obtain rfl := oI q23
     refine TN (SQ (RG (MV rfl rfl (ST (Ex.lss rfl rfl) rfl (AS rfl rfl (NL (TN ?_)))))))
     obtain ⟨n24, hxn24, e2⟩ := bnd e2
     refine RG (MV rfl rfl (MV rfl rfl (ST (Ex.addC rfl rfl hxn24) rfl (AS rfl rfl (NL (IB ?_))))))
     exact WQ.againP m7 [(0, _), (3, _), (4, _), (5, _)] ⟨rfl, rfl, rfl, rfl, trivial⟩ ⟨_, _, _, _, rfl, H, e2⟩ (Nat.lt_succ_self _)
   ·
    replace hk8 : ¬ (n6 < (p0.length : Int)) := of_decide_eq_false hk8
    rw [if_neg hk8] at e2
    refine WC.exit (WQ.thenExit (WQ.thenExit (WQ.exitHere ?_)))
    exact WQ.meetN [(3, _)] ⟨rfl, trivial⟩ ⟨_, _, rfl, H, e2⟩
  ·
   rintro e w ⟨s3, M, rfl, H, q25⟩
   obtain rfl := oI q25
   refine TN (SQ (RG (MV rfl rfl (AS rfl rfl (NL (TN (RT ?_)))))))
   obtain rfl := oI h
   exact WQ.ret1 rfl rfl H.ext rfl
end Go.Proofs.YtegkhjbajijidaaGreatDoor
end
