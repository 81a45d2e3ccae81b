/-
  Mct3, Mct4, Mct5, Mct6, Na, Nb, Nc, Nl, Nd, Ne, Nf, Ng, Nh, Ni, Nj, Nk: own texts of this repository (wip/tpl, wip/plans), merged and shaken by wip/tools/pack.py.
-/
import Derived.KernelRfl
import Derived.Test.YtegkhjbajijidaaGreatDoorE3d
set_option maxRecDepth 100000
set_option linter.unusedVariables false
set_option linter.unusedSimpArgs false
section
namespace Go.Proofs.YtegkhjbajijidaaGreatDoor
open Go Go.RowKit Go.Ph Go.Ph.Pl Go.Ph.Pf
set_option maxHeartbeats 4000000 in
theorem media_joined_ct {p0 : List (List UInt8 × Int × Bool × List UInt8)} {vp0 : Value} {r : ((List UInt8 × List UInt8) × Bool)} (h : media_joined p0 = some r) : CtX Tryz.prog 81 [vp0] [RowS 85 4 xenc85 vp0 p0] (fun M => Tabs M) (fun v M its => v = Value.tuple #[Value.agg #[S r.1.1, S r.1.2], Value.bool r.2] ∧ its = []) := by
  refine CtX.of Tryz.func81 (enters Tryz.func81 (by kernel_rfl) rfl) rfl rfl rfl ?_
  intro w0 M0 H hp
  have hg_tabs := hp
  unfold media_joined at h
  refine SQ (RG (WR.alloc [_, _] H Tryz.zeroValue47 rfl (Wn.none rfl) rfl ?_))
  intro bk2 w H
  refine AS rfl rfl (NL (TN (SQ ?_)))
  obtain ⟨a1, hxa1, h⟩ := bnd h
  obtain ⟨a2, hxa2, h⟩ := bnd h
  refine WC.cutP (fun e w => ∃ (b3 : Nat) (M : Mem), e = [(0, vp0), (2, ptr bk2 0), (4, ptr b3 0)] ∧ StX (feet [RowS 85 4 xenc85 vp0 p0]) w0 M0 M [RowS 85 4 xenc85 vp0 p0, .blk bk2 (.cells #[S [], S []] 47), .blk b3 (.cells #[S a1.1, S a2.2.2.2] 47)] w ∧ Tabs M) ?_ ?_
  ·
   refine WC.draw (m := 11) rfl rfl H ?_
   intro w H
   refine WA.take (i := 0) rfl (by kernel_rfl) (by kernel_rfl) (by kernel_rfl) (fun _ => Ex.move rfl) (Wn.none rfl) rfl rfl (fun _ _ => rfl) (WA.take (i := 4) rfl (by kernel_rfl) (by kernel_rfl) (by kernel_rfl) (fun _ => Ex.move rfl) (Wn.none rfl) rfl rfl (fun _ _ => rfl) ?_)
   refine WA.three (i := 1) (j := 5) (k := 9) (by kernel_rfl) rfl rfl rfl ?_ ?_ ?_
   ·
    refine WR.idxRowSC (l := p0) H Tryz.underlying83 Tryz.sizeOf85 (by repeat first | exact kMh | apply kMt) rfl rfl hxa1 (Wn.none rfl) rfl ?_
    intro g8 hg8
    refine NA (WA.take (i := 2) rfl (by kernel_rfl) (by kernel_rfl) (by kernel_rfl) (fun _ => Ex.fieldAddr Tryz.underlying85 rfl Tryz.sizeOf9 (by decide) rfl) (Wn.none rfl) rfl rfl (fun _ _ => rfl) ?_)
    refine WA.three (i := 3) (j := 5) (k := 9) (by kernel_rfl) rfl rfl rfl ?_ ?_ ?_
    ·
     refine ST (Ex.loadRowF (j := 0) H rfl hg8 (by repeat first | exact kMh | apply kMt) (fun _ => rfl) hxa1 rfl Tryz.isAgg9) rfl ?_
     refine NA ?_
     refine WA.two (i := 5) (j := 9) (by kernel_rfl) rfl rfl ?_ ?_
     ·
      refine WR.idxRowSC (l := p0) H Tryz.underlying83 Tryz.sizeOf85 (by repeat first | exact kMh | apply kMt) rfl rfl hxa2 (Wn.none rfl) rfl ?_
      intro g12 hg12
      refine NA (WA.take (i := 6) rfl (by kernel_rfl) (by kernel_rfl) (by kernel_rfl) (fun _ => Ex.fieldAddr Tryz.underlying85 rfl Tryz.sizeOf9 (by decide) rfl) (Wn.none rfl) rfl rfl (fun _ _ => rfl) ?_)
      refine WA.two (i := 7) (j := 9) (by kernel_rfl) rfl rfl ?_ ?_
      ·
       refine ST (Ex.loadRowF (j := 3) H rfl hg12 (by repeat first | exact kMh | apply kMt) (fun _ => rfl) hxa2 rfl Tryz.isAgg9) rfl ?_
       refine NA (WA.take (i := 8) rfl (by kernel_rfl) (by kernel_rfl) (by kernel_rfl) (fun _ => Ex.build [S a1.1, S a2.2.2.2] Tryz.underlying47 Tryz.zeroValue47 (xplaces47 Tryz.underlying47) rfl rfl) (Wn.none rfl) rfl rfl (fun _ _ => rfl) (WA.seq (fuel := 0) [9, 10] rfl (by kernel_rfl) (WR.alloc [_, _] H Tryz.zeroValue47 rfl (Wn.none rfl) rfl ?_)))
       intro bk4 w H
       refine WR.store [_, _] H rfl rfl rfl (by repeat first | exact .head | apply Upd.tail) Tryz.sizeOf47 rfl (by rfl) (by rfl) (Wn.none rfl) ?_
       intro w H
       refine NA (WA.done (by kernel_rfl) ?_)
       exact WQ.meetP [(0, _), (2, _), (4, _)] ⟨rfl, rfl, rfl, trivial⟩ ⟨_, _, rfl, (H.pick (L' := [RowS 85 4 xenc85 vp0 p0, .blk bk2 (.cells #[S [], S []] 47), .blk bk4 (.cells #[S a1.1, S a2.2.2.2] 47)]) (by repeat first | exact kPn | refine kPc (by repeat first | exact .head | apply Rem.tail) ?_)), hg_tabs⟩
      ·
       refine WR.alloc [_, _] H Tryz.zeroValue47 rfl (Wn.none rfl) rfl ?_
       intro bk4 w H
       refine NA (WA.seq (fuel := 0) [7, 8, 10] rfl (by kernel_rfl) (ST (Ex.loadRowF (j := 3) H rfl hg12 (by repeat first | exact kMh | apply kMt) (fun _ => rfl) hxa2 rfl Tryz.isAgg9) rfl ?_))
       refine ST (Ex.build [S a1.1, S a2.2.2.2] Tryz.underlying47 Tryz.zeroValue47 (xplaces47 Tryz.underlying47) rfl rfl) rfl (WR.store [_, _] H rfl rfl rfl (by repeat first | exact .head | apply Upd.tail) Tryz.sizeOf47 rfl (by rfl) (by rfl) (Wn.none rfl) ?_)
       intro w H
       refine NA (WA.done (by kernel_rfl) ?_)
       exact WQ.meetP [(0, _), (2, _), (4, _)] ⟨rfl, rfl, rfl, trivial⟩ ⟨_, _, rfl, (H.pick (L' := [RowS 85 4 xenc85 vp0 p0, .blk bk2 (.cells #[S [], S []] 47), .blk bk4 (.cells #[S a1.1, S a2.2.2.2] 47)]) (by repeat first | exact kPn | refine kPc (by repeat first | exact .head | apply Rem.tail) ?_)), hg_tabs⟩
     ·
      refine WR.alloc [_, _] H Tryz.zeroValue47 rfl (Wn.none rfl) rfl ?_
      intro bk4 w H
      refine NA (WA.seq (fuel := 0) [5, 6, 7, 8, 10] rfl (by kernel_rfl) (WR.idxRowSC (l := p0) H Tryz.underlying83 Tryz.sizeOf85 (by repeat first | exact kMh | apply kMt) rfl rfl hxa2 (Wn.none rfl) rfl ?_))
      intro g12 hg12
      refine ST (Ex.fieldAddr Tryz.underlying85 rfl Tryz.sizeOf9 (by decide) rfl) rfl (ST (Ex.loadRowF (j := 3) H rfl hg12 (by repeat first | exact kMh | apply kMt) (fun _ => rfl) hxa2 rfl Tryz.isAgg9) rfl ?_)
      refine ST (Ex.build [S a1.1, S a2.2.2.2] Tryz.underlying47 Tryz.zeroValue47 (xplaces47 Tryz.underlying47) rfl rfl) rfl (WR.store [_, _] H rfl rfl rfl (by repeat first | exact .head | apply Upd.tail) Tryz.sizeOf47 rfl (by rfl) (by rfl) (Wn.none rfl) ?_)
      intro w H
      refine NA (WA.done (by kernel_rfl) ?_)
      exact WQ.meetP [(0, _), (2, _), (4, _)] ⟨rfl, rfl, rfl, trivial⟩ ⟨_, _, rfl, (H.pick (L' := [RowS 85 4 xenc85 vp0 p0, .blk bk2 (.cells #[S [], S []] 47), .blk bk4 (.cells #[S a1.1, S a2.2.2.2] 47)]) (by repeat first | exact kPn | refine kPc (by repeat first | exact .head | apply Rem.tail) ?_)), hg_tabs⟩
    ·
     refine WR.idxRowSC (l := p0) H Tryz.underlying83 Tryz.sizeOf85 (by repeat first | exact kMh | apply kMt) rfl rfl hxa2 (Wn.none rfl) rfl ?_
     intro g12 hg12
     refine NA (WA.take (i := 6) rfl (by kernel_rfl) (by kernel_rfl) (by kernel_rfl) (fun _ => Ex.fieldAddr Tryz.underlying85 rfl Tryz.sizeOf9 (by decide) rfl) (Wn.none rfl) rfl rfl (fun _ _ => rfl) ?_)
     refine WA.three (i := 3) (j := 7) (k := 9) (by kernel_rfl) rfl rfl rfl ?_ ?_ ?_
     ·
      refine ST (Ex.loadRowF (j := 0) H rfl hg8 (by repeat first | exact kMh | apply kMt) (fun _ => rfl) hxa1 rfl Tryz.isAgg9) rfl ?_
      refine NA ?_
      refine WA.two (i := 7) (j := 9) (by kernel_rfl) rfl rfl ?_ ?_
      ·
       refine ST (Ex.loadRowF (j := 3) H rfl hg12 (by repeat first | exact kMh | apply kMt) (fun _ => rfl) hxa2 rfl Tryz.isAgg9) rfl ?_
       refine NA (WA.take (i := 8) rfl (by kernel_rfl) (by kernel_rfl) (by kernel_rfl) (fun _ => Ex.build [S a1.1, S a2.2.2.2] Tryz.underlying47 Tryz.zeroValue47 (xplaces47 Tryz.underlying47) rfl rfl) (Wn.none rfl) rfl rfl (fun _ _ => rfl) (WA.seq (fuel := 0) [9, 10] rfl (by kernel_rfl) (WR.alloc [_, _] H Tryz.zeroValue47 rfl (Wn.none rfl) rfl ?_)))
       intro bk4 w H
       refine WR.store [_, _] H rfl rfl rfl (by repeat first | exact .head | apply Upd.tail) Tryz.sizeOf47 rfl (by rfl) (by rfl) (Wn.none rfl) ?_
       intro w H
       refine NA (WA.done (by kernel_rfl) ?_)
       exact WQ.meetP [(0, _), (2, _), (4, _)] ⟨rfl, rfl, rfl, trivial⟩ ⟨_, _, rfl, (H.pick (L' := [RowS 85 4 xenc85 vp0 p0, .blk bk2 (.cells #[S [], S []] 47), .blk bk4 (.cells #[S a1.1, S a2.2.2.2] 47)]) (by repeat first | exact kPn | refine kPc (by repeat first | exact .head | apply Rem.tail) ?_)), hg_tabs⟩
      ·
       refine WR.alloc [_, _] H Tryz.zeroValue47 rfl (Wn.none rfl) rfl ?_
       intro bk4 w H
       refine NA (WA.seq (fuel := 0) [7, 8, 10] rfl (by kernel_rfl) (ST (Ex.loadRowF (j := 3) H rfl hg12 (by repeat first | exact kMh | apply kMt) (fun _ => rfl) hxa2 rfl Tryz.isAgg9) rfl ?_))
       refine ST (Ex.build [S a1.1, S a2.2.2.2] Tryz.underlying47 Tryz.zeroValue47 (xplaces47 Tryz.underlying47) rfl rfl) rfl (WR.store [_, _] H rfl rfl rfl (by repeat first | exact .head | apply Upd.tail) Tryz.sizeOf47 rfl (by rfl) (by rfl) (Wn.none rfl) ?_)
       intro w H
       refine NA (WA.done (by kernel_rfl) ?_)
       exact WQ.meetP [(0, _), (2, _), (4, _)] ⟨rfl, rfl, rfl, trivial⟩ ⟨_, _, rfl, (H.pick (L' := [RowS 85 4 xenc85 vp0 p0, .blk bk2 (.cells #[S [], S []] 47), .blk bk4 (.cells #[S a1.1, S a2.2.2.2] 47)]) (by repeat first | exact kPn | refine kPc (by repeat first | exact .head | apply Rem.tail) ?_)), hg_tabs⟩
     ·
      refine ST (Ex.loadRowF (j := 3) H rfl hg12 (by repeat first | exact kMh | apply kMt) (fun _ => rfl) hxa2 rfl Tryz.isAgg9) rfl ?_
      refine NA ?_
      refine WA.two (i := 3) (j := 9) (by kernel_rfl) rfl rfl ?_ ?_
      ·
       refine ST (Ex.loadRowF (j := 0) H rfl hg8 (by repeat first | exact kMh | apply kMt) (fun _ => rfl) hxa1 rfl Tryz.isAgg9) rfl ?_
       refine NA (WA.take (i := 8) rfl (by kernel_rfl) (by kernel_rfl) (by kernel_rfl) (fun _ => Ex.build [S a1.1, S a2.2.2.2] Tryz.underlying47 Tryz.zeroValue47 (xplaces47 Tryz.underlying47) rfl rfl) (Wn.none rfl) rfl rfl (fun _ _ => rfl) (WA.seq (fuel := 0) [9, 10] rfl (by kernel_rfl) (WR.alloc [_, _] H Tryz.zeroValue47 rfl (Wn.none rfl) rfl ?_)))
       intro bk4 w H
       refine WR.store [_, _] H rfl rfl rfl (by repeat first | exact .head | apply Upd.tail) Tryz.sizeOf47 rfl (by rfl) (by rfl) (Wn.none rfl) ?_
       intro w H
       refine NA (WA.done (by kernel_rfl) ?_)
       exact WQ.meetP [(0, _), (2, _), (4, _)] ⟨rfl, rfl, rfl, trivial⟩ ⟨_, _, rfl, (H.pick (L' := [RowS 85 4 xenc85 vp0 p0, .blk bk2 (.cells #[S [], S []] 47), .blk bk4 (.cells #[S a1.1, S a2.2.2.2] 47)]) (by repeat first | exact kPn | refine kPc (by repeat first | exact .head | apply Rem.tail) ?_)), hg_tabs⟩
      ·
       refine WR.alloc [_, _] H Tryz.zeroValue47 rfl (Wn.none rfl) rfl ?_
       intro bk4 w H
       refine NA (WA.seq (fuel := 0) [3, 8, 10] rfl (by kernel_rfl) (ST (Ex.loadRowF (j := 0) H rfl hg8 (by repeat first | exact kMh | apply kMt) (fun _ => rfl) hxa1 rfl Tryz.isAgg9) rfl ?_))
       refine ST (Ex.build [S a1.1, S a2.2.2.2] Tryz.underlying47 Tryz.zeroValue47 (xplaces47 Tryz.underlying47) rfl rfl) rfl (WR.store [_, _] H rfl rfl rfl (by repeat first | exact .head | apply Upd.tail) Tryz.sizeOf47 rfl (by rfl) (by rfl) (Wn.none rfl) ?_)
       intro w H
       refine NA (WA.done (by kernel_rfl) ?_)
       exact WQ.meetP [(0, _), (2, _), (4, _)] ⟨rfl, rfl, rfl, trivial⟩ ⟨_, _, rfl, (H.pick (L' := [RowS 85 4 xenc85 vp0 p0, .blk bk2 (.cells #[S [], S []] 47), .blk bk4 (.cells #[S a1.1, S a2.2.2.2] 47)]) (by repeat first | exact kPn | refine kPc (by repeat first | exact .head | apply Rem.tail) ?_)), hg_tabs⟩
     ·
      refine WR.alloc [_, _] H Tryz.zeroValue47 rfl (Wn.none rfl) rfl ?_
      intro bk4 w H
      refine NA (WA.takeM (i := 3) [7] rfl (by kernel_rfl) (by kernel_rfl) (by kernel_rfl) (Ex.loadRowF (j := 0) H rfl hg8 (by repeat first | exact kMh | apply kMt) (fun _ => rfl) hxa1 rfl Tryz.isAgg9) (Wn.none rfl) rfl rfl (fun _ _ => rfl) ?_)
      refine WA.seq (fuel := 0) [7, 8, 10] rfl (by kernel_rfl) (ST (Ex.loadRowF (j := 3) H rfl hg12 (by repeat first | exact kMh | apply kMt) (fun _ => rfl) hxa2 rfl Tryz.isAgg9) rfl ?_)
      refine ST (Ex.build [S a1.1, S a2.2.2.2] Tryz.underlying47 Tryz.zeroValue47 (xplaces47 Tryz.underlying47) rfl rfl) rfl (WR.store [_, _] H rfl rfl rfl (by repeat first | exact .head | apply Upd.tail) Tryz.sizeOf47 rfl (by rfl) (by rfl) (Wn.none rfl) ?_)
      intro w H
      refine NA (WA.done (by kernel_rfl) ?_)
      exact WQ.meetP [(0, _), (2, _), (4, _)] ⟨rfl, rfl, rfl, trivial⟩ ⟨_, _, rfl, (H.pick (L' := [RowS 85 4 xenc85 vp0 p0, .blk bk2 (.cells #[S [], S []] 47), .blk bk4 (.cells #[S a1.1, S a2.2.2.2] 47)]) (by repeat first | exact kPn | refine kPc (by repeat first | exact .head | apply Rem.tail) ?_)), hg_tabs⟩
    ·
     refine WR.alloc [_, _] H Tryz.zeroValue47 rfl (Wn.none rfl) rfl ?_
     intro bk4 w H
     refine NA ?_
     refine WA.two (i := 3) (j := 5) (by kernel_rfl) rfl rfl ?_ ?_
     ·
      refine ST (Ex.loadRowF (j := 0) H rfl hg8 (by repeat first | exact kMh | apply kMt) (fun _ => rfl) hxa1 rfl Tryz.isAgg9) rfl ?_
      refine NA (WA.seq (fuel := 0) [5, 6, 7, 8, 10] rfl (by kernel_rfl) (WR.idxRowSC (l := p0) H Tryz.underlying83 Tryz.sizeOf85 (by repeat first | exact kMh | apply kMt) rfl rfl hxa2 (Wn.none rfl) rfl ?_))
      intro g12 hg12
      refine ST (Ex.fieldAddr Tryz.underlying85 rfl Tryz.sizeOf9 (by decide) rfl) rfl (ST (Ex.loadRowF (j := 3) H rfl hg12 (by repeat first | exact kMh | apply kMt) (fun _ => rfl) hxa2 rfl Tryz.isAgg9) rfl ?_)
      refine ST (Ex.build [S a1.1, S a2.2.2.2] Tryz.underlying47 Tryz.zeroValue47 (xplaces47 Tryz.underlying47) rfl rfl) rfl (WR.store [_, _] H rfl rfl rfl (by repeat first | exact .head | apply Upd.tail) Tryz.sizeOf47 rfl (by rfl) (by rfl) (Wn.none rfl) ?_)
      intro w H
      refine NA (WA.done (by kernel_rfl) ?_)
      exact WQ.meetP [(0, _), (2, _), (4, _)] ⟨rfl, rfl, rfl, trivial⟩ ⟨_, _, rfl, (H.pick (L' := [RowS 85 4 xenc85 vp0 p0, .blk bk2 (.cells #[S [], S []] 47), .blk bk4 (.cells #[S a1.1, S a2.2.2.2] 47)]) (by repeat first | exact kPn | refine kPc (by repeat first | exact .head | apply Rem.tail) ?_)), hg_tabs⟩
     ·
      refine WR.idxRowSC (l := p0) H Tryz.underlying83 Tryz.sizeOf85 (by repeat first | exact kMh | apply kMt) rfl rfl hxa2 (Wn.none rfl) rfl ?_
      intro g12 hg12
      refine NA (WA.take (i := 6) rfl (by kernel_rfl) (by kernel_rfl) (by kernel_rfl) (fun _ => Ex.fieldAddr Tryz.underlying85 rfl Tryz.sizeOf9 (by decide) rfl) (Wn.none rfl) rfl rfl (fun _ _ => rfl) (WA.takeM (i := 3) [7] rfl (by kernel_rfl) (by kernel_rfl) (by kernel_rfl) (Ex.loadRowF (j := 0) H rfl hg8 (by repeat first | exact kMh | apply kMt) (fun _ => rfl) hxa1 rfl Tryz.isAgg9) (Wn.none rfl) rfl rfl (fun _ _ => rfl) ?_))
      refine WA.seq (fuel := 0) [7, 8, 10] rfl (by kernel_rfl) (ST (Ex.loadRowF (j := 3) H rfl hg12 (by repeat first | exact kMh | apply kMt) (fun _ => rfl) hxa2 rfl Tryz.isAgg9) rfl ?_)
      refine ST (Ex.build [S a1.1, S a2.2.2.2] Tryz.underlying47 Tryz.zeroValue47 (xplaces47 Tryz.underlying47) rfl rfl) rfl (WR.store [_, _] H rfl rfl rfl (by repeat first | exact .head | apply Upd.tail) Tryz.sizeOf47 rfl (by rfl) (by rfl) (Wn.none rfl) ?_)
      intro w H
      refine NA (WA.done (by kernel_rfl) ?_)
      exact WQ.meetP [(0, _), (2, _), (4, _)] ⟨rfl, rfl, rfl, trivial⟩ ⟨_, _, rfl, (H.pick (L' := [RowS 85 4 xenc85 vp0 p0, .blk bk2 (.cells #[S [], S []] 47), .blk bk4 (.cells #[S a1.1, S a2.2.2.2] 47)]) (by repeat first | exact kPn | refine kPc (by repeat first | exact .head | apply Rem.tail) ?_)), hg_tabs⟩
   ·
    refine WR.idxRowSC (l := p0) H Tryz.underlying83 Tryz.sizeOf85 (by repeat first | exact kMh | apply kMt) rfl rfl hxa2 (Wn.none rfl) rfl ?_
    intro g12 hg12
    refine NA (WA.take (i := 6) rfl (by kernel_rfl) (by kernel_rfl) (by kernel_rfl) (fun _ => Ex.fieldAddr Tryz.underlying85 rfl Tryz.sizeOf9 (by decide) rfl) (Wn.none rfl) rfl rfl (fun _ _ => rfl) ?_)
    refine WA.three (i := 1) (j := 7) (k := 9) (by kernel_rfl) rfl rfl rfl ?_ ?_ ?_
    ·
     refine WR.idxRowSC (l := p0) H Tryz.underlying83 Tryz.sizeOf85 (by repeat first | exact kMh | apply kMt) rfl rfl hxa1 (Wn.none rfl) rfl ?_
     intro g8 hg8
     refine NA (WA.take (i := 2) rfl (by kernel_rfl) (by kernel_rfl) (by kernel_rfl) (fun _ => Ex.fieldAddr Tryz.underlying85 rfl Tryz.sizeOf9 (by decide) rfl) (Wn.none rfl) rfl rfl (fun _ _ => rfl) ?_)
     refine WA.three (i := 3) (j := 7) (k := 9) (by kernel_rfl) rfl rfl rfl ?_ ?_ ?_
     ·
      refine ST (Ex.loadRowF (j := 0) H rfl hg8 (by repeat first | exact kMh | apply kMt) (fun _ => rfl) hxa1 rfl Tryz.isAgg9) rfl ?_
      refine NA ?_
      refine WA.two (i := 7) (j := 9) (by kernel_rfl) rfl rfl ?_ ?_
      ·
       refine ST (Ex.loadRowF (j := 3) H rfl hg12 (by repeat first | exact kMh | apply kMt) (fun _ => rfl) hxa2 rfl Tryz.isAgg9) rfl ?_
       refine NA (WA.take (i := 8) rfl (by kernel_rfl) (by kernel_rfl) (by kernel_rfl) (fun _ => Ex.build [S a1.1, S a2.2.2.2] Tryz.underlying47 Tryz.zeroValue47 (xplaces47 Tryz.underlying47) rfl rfl) (Wn.none rfl) rfl rfl (fun _ _ => rfl) (WA.seq (fuel := 0) [9, 10] rfl (by kernel_rfl) (WR.alloc [_, _] H Tryz.zeroValue47 rfl (Wn.none rfl) rfl ?_)))
       intro bk4 w H
       refine WR.store [_, _] H rfl rfl rfl (by repeat first | exact .head | apply Upd.tail) Tryz.sizeOf47 rfl (by rfl) (by rfl) (Wn.none rfl) ?_
       intro w H
       refine NA (WA.done (by kernel_rfl) ?_)
       exact WQ.meetP [(0, _), (2, _), (4, _)] ⟨rfl, rfl, rfl, trivial⟩ ⟨_, _, rfl, (H.pick (L' := [RowS 85 4 xenc85 vp0 p0, .blk bk2 (.cells #[S [], S []] 47), .blk bk4 (.cells #[S a1.1, S a2.2.2.2] 47)]) (by repeat first | exact kPn | refine kPc (by repeat first | exact .head | apply Rem.tail) ?_)), hg_tabs⟩
      ·
       refine WR.alloc [_, _] H Tryz.zeroValue47 rfl (Wn.none rfl) rfl ?_
       intro bk4 w H
       refine NA (WA.seq (fuel := 0) [7, 8, 10] rfl (by kernel_rfl) (ST (Ex.loadRowF (j := 3) H rfl hg12 (by repeat first | exact kMh | apply kMt) (fun _ => rfl) hxa2 rfl Tryz.isAgg9) rfl ?_))
       refine ST (Ex.build [S a1.1, S a2.2.2.2] Tryz.underlying47 Tryz.zeroValue47 (xplaces47 Tryz.underlying47) rfl rfl) rfl (WR.store [_, _] H rfl rfl rfl (by repeat first | exact .head | apply Upd.tail) Tryz.sizeOf47 rfl (by rfl) (by rfl) (Wn.none rfl) ?_)
       intro w H
       refine NA (WA.done (by kernel_rfl) ?_)
       exact WQ.meetP [(0, _), (2, _), (4, _)] ⟨rfl, rfl, rfl, trivial⟩ ⟨_, _, rfl, (H.pick (L' := [RowS 85 4 xenc85 vp0 p0, .blk bk2 (.cells #[S [], S []] 47), .blk bk4 (.cells #[S a1.1, S a2.2.2.2] 47)]) (by repeat first | exact kPn | refine kPc (by repeat first | exact .head | apply Rem.tail) ?_)), hg_tabs⟩
     ·
      refine ST (Ex.loadRowF (j := 3) H rfl hg12 (by repeat first | exact kMh | apply kMt) (fun _ => rfl) hxa2 rfl Tryz.isAgg9) rfl ?_
      refine NA ?_
      refine WA.two (i := 3) (j := 9) (by kernel_rfl) rfl rfl ?_ ?_
      ·
       refine ST (Ex.loadRowF (j := 0) H rfl hg8 (by repeat first | exact kMh | apply kMt) (fun _ => rfl) hxa1 rfl Tryz.isAgg9) rfl ?_
       refine NA (WA.take (i := 8) rfl (by kernel_rfl) (by kernel_rfl) (by kernel_rfl) (fun _ => Ex.build [S a1.1, S a2.2.2.2] Tryz.underlying47 Tryz.zeroValue47 (xplaces47 Tryz.underlying47) rfl rfl) (Wn.none rfl) rfl rfl (fun _ _ => rfl) (WA.seq (fuel := 0) [9, 10] rfl (by kernel_rfl) (WR.alloc [_, _] H Tryz.zeroValue47 rfl (Wn.none rfl) rfl ?_)))
       intro bk4 w H
       refine WR.store [_, _] H rfl rfl rfl (by repeat first | exact .head | apply Upd.tail) Tryz.sizeOf47 rfl (by rfl) (by rfl) (Wn.none rfl) ?_
       intro w H
       refine NA (WA.done (by kernel_rfl) ?_)
       exact WQ.meetP [(0, _), (2, _), (4, _)] ⟨rfl, rfl, rfl, trivial⟩ ⟨_, _, rfl, (H.pick (L' := [RowS 85 4 xenc85 vp0 p0, .blk bk2 (.cells #[S [], S []] 47), .blk bk4 (.cells #[S a1.1, S a2.2.2.2] 47)]) (by repeat first | exact kPn | refine kPc (by repeat first | exact .head | apply Rem.tail) ?_)), hg_tabs⟩
      ·
       refine WR.alloc [_, _] H Tryz.zeroValue47 rfl (Wn.none rfl) rfl ?_
       intro bk4 w H
       refine NA (WA.seq (fuel := 0) [3, 8, 10] rfl (by kernel_rfl) (ST (Ex.loadRowF (j := 0) H rfl hg8 (by repeat first | exact kMh | apply kMt) (fun _ => rfl) hxa1 rfl Tryz.isAgg9) rfl ?_))
       refine ST (Ex.build [S a1.1, S a2.2.2.2] Tryz.underlying47 Tryz.zeroValue47 (xplaces47 Tryz.underlying47) rfl rfl) rfl (WR.store [_, _] H rfl rfl rfl (by repeat first | exact .head | apply Upd.tail) Tryz.sizeOf47 rfl (by rfl) (by rfl) (Wn.none rfl) ?_)
       intro w H
       refine NA (WA.done (by kernel_rfl) ?_)
       exact WQ.meetP [(0, _), (2, _), (4, _)] ⟨rfl, rfl, rfl, trivial⟩ ⟨_, _, rfl, (H.pick (L' := [RowS 85 4 xenc85 vp0 p0, .blk bk2 (.cells #[S [], S []] 47), .blk bk4 (.cells #[S a1.1, S a2.2.2.2] 47)]) (by repeat first | exact kPn | refine kPc (by repeat first | exact .head | apply Rem.tail) ?_)), hg_tabs⟩
     ·
      refine WR.alloc [_, _] H Tryz.zeroValue47 rfl (Wn.none rfl) rfl ?_
      intro bk4 w H
      refine NA (WA.takeM (i := 3) [7] rfl (by kernel_rfl) (by kernel_rfl) (by kernel_rfl) (Ex.loadRowF (j := 0) H rfl hg8 (by repeat first | exact kMh | apply kMt) (fun _ => rfl) hxa1 rfl Tryz.isAgg9) (Wn.none rfl) rfl rfl (fun _ _ => rfl) ?_)
      refine WA.seq (fuel := 0) [7, 8, 10] rfl (by kernel_rfl) (ST (Ex.loadRowF (j := 3) H rfl hg12 (by repeat first | exact kMh | apply kMt) (fun _ => rfl) hxa2 rfl Tryz.isAgg9) rfl ?_)
      refine ST (Ex.build [S a1.1, S a2.2.2.2] Tryz.underlying47 Tryz.zeroValue47 (xplaces47 Tryz.underlying47) rfl rfl) rfl (WR.store [_, _] H rfl rfl rfl (by repeat first | exact .head | apply Upd.tail) Tryz.sizeOf47 rfl (by rfl) (by rfl) (Wn.none rfl) ?_)
      intro w H
      refine NA (WA.done (by kernel_rfl) ?_)
      exact WQ.meetP [(0, _), (2, _), (4, _)] ⟨rfl, rfl, rfl, trivial⟩ ⟨_, _, rfl, (H.pick (L' := [RowS 85 4 xenc85 vp0 p0, .blk bk2 (.cells #[S [], S []] 47), .blk bk4 (.cells #[S a1.1, S a2.2.2.2] 47)]) (by repeat first | exact kPn | refine kPc (by repeat first | exact .head | apply Rem.tail) ?_)), hg_tabs⟩
    ·
     refine ST (Ex.loadRowF (j := 3) H rfl hg12 (by repeat first | exact kMh | apply kMt) (fun _ => rfl) hxa2 rfl Tryz.isAgg9) rfl ?_
     refine NA ?_
     refine WA.two (i := 1) (j := 9) (by kernel_rfl) rfl rfl ?_ ?_
     ·
      refine WR.idxRowSC (l := p0) H Tryz.underlying83 Tryz.sizeOf85 (by repeat first | exact kMh | apply kMt) rfl rfl hxa1 (Wn.none rfl) rfl ?_
      intro g8 hg8
      refine NA (WA.take (i := 2) rfl (by kernel_rfl) (by kernel_rfl) (by kernel_rfl) (fun _ => Ex.fieldAddr Tryz.underlying85 rfl Tryz.sizeOf9 (by decide) rfl) (Wn.none rfl) rfl rfl (fun _ _ => rfl) ?_)
      refine WA.two (i := 3) (j := 9) (by kernel_rfl) rfl rfl ?_ ?_
      ·
       refine ST (Ex.loadRowF (j := 0) H rfl hg8 (by repeat first | exact kMh | apply kMt) (fun _ => rfl) hxa1 rfl Tryz.isAgg9) rfl ?_
       refine NA (WA.take (i := 8) rfl (by kernel_rfl) (by kernel_rfl) (by kernel_rfl) (fun _ => Ex.build [S a1.1, S a2.2.2.2] Tryz.underlying47 Tryz.zeroValue47 (xplaces47 Tryz.underlying47) rfl rfl) (Wn.none rfl) rfl rfl (fun _ _ => rfl) (WA.seq (fuel := 0) [9, 10] rfl (by kernel_rfl) (WR.alloc [_, _] H Tryz.zeroValue47 rfl (Wn.none rfl) rfl ?_)))
       intro bk4 w H
       refine WR.store [_, _] H rfl rfl rfl (by repeat first | exact .head | apply Upd.tail) Tryz.sizeOf47 rfl (by rfl) (by rfl) (Wn.none rfl) ?_
       intro w H
       refine NA (WA.done (by kernel_rfl) ?_)
       exact WQ.meetP [(0, _), (2, _), (4, _)] ⟨rfl, rfl, rfl, trivial⟩ ⟨_, _, rfl, (H.pick (L' := [RowS 85 4 xenc85 vp0 p0, .blk bk2 (.cells #[S [], S []] 47), .blk bk4 (.cells #[S a1.1, S a2.2.2.2] 47)]) (by repeat first | exact kPn | refine kPc (by repeat first | exact .head | apply Rem.tail) ?_)), hg_tabs⟩
      ·
       refine WR.alloc [_, _] H Tryz.zeroValue47 rfl (Wn.none rfl) rfl ?_
       intro bk4 w H
       refine NA (WA.seq (fuel := 0) [3, 8, 10] rfl (by kernel_rfl) (ST (Ex.loadRowF (j := 0) H rfl hg8 (by repeat first | exact kMh | apply kMt) (fun _ => rfl) hxa1 rfl Tryz.isAgg9) rfl ?_))
       refine ST (Ex.build [S a1.1, S a2.2.2.2] Tryz.underlying47 Tryz.zeroValue47 (xplaces47 Tryz.underlying47) rfl rfl) rfl (WR.store [_, _] H rfl rfl rfl (by repeat first | exact .head | apply Upd.tail) Tryz.sizeOf47 rfl (by rfl) (by rfl) (Wn.none rfl) ?_)
       intro w H
       refine NA (WA.done (by kernel_rfl) ?_)
       exact WQ.meetP [(0, _), (2, _), (4, _)] ⟨rfl, rfl, rfl, trivial⟩ ⟨_, _, rfl, (H.pick (L' := [RowS 85 4 xenc85 vp0 p0, .blk bk2 (.cells #[S [], S []] 47), .blk bk4 (.cells #[S a1.1, S a2.2.2.2] 47)]) (by repeat first | exact kPn | refine kPc (by repeat first | exact .head | apply Rem.tail) ?_)), hg_tabs⟩
     ·
      refine WR.alloc [_, _] H Tryz.zeroValue47 rfl (Wn.none rfl) rfl ?_
      intro bk4 w H
      refine NA (WA.seq (fuel := 0) [1, 2, 3, 8, 10] rfl (by kernel_rfl) (WR.idxRowSC (l := p0) H Tryz.underlying83 Tryz.sizeOf85 (by repeat first | exact kMh | apply kMt) rfl rfl hxa1 (Wn.none rfl) rfl ?_))
      intro g8 hg8
      refine ST (Ex.fieldAddr Tryz.underlying85 rfl Tryz.sizeOf9 (by decide) rfl) rfl (ST (Ex.loadRowF (j := 0) H rfl hg8 (by repeat first | exact kMh | apply kMt) (fun _ => rfl) hxa1 rfl Tryz.isAgg9) rfl ?_)
      refine ST (Ex.build [S a1.1, S a2.2.2.2] Tryz.underlying47 Tryz.zeroValue47 (xplaces47 Tryz.underlying47) rfl rfl) rfl (WR.store [_, _] H rfl rfl rfl (by repeat first | exact .head | apply Upd.tail) Tryz.sizeOf47 rfl (by rfl) (by rfl) (Wn.none rfl) ?_)
      intro w H
      refine NA (WA.done (by kernel_rfl) ?_)
      exact WQ.meetP [(0, _), (2, _), (4, _)] ⟨rfl, rfl, rfl, trivial⟩ ⟨_, _, rfl, (H.pick (L' := [RowS 85 4 xenc85 vp0 p0, .blk bk2 (.cells #[S [], S []] 47), .blk bk4 (.cells #[S a1.1, S a2.2.2.2] 47)]) (by repeat first | exact kPn | refine kPc (by repeat first | exact .head | apply Rem.tail) ?_)), hg_tabs⟩
    ·
     refine WR.alloc [_, _] H Tryz.zeroValue47 rfl (Wn.none rfl) rfl ?_
     intro bk4 w H
     refine NA ?_
     refine WA.two (i := 1) (j := 7) (by kernel_rfl) rfl rfl ?_ ?_
     ·
      refine WR.idxRowSC (l := p0) H Tryz.underlying83 Tryz.sizeOf85 (by repeat first | exact kMh | apply kMt) rfl rfl hxa1 (Wn.none rfl) rfl ?_
      intro g8 hg8
      refine NA (WA.take (i := 2) rfl (by kernel_rfl) (by kernel_rfl) (by kernel_rfl) (fun _ => Ex.fieldAddr Tryz.underlying85 rfl Tryz.sizeOf9 (by decide) rfl) (Wn.none rfl) rfl rfl (fun _ _ => rfl) (WA.takeM (i := 3) [7] rfl (by kernel_rfl) (by kernel_rfl) (by kernel_rfl) (Ex.loadRowF (j := 0) H rfl hg8 (by repeat first | exact kMh | apply kMt) (fun _ => rfl) hxa1 rfl Tryz.isAgg9) (Wn.none rfl) rfl rfl (fun _ _ => rfl) ?_))
      refine WA.seq (fuel := 0) [7, 8, 10] rfl (by kernel_rfl) (ST (Ex.loadRowF (j := 3) H rfl hg12 (by repeat first | exact kMh | apply kMt) (fun _ => rfl) hxa2 rfl Tryz.isAgg9) rfl ?_)
      refine ST (Ex.build [S a1.1, S a2.2.2.2] Tryz.underlying47 Tryz.zeroValue47 (xplaces47 Tryz.underlying47) rfl rfl) rfl (WR.store [_, _] H rfl rfl rfl (by repeat first | exact .head | apply Upd.tail) Tryz.sizeOf47 rfl (by rfl) (by rfl) (Wn.none rfl) ?_)
      intro w H
      refine NA (WA.done (by kernel_rfl) ?_)
      exact WQ.meetP [(0, _), (2, _), (4, _)] ⟨rfl, rfl, rfl, trivial⟩ ⟨_, _, rfl, (H.pick (L' := [RowS 85 4 xenc85 vp0 p0, .blk bk2 (.cells #[S [], S []] 47), .blk bk4 (.cells #[S a1.1, S a2.2.2.2] 47)]) (by repeat first | exact kPn | refine kPc (by repeat first | exact .head | apply Rem.tail) ?_)), hg_tabs⟩
     ·
      refine ST (Ex.loadRowF (j := 3) H rfl hg12 (by repeat first | exact kMh | apply kMt) (fun _ => rfl) hxa2 rfl Tryz.isAgg9) rfl ?_
      refine NA (WA.seq (fuel := 0) [1, 2, 3, 8, 10] rfl (by kernel_rfl) (WR.idxRowSC (l := p0) H Tryz.underlying83 Tryz.sizeOf85 (by repeat first | exact kMh | apply kMt) rfl rfl hxa1 (Wn.none rfl) rfl ?_))
      intro g8 hg8
      refine ST (Ex.fieldAddr Tryz.underlying85 rfl Tryz.sizeOf9 (by decide) rfl) rfl (ST (Ex.loadRowF (j := 0) H rfl hg8 (by repeat first | exact kMh | apply kMt) (fun _ => rfl) hxa1 rfl Tryz.isAgg9) rfl ?_)
      refine ST (Ex.build [S a1.1, S a2.2.2.2] Tryz.underlying47 Tryz.zeroValue47 (xplaces47 Tryz.underlying47) rfl rfl) rfl (WR.store [_, _] H rfl rfl rfl (by repeat first | exact .head | apply Upd.tail) Tryz.sizeOf47 rfl (by rfl) (by rfl) (Wn.none rfl) ?_)
      intro w H
      refine NA (WA.done (by kernel_rfl) ?_)
      exact WQ.meetP [(0, _), (2, _), (4, _)] ⟨rfl, rfl, rfl, trivial⟩ ⟨_, _, rfl, (H.pick (L' := [RowS 85 4 xenc85 vp0 p0, .blk bk2 (.cells #[S [], S []] 47), .blk bk4 (.cells #[S a1.1, S a2.2.2.2] 47)]) (by repeat first | exact kPn | refine kPc (by repeat first | exact .head | apply Rem.tail) ?_)), hg_tabs⟩
   ·
    refine WR.alloc [_, _] H Tryz.zeroValue47 rfl (Wn.none rfl) rfl ?_
    intro bk4 w H
    refine NA ?_
    refine WA.two (i := 1) (j := 5) (by kernel_rfl) rfl rfl ?_ ?_
    ·
     refine WR.idxRowSC (l := p0) H Tryz.underlying83 Tryz.sizeOf85 (by repeat first | exact kMh | apply kMt) rfl rfl hxa1 (Wn.none rfl) rfl ?_
     intro g8 hg8
     refine NA (WA.take (i := 2) rfl (by kernel_rfl) (by kernel_rfl) (by kernel_rfl) (fun _ => Ex.fieldAddr Tryz.underlying85 rfl Tryz.sizeOf9 (by decide) rfl) (Wn.none rfl) rfl rfl (fun _ _ => rfl) ?_)
     refine WA.two (i := 3) (j := 5) (by kernel_rfl) rfl rfl ?_ ?_
     ·
      refine ST (Ex.loadRowF (j := 0) H rfl hg8 (by repeat first | exact kMh | apply kMt) (fun _ => rfl) hxa1 rfl Tryz.isAgg9) rfl ?_
      refine NA (WA.seq (fuel := 0) [5, 6, 7, 8, 10] rfl (by kernel_rfl) (WR.idxRowSC (l := p0) H Tryz.underlying83 Tryz.sizeOf85 (by repeat first | exact kMh | apply kMt) rfl rfl hxa2 (Wn.none rfl) rfl ?_))
      intro g12 hg12
      refine ST (Ex.fieldAddr Tryz.underlying85 rfl Tryz.sizeOf9 (by decide) rfl) rfl (ST (Ex.loadRowF (j := 3) H rfl hg12 (by repeat first | exact kMh | apply kMt) (fun _ => rfl) hxa2 rfl Tryz.isAgg9) rfl ?_)
      refine ST (Ex.build [S a1.1, S a2.2.2.2] Tryz.underlying47 Tryz.zeroValue47 (xplaces47 Tryz.underlying47) rfl rfl) rfl (WR.store [_, _] H rfl rfl rfl (by repeat first | exact .head | apply Upd.tail) Tryz.sizeOf47 rfl (by rfl) (by rfl) (Wn.none rfl) ?_)
      intro w H
      refine NA (WA.done (by kernel_rfl) ?_)
      exact WQ.meetP [(0, _), (2, _), (4, _)] ⟨rfl, rfl, rfl, trivial⟩ ⟨_, _, rfl, (H.pick (L' := [RowS 85 4 xenc85 vp0 p0, .blk bk2 (.cells #[S [], S []] 47), .blk bk4 (.cells #[S a1.1, S a2.2.2.2] 47)]) (by repeat first | exact kPn | refine kPc (by repeat first | exact .head | apply Rem.tail) ?_)), hg_tabs⟩
     ·
      refine WR.idxRowSC (l := p0) H Tryz.underlying83 Tryz.sizeOf85 (by repeat first | exact kMh | apply kMt) rfl rfl hxa2 (Wn.none rfl) rfl ?_
      intro g12 hg12
      refine NA (WA.take (i := 6) rfl (by kernel_rfl) (by kernel_rfl) (by kernel_rfl) (fun _ => Ex.fieldAddr Tryz.underlying85 rfl Tryz.sizeOf9 (by decide) rfl) (Wn.none rfl) rfl rfl (fun _ _ => rfl) (WA.takeM (i := 3) [7] rfl (by kernel_rfl) (by kernel_rfl) (by kernel_rfl) (Ex.loadRowF (j := 0) H rfl hg8 (by repeat first | exact kMh | apply kMt) (fun _ => rfl) hxa1 rfl Tryz.isAgg9) (Wn.none rfl) rfl rfl (fun _ _ => rfl) ?_))
      refine WA.seq (fuel := 0) [7, 8, 10] rfl (by kernel_rfl) (ST (Ex.loadRowF (j := 3) H rfl hg12 (by repeat first | exact kMh | apply kMt) (fun _ => rfl) hxa2 rfl Tryz.isAgg9) rfl ?_)
      refine ST (Ex.build [S a1.1, S a2.2.2.2] Tryz.underlying47 Tryz.zeroValue47 (xplaces47 Tryz.underlying47) rfl rfl) rfl (WR.store [_, _] H rfl rfl rfl (by repeat first | exact .head | apply Upd.tail) Tryz.sizeOf47 rfl (by rfl) (by rfl) (Wn.none rfl) ?_)
      intro w H
      refine NA (WA.done (by kernel_rfl) ?_)
      exact WQ.meetP [(0, _), (2, _), (4, _)] ⟨rfl, rfl, rfl, trivial⟩ ⟨_, _, rfl, (H.pick (L' := [RowS 85 4 xenc85 vp0 p0, .blk bk2 (.cells #[S [], S []] 47), .blk bk4 (.cells #[S a1.1, S a2.2.2.2] 47)]) (by repeat first | exact kPn | refine kPc (by repeat first | exact .head | apply Rem.tail) ?_)), hg_tabs⟩
    ·
     refine WR.idxRowSC (l := p0) H Tryz.underlying83 Tryz.sizeOf85 (by repeat first | exact kMh | apply kMt) rfl rfl hxa2 (Wn.none rfl) rfl ?_
     intro g12 hg12
     refine NA (WA.take (i := 6) rfl (by kernel_rfl) (by kernel_rfl) (by kernel_rfl) (fun _ => Ex.fieldAddr Tryz.underlying85 rfl Tryz.sizeOf9 (by decide) rfl) (Wn.none rfl) rfl rfl (fun _ _ => rfl) ?_)
     refine WA.two (i := 1) (j := 7) (by kernel_rfl) rfl rfl ?_ ?_
     ·
      refine WR.idxRowSC (l := p0) H Tryz.underlying83 Tryz.sizeOf85 (by repeat first | exact kMh | apply kMt) rfl rfl hxa1 (Wn.none rfl) rfl ?_
      intro g8 hg8
      refine NA (WA.take (i := 2) rfl (by kernel_rfl) (by kernel_rfl) (by kernel_rfl) (fun _ => Ex.fieldAddr Tryz.underlying85 rfl Tryz.sizeOf9 (by decide) rfl) (Wn.none rfl) rfl rfl (fun _ _ => rfl) (WA.takeM (i := 3) [7] rfl (by kernel_rfl) (by kernel_rfl) (by kernel_rfl) (Ex.loadRowF (j := 0) H rfl hg8 (by repeat first | exact kMh | apply kMt) (fun _ => rfl) hxa1 rfl Tryz.isAgg9) (Wn.none rfl) rfl rfl (fun _ _ => rfl) ?_))
      refine WA.seq (fuel := 0) [7, 8, 10] rfl (by kernel_rfl) (ST (Ex.loadRowF (j := 3) H rfl hg12 (by repeat first | exact kMh | apply kMt) (fun _ => rfl) hxa2 rfl Tryz.isAgg9) rfl ?_)
      refine ST (Ex.build [S a1.1, S a2.2.2.2] Tryz.underlying47 Tryz.zeroValue47 (xplaces47 Tryz.underlying47) rfl rfl) rfl (WR.store [_, _] H rfl rfl rfl (by repeat first | exact .head | apply Upd.tail) Tryz.sizeOf47 rfl (by rfl) (by rfl) (Wn.none rfl) ?_)
      intro w H
      refine NA (WA.done (by kernel_rfl) ?_)
      exact WQ.meetP [(0, _), (2, _), (4, _)] ⟨rfl, rfl, rfl, trivial⟩ ⟨_, _, rfl, (H.pick (L' := [RowS 85 4 xenc85 vp0 p0, .blk bk2 (.cells #[S [], S []] 47), .blk bk4 (.cells #[S a1.1, S a2.2.2.2] 47)]) (by repeat first | exact kPn | refine kPc (by repeat first | exact .head | apply Rem.tail) ?_)), hg_tabs⟩
     ·
      refine ST (Ex.loadRowF (j := 3) H rfl hg12 (by repeat first | exact kMh | apply kMt) (fun _ => rfl) hxa2 rfl Tryz.isAgg9) rfl ?_
      refine NA (WA.seq (fuel := 0) [1, 2, 3, 8, 10] rfl (by kernel_rfl) (WR.idxRowSC (l := p0) H Tryz.underlying83 Tryz.sizeOf85 (by repeat first | exact kMh | apply kMt) rfl rfl hxa1 (Wn.none rfl) rfl ?_))
      intro g8 hg8
      refine ST (Ex.fieldAddr Tryz.underlying85 rfl Tryz.sizeOf9 (by decide) rfl) rfl (ST (Ex.loadRowF (j := 0) H rfl hg8 (by repeat first | exact kMh | apply kMt) (fun _ => rfl) hxa1 rfl Tryz.isAgg9) rfl ?_)
      refine ST (Ex.build [S a1.1, S a2.2.2.2] Tryz.underlying47 Tryz.zeroValue47 (xplaces47 Tryz.underlying47) rfl rfl) rfl (WR.store [_, _] H rfl rfl rfl (by repeat first | exact .head | apply Upd.tail) Tryz.sizeOf47 rfl (by rfl) (by rfl) (Wn.none rfl) ?_)
      intro w H
      refine NA (WA.done (by kernel_rfl) ?_)
      exact WQ.meetP [(0, _), (2, _), (4, _)] ⟨rfl, rfl, rfl, trivial⟩ ⟨_, _, rfl, (H.pick (L' := [RowS 85 4 xenc85 vp0 p0, .blk bk2 (.cells #[S [], S []] 47), .blk bk4 (.cells #[S a1.1, S a2.2.2.2] 47)]) (by repeat first | exact kPn | refine kPc (by repeat first | exact .head | apply Rem.tail) ?_)), hg_tabs⟩
  ·
   rintro e w ⟨b3, M, rfl, H, hg_tabs⟩
   refine TN (SQ (SQ ?_))
   obtain ⟨a4, hxa4, h⟩ := bnd h
   refine RG (MV rfl rfl (WR.idxRowSC (l := p0) H Tryz.underlying83 Tryz.sizeOf85 (by repeat first | exact kMh | apply kMt) rfl rfl hxa4 (Wn.none rfl) rfl ?_))
   intro g17 hg17
   refine ST (Ex.fieldAddr Tryz.underlying85 rfl Tryz.sizeOf3 (by decide) rfl) rfl (ST (Ex.loadRowF (j := 1) H rfl hg17 (by repeat first | exact kMh | apply kMt) (fun _ => rfl) hxa4 rfl Tryz.isAgg3) rfl ?_)
   refine ST (Ex.lss rfl rfl) rfl (NL (TN ?_))
   refine WC.condB rfl (fun hk5 => ?_) (fun hk5 => ?_)
   ·
    replace hk5 : a4.2.1 < (0 : Int) := of_decide_eq_true hk5
    rw [if_pos hk5] at h
    refine SQ (RG (ST (Ex.loadAgg H rfl (by repeat first | exact kMh | apply kMt) Tryz.isAgg47 Tryz.sizeOf47 (by rfl)) rfl ?_))
    refine MV rfl rfl (ST (Ex.lenRowS (l := p0) Tryz.underlying83 H (by repeat first | exact kMh | apply kMt) rfl) rfl ?_)
    refine ST (Ex.eql rfl rfl) rfl (WR.store [_, _] H rfl rfl rfl (by repeat first | exact .head | apply Upd.tail) Tryz.sizeOf47 rfl (by rfl) (by rfl) (Wn.none rfl) ?_)
    intro w H
    refine AS rfl rfl (NL (TN (RT ?_)))
    obtain rfl := Option.some.inj h
    exact WQ.retX2 (its := []) rfl ⟨_, rfl, H.loadAgg (by repeat first | exact kMh | apply kMt) Tryz.isAgg47 Tryz.sizeOf47 (by rfl)⟩ rfl H (by repeat first | exact kPn | refine kPc (by repeat first | exact .head | apply Rem.tail) ?_) ⟨rfl, rfl⟩
   ·
    replace hk5 : ¬ (a4.2.1 < (0 : Int)) := of_decide_eq_false hk5
    rw [if_neg hk5] at h
    refine SK (TN (SQ ?_))
    obtain ⟨l6, hxl6, h⟩ := bnd h
    refine RG (MV rfl rfl ?_)
    refine WR.callX (A := [RowS 85 4 xenc85 vp0 p0]) (B := [.blk bk2 (.cells #[S [], S []] 47), .blk b3 (.cells #[S a1.1, S a2.2.2.2] 47)]) (H.pick (L' := [RowS 85 4 xenc85 vp0 p0, .blk bk2 (.cells #[S [], S []] 47), .blk b3 (.cells #[S a1.1, S a2.2.2.2] 47)]) (by repeat first | exact kPn | refine kPc (by repeat first | exact .head | apply Rem.tail) ?_)) (slices_SortFunc_piece_ct hxl6) (.left (Spl.all _)) rfl trivial (Wn.none rfl) rfl ?_
    intro v26 M w its H hle hR
    replace hg_tabs := hg_tabs.mono hle
    obtain ⟨rfl, rfl⟩ := hR
    simp only [List.cons_append, List.nil_append] at H
    refine NL (TN (SQ (RG (ST (Ex.fieldAddr Tryz.underlying47 rfl Tryz.sizeOf9 (by decide) rfl) rfl (WR.store1 [_, _] H rfl rfl (by repeat first | exact .head | apply Upd.tail) (by rfl) Tryz.sizeOf9 (by first | decide | (simp; done) | (simp; omega)) (by rfl) (by rfl) (Wn.none rfl) ?_)))))
    intro w H
    refine NL (TN (SQ (SQ (RG (MV rfl rfl (ST (Ex.lenRowS (l := l6) Tryz.underlying83 H (by repeat first | exact kMh | apply kMt) rfl) rfl ?_))))))
    refine MV rfl rfl (NL (TN ?_))
    obtain ⟨o7, e8, h⟩ := bnd h
    refine WC.cutX (fun e w => ∃ (s9 : List UInt8) (s10 : List UInt8) (s11 : List UInt8) (s12 : List UInt8) (M : Mem), e = [(2, ptr bk2 0), (4, ptr b3 0)] ∧ StX (feet [RowS 85 4 xenc85 vp0 p0]) w0 M0 M [.blk bk2 (.cells #[S s9, S s10] 47), .blk b3 (.cells #[S s11, S s12] 47)] w ∧ Tabs M ∧ some (.inl (s9, s10, s11, s12)) = some o7) [] ?_ ?_ (trivial)
    ·
     refine BL ?_
     refine WC.loopP (fun m e w => ∃ (s13 : List UInt8) (s14 : List UInt8) (s15 : List UInt8) (s16 : List UInt8) (n17 : Int) (M : Mem), e = [(2, ptr bk2 0), (4, ptr b3 0), (28, vp0), (29, I (l6.length : Int)), (30, I n17)] ∧ StX (feet [RowS 85 4 xenc85 vp0 p0]) w0 M0 M [.blk bk2 (.cells #[S s13, S s14] 47), .blk b3 (.cells #[S s15, S s16] 47), RowS 85 4 xenc85 vp0 l6] w ∧ Tabs M ∧ media_joined_L1 l6 m s13 s14 s15 s16 n17 = some o7) FU [(2, _), (4, _), (28, _), (29, _), (30, _)] ⟨rfl, rfl, rfl, rfl, rfl, trivial⟩ ⟨_, _, _, _, _, _, rfl, (H.pick (L' := [.blk bk2 (.cells #[S [], S []] 47), .blk b3 (.cells #[S a1.1, S []] 47), RowS 85 4 xenc85 vp0 l6]) (by repeat first | exact kPn | refine kPc (by repeat first | exact .head | apply Rem.tail) ?_)), hg_tabs, e8⟩ ?_
     rintro m18 e w ⟨s13, s14, s15, s16, n17, M, rfl, H, hg_tabs, e8⟩
     rcases m18 with _ | m18
     · rw [media_joined_L1] at e8; cases e8
     rw [media_joined_L1] at e8
     refine SQ (RG (ST (Ex.lss rfl rfl) rfl (NL (TN (SQ ?_)))))
     refine WC.condB rfl (fun hk19 => ?_) (fun hk19 => ?_)
     ·
      replace hk19 : n17 < (l6.length : Int) := of_decide_eq_true hk19
      rw [if_pos hk19] at e8
      refine SK (TN (SQ (BL (SQ ?_))))
      obtain ⟨a20, hxa20, e8⟩ := bnd e8
      refine RG (MV rfl rfl (WR.idxRowSC (l := l6) H Tryz.underlying83 Tryz.sizeOf85 (by repeat first | exact kMh | apply kMt) rfl rfl hxa20 (Wn.none rfl) rfl ?_))
      intro g33 hg33
      refine ST (Ex.loadRowA H rfl hg33 (by repeat first | exact kMh | apply kMt) (fun _ => rfl) hxa20 Tryz.isAgg85 Tryz.sizeOf85) rfl ?_
      refine WR.alloc [_, _, _, _] H Tryz.zeroValue85 rfl (Wn.none rfl) rfl ?_
      intro bk6 w H
      refine AS rfl rfl (WR.store [_, _, _, _] H rfl rfl rfl (by repeat first | exact .head | apply Upd.tail) Tryz.sizeOf85 rfl (by rfl) (by rfl) (Wn.none rfl) ?_)
      intro w H
      refine NL (TN (SQ (SQ (RG (ST (Ex.fieldAddr Tryz.underlying85 rfl Tryz.sizeOf3 (by decide) rfl) rfl (ST (Ex.load1 H rfl (by repeat first | exact kMh | apply kMt) Tryz.isAgg3 (by rfl)) rfl ?_))))))
      refine MV rfl rfl (ST (Ex.neqC rfl rfl) rfl (NL (TN ?_)))
      refine WC.condB rfl (fun hk21 => ?_) (fun hk21 => ?_)
      ·
       replace hk21 : ¬ (a20.2.1 = n17) := of_not_decide hk21
       rw [if_neg hk21] at e8
       refine SQ (RG (ST (Ex.loadAgg H rfl (by repeat first | exact kMh | apply kMt) Tryz.isAgg47 Tryz.sizeOf47 (by rfl)) rfl ?_))
       refine WR.store [_, _] H rfl rfl rfl (by repeat first | exact .head | apply Upd.tail) Tryz.sizeOf47 rfl (by rfl) (by rfl) (Wn.none rfl) ?_
       intro w H
       refine AS rfl rfl (NL (TN (RT ?_)))
       obtain rfl := Option.some.inj e8
       try dsimp only at h
       obtain rfl := Option.some.inj h
       exact WQ.retX2 (its := []) rfl ⟨_, rfl, H.loadAgg (by repeat first | exact kMh | apply kMt) Tryz.isAgg47 Tryz.sizeOf47 (by rfl)⟩ rfl H (by repeat first | exact kPn | refine kPc (by repeat first | exact .head | apply Rem.tail) ?_) ⟨rfl, rfl⟩
      ·
       replace hk21 : a20.2.1 = n17 := of_not_decide' hk21
       rw [if_pos hk21] at e8
       refine SK (TN ?_)
       obtain ⟨s22, hx23, e8⟩ := bnd e8
       obtain ⟨s24, hxs24, e8⟩ := bnd e8
       refine WC.cutP (fun e w => ∃  (M : Mem), e = [(2, ptr bk2 0), (4, ptr b3 0), (28, vp0), (29, I (l6.length : Int)), (30, I n17)] ∧ StX (feet [RowS 85 4 xenc85 vp0 p0]) w0 M0 M [.blk bk2 (.cells #[S s13, S s14] 47), .blk b3 (.cells #[S s15, S s24] 47), RowS 85 4 xenc85 vp0 l6] w ∧ Tabs M) ?_ ?_
       ·
        refine WC.draw (m := 7) rfl rfl H ?_
        intro w H
        refine WA.take (i := 0) rfl (by kernel_rfl) (by kernel_rfl) (by kernel_rfl) (fun _ => Ex.fieldAddr Tryz.underlying47 rfl Tryz.sizeOf9 (by decide) rfl) (Wn.none rfl) rfl rfl (fun _ _ => rfl) (WA.takeM (i := 2) [1] rfl (by kernel_rfl) (by kernel_rfl) (by kernel_rfl) (Ex.loadAgg H rfl (by repeat first | exact kMh | apply kMt) Tryz.isAgg85 Tryz.sizeOf85 (by rfl)) (Wn.none rfl) rfl rfl (fun _ _ => rfl) ?_)
        refine WA.two (i := 1) (j := 3) (by kernel_rfl) rfl rfl ?_ ?_
        ·
         refine ST (Ex.load1 H rfl (by repeat first | exact kMh | apply kMt) Tryz.isAgg9 (by rfl)) rfl ?_
         refine NA (WA.seq (fuel := 0) [3, 4, 5, 6] rfl (by kernel_rfl) (WR.call H (media_piece_text_ct hx23) rfl trivial (Wn.none rfl) rfl ?_))
         intro v43 M w H hle hR
         replace hg_tabs := hg_tabs.mono hle
         obtain rfl := hR
         refine ST (Ex.strAddC rfl rfl hxs24) rfl (ST (Ex.fieldAddr Tryz.underlying47 rfl Tryz.sizeOf9 (by decide) rfl) rfl (WR.store1 [_, _] H rfl rfl (by repeat first | exact .head | apply Upd.tail) (by rfl) Tryz.sizeOf9 (by first | decide | (simp; done) | (simp; omega)) (by rfl) (by rfl) (Wn.none rfl) ?_))
         intro w H
         refine NA (WA.done (by kernel_rfl) ?_)
         exact WQ.meetP [(2, _), (4, _), (28, _), (29, _), (30, _)] ⟨rfl, rfl, rfl, rfl, rfl, trivial⟩ ⟨_, rfl, (H.pick (L' := [.blk bk2 (.cells #[S s13, S s14] 47), .blk b3 (.cells #[S s15, S s24] 47), RowS 85 4 xenc85 vp0 l6]) (by repeat first | exact kPn | refine kPc (by repeat first | exact .head | apply Rem.tail) ?_)), hg_tabs⟩
        ·
         refine WR.call H (media_piece_text_ct hx23) rfl trivial (Wn.none rfl) rfl ?_
         intro v43 M w H hle hR
         replace hg_tabs := hg_tabs.mono hle
         obtain rfl := hR
         refine NA (WA.seq (fuel := 0) [1, 4, 5, 6] rfl (by kernel_rfl) (ST (Ex.load1 H rfl (by repeat first | exact kMh | apply kMt) Tryz.isAgg9 (by rfl)) rfl ?_))
         refine ST (Ex.strAddC rfl rfl hxs24) rfl (ST (Ex.fieldAddr Tryz.underlying47 rfl Tryz.sizeOf9 (by decide) rfl) rfl (WR.store1 [_, _] H rfl rfl (by repeat first | exact .head | apply Upd.tail) (by rfl) Tryz.sizeOf9 (by first | decide | (simp; done) | (simp; omega)) (by rfl) (by rfl) (Wn.none rfl) ?_))
         intro w H
         refine NA (WA.done (by kernel_rfl) ?_)
         exact WQ.meetP [(2, _), (4, _), (28, _), (29, _), (30, _)] ⟨rfl, rfl, rfl, rfl, rfl, trivial⟩ ⟨_, rfl, (H.pick (L' := [.blk bk2 (.cells #[S s13, S s14] 47), .blk b3 (.cells #[S s15, S s24] 47), RowS 85 4 xenc85 vp0 l6]) (by repeat first | exact kPn | refine kPc (by repeat first | exact .head | apply Rem.tail) ?_)), hg_tabs⟩
       ·
        rintro e w ⟨M, rfl, H, hg_tabs⟩
        refine IB (TN ?_)
        obtain ⟨n25, hxn25, e8⟩ := bnd e8
        refine RG (ST (Ex.addC rfl rfl hxn25) rfl (MV rfl rfl (NL ?_)))
        exact WQ.againP m18 [(2, _), (4, _), (28, _), (29, _), (30, _)] ⟨rfl, rfl, rfl, rfl, rfl, trivial⟩ ⟨_, _, _, _, _, _, rfl, H, hg_tabs, e8⟩ (Nat.lt_succ_self _)
     ·
      replace hk19 : ¬ (n17 < (l6.length : Int)) := of_decide_eq_false hk19
      rw [if_neg hk19] at e8
      refine WC.exit (WQ.thenExit (WQ.thenExit (WQ.exitHere ?_)))
      exact WQ.meetN [(2, _), (4, _)] ⟨rfl, rfl, trivial⟩ ⟨_, _, _, _, _, rfl, (H.pick (L' := [.blk bk2 (.cells #[S s13, S s14] 47), .blk b3 (.cells #[S s15, S s16] 47)]) (by repeat first | exact kPn | refine kPc (by repeat first | exact .head | apply Rem.tail) ?_)), hg_tabs, e8⟩
    ·
     rintro e w ⟨s9, s10, s11, s12, M, rfl, H, hg_tabs, q26⟩
     obtain rfl := Option.some.inj q26
     try dsimp only at h
     refine TN (SQ ?_)
     obtain ⟨s27, hx28, h⟩ := bnd h
     refine RG (ST (Ex.fieldAddr Tryz.underlying47 rfl Tryz.sizeOf9 (by decide) rfl) rfl (ST (Ex.load1 H rfl (by repeat first | exact kMh | apply kMt) Tryz.isAgg9 (by rfl)) rfl ?_))
     refine WR.call H (strings_ToValidUTF8_ct hx28) rfl (hg_tabs) (Wn.none rfl) rfl ?_
     intro v49 M w H hle hR
     replace hg_tabs := hg_tabs.mono hle
     obtain rfl := hR
     refine ST (Ex.fieldAddr Tryz.underlying47 rfl Tryz.sizeOf9 (by decide) rfl) rfl (WR.store1 [_, _] H rfl rfl (by repeat first | exact .head | apply Upd.tail) (by rfl) Tryz.sizeOf9 (by first | decide | (simp; done) | (simp; omega)) (by rfl) (by rfl) (Wn.none rfl) ?_)
     intro w H
     refine NL (TN (SQ (RG (ST (Ex.loadAgg H rfl (by repeat first | exact kMh | apply kMt) Tryz.isAgg47 Tryz.sizeOf47 (by rfl)) rfl ?_))))
     refine WR.store [_, _] H rfl rfl rfl (by repeat first | exact .head | apply Upd.tail) Tryz.sizeOf47 rfl (by rfl) (by rfl) (Wn.none rfl) ?_
     intro w H
     refine AS rfl rfl (NL (TN (RT ?_)))
     obtain rfl := Option.some.inj h
     exact WQ.retX2 (its := []) rfl ⟨_, rfl, H.loadAgg (by repeat first | exact kMh | apply kMt) Tryz.isAgg47 Tryz.sizeOf47 (by rfl)⟩ rfl H (by repeat first | exact kPn | refine kPc (by repeat first | exact .head | apply Rem.tail) ?_) ⟨rfl, rfl⟩
theorem media_params_ct {p0 : List (List UInt8 × Int × Bool × List UInt8)} {vp0 : Value} {r : (List (List UInt8 × List UInt8) × Bool)} (h : media_params p0 = some r) : Ct Tryz.prog 60 [vp0] (fun M => Tabs M ∧ SlS M 4 xenc85 vp0 p0) (fun v M => ∃ x0, v = Value.tuple #[x0, Value.bool r.2] ∧ SlS M 2 xenc47 x0 r.1) := by
  refine Ct.of Tryz.func60 (enters Tryz.func60 (by kernel_rfl) rfl) rfl rfl rfl ?_
  intro w0 M0 H hp
  obtain ⟨hg_tabs, hp0⟩ := hp
  unfold media_params at h
  refine SQ (RG (AS rfl rfl (AS rfl rfl (NL (TN (SQ (RG (AS rfl rfl (NL (TN (SQ (SQ (RG (MV rfl rfl (ST (Ex.lenSlS Tryz.underlying83 hp0 rfl) rfl (MV rfl rfl (NL (TN ?_))))))))))))))))))
  obtain ⟨o1, e2, h⟩ := bnd h
  refine WC.cutX (fun e w => ∃ (l4 : List (List UInt8 × List UInt8)) (v5 : Value) (M : Mem), e = [(4, v5)] ∧ St w0 M0 M [RowS 47 2 xenc47 v5 l4] w ∧ Tabs M ∧ some (.inl l4) = some o1) [] ?_ ?_ (trivial)
  ·
   refine BL ?_
   replace H := H.newRowS 47 2 xenc47
   refine WC.loopP (fun m e w => ∃ (l7 : List (List UInt8 × List UInt8)) (v8 : Value) (n9 : Int) (M : Mem), e = [(0, vp0), (4, v8), (13, vp0), (14, I (p0.length : Int)), (15, I n9)] ∧ St w0 M0 M [RowS 47 2 xenc47 v8 l7] w ∧ Tabs M ∧ SlS M 4 xenc85 vp0 p0 ∧ media_params_L1 p0 m l7 n9 = some o1) FU [(0, _), (4, _), (13, _), (14, _), (15, _)] ⟨rfl, rfl, rfl, rfl, rfl, trivial⟩ ⟨_, _, _, _, rfl, H, hg_tabs, hp0, e2⟩ ?_
   rintro m10 e w ⟨l7, v8, n9, M, rfl, H, hg_tabs, hp0, e2⟩
   rcases m10 with _ | m10
   · rw [media_params_L1] at e2; cases e2
   rw [media_params_L1] at e2
   refine SQ (RG (ST (Ex.lss rfl rfl) rfl (NL (TN (SQ ?_)))))
   refine WC.condB rfl (fun hk12 => ?_) (fun hk12 => ?_)
   ·
    replace hk12 : n9 < (p0.length : Int) := of_decide_eq_true hk12
    rw [if_pos hk12] at e2
    refine SK (TN (SQ (BL (SQ ?_))))
    obtain ⟨a13, hxa13, e2⟩ := bnd e2
    obtain ⟨bk18, o18, ha18, hc18⟩ := hp0.atC hxa13
    refine RG (MV rfl rfl (ST (Ex.idxAt ha18 Tryz.underlying83 Tryz.sizeOf85 rfl rfl) rfl (ST (Ex.loadAggM H rfl hc18 Tryz.isAgg85 Tryz.sizeOf85 (by rfl)) rfl ?_)))
    refine WR.alloc [_, _, _, _] H Tryz.zeroValue85 rfl (Wn.none rfl) rfl ?_
    intro bk6 w H
    refine AS rfl rfl (WR.store [_, _, _, _] H rfl rfl rfl (by repeat first | exact .head | apply Upd.tail) Tryz.sizeOf85 rfl (by rfl) (by rfl) (Wn.none rfl) ?_)
    intro w H
    refine NL (TN (SQ (RG ?_)))
    obtain ⟨M, hle, hb14, H⟩ := H.freezeVar (b := bk6) (by repeat first | exact .head | apply Rem.tail)
    replace hg_tabs := hg_tabs.mono hle
    replace hp0 := hp0.mono hle
    replace hc18 := hc18.mono hle
    refine ST (Ex.makeFunc rfl) rfl (AS rfl rfl (NL (TN (SQ (SQ ?_)))))
    obtain ⟨l15, hxl15, e2⟩ := bnd e2
    obtain ⟨b16, hx17, e2⟩ := bnd e2
    refine RG (MV rfl rfl (MV rfl rfl (WR.sliceSSH Tryz.underlying83 Tryz.sizeOf85 (hp0) rfl rfl hxl15 (Wn.none rfl) rfl ?_)))
    intro v23 hs23
    refine MV rfl rfl (WR.call H (slices_ContainsFunc_piece_ct hx17) rfl ⟨hs23, (fun _ _ h => FnV.ofCap [ptr bk6 0] (media_params_1_ct h) (fun _ hm => hb14.mono hm))⟩ (Wn.none rfl) rfl ?_)
    intro v25 M w H hle hR
    replace hg_tabs := hg_tabs.mono hle
    replace hp0 := hp0.mono hle
    replace hc18 := hc18.mono hle
    replace hb14 := hb14.mono hle
    replace hs23 := hs23.mono hle
    obtain rfl := hR
    refine NL (TN ?_)
    refine WC.condB rfl (fun hk18 => ?_) (fun hk18 => ?_)
    ·
     subst hk18
     rw [if_pos rfl] at e2
     refine WC.exit (WQ.thenExit (WQ.exitHere (TN ?_)))
     obtain ⟨n19, hxn19, e2⟩ := bnd e2
     refine RG (ST (Ex.addC rfl rfl hxn19) rfl (MV rfl rfl (NL ?_)))
     exact WQ.againP m10 [(0, _), (4, _), (13, _), (14, _), (15, _)] ⟨rfl, rfl, rfl, rfl, rfl, trivial⟩ ⟨_, _, _, _, rfl, H, hg_tabs, hp0, e2⟩ (Nat.lt_succ_self _)
    ·
     subst hk18
     rw [if_neg Bool.false_ne_true] at e2
     refine SK (TN (SQ (RG (AS rfl rfl (NL (TN (SQ (SQ (RG (MV rfl rfl (ST (Ex.lenSlS Tryz.underlying83 hp0 rfl) rfl (MV rfl rfl (NL (TN ?_))))))))))))))
     obtain ⟨o20, e21, e2⟩ := bnd e2
     refine WC.cutX (fun e w => ∃ (l23 : List (List UInt8 × Int × Bool × List UInt8)) (v24 : Value) (M : Mem), e = [(0, vp0), (4, v8), (6, ptr bk6 0), (8, v24), (13, vp0), (14, I (p0.length : Int)), (15, I n9)] ∧ St w0 M0 M [RowS 47 2 xenc47 v8 l7, RowS 85 4 xenc85 v24 l23] w ∧ Tabs M ∧ SlS M 4 xenc85 vp0 p0 ∧ PtM M bk6 (.cells #[S a13.1, I a13.2.1, Value.bool a13.2.2.1, S a13.2.2.2] 85) ∧ some l23 = some o20) [] ?_ ?_ (trivial)
     ·
      refine BL ?_
      replace H := H.newRowS 85 4 xenc85
      refine WC.loopP (fun m e w => ∃ (l26 : List (List UInt8 × Int × Bool × List UInt8)) (v27 : Value) (n28 : Int) (M : Mem), e = [(0, vp0), (4, v8), (6, ptr bk6 0), (7, (Value.func (.func 79) #[] #[ptr bk6 0])), (8, v27), (13, vp0), (14, I (p0.length : Int)), (15, I n9), (26, vp0), (27, I (p0.length : Int)), (28, I n28)] ∧ St w0 M0 M [RowS 47 2 xenc47 v8 l7, RowS 85 4 xenc85 v27 l26] w ∧ Tabs M ∧ SlS M 4 xenc85 vp0 p0 ∧ PtM M bk6 (.cells #[S a13.1, I a13.2.1, Value.bool a13.2.2.1, S a13.2.2.2] 85) ∧ media_params_L2 p0 a13 m l26 n28 = some o20) FU [(0, _), (4, _), (6, _), (7, _), (8, _), (13, _), (14, _), (15, _), (26, _), (27, _), (28, _)] ⟨rfl, rfl, rfl, rfl, rfl, rfl, rfl, rfl, rfl, rfl, rfl, trivial⟩ ⟨_, _, _, _, rfl, (H.pick (L' := [RowS 47 2 xenc47 v8 l7, RowS 85 4 xenc85 (Value.slice none 0 0) []]) (by repeat first | exact kPn | refine kPc (by repeat first | exact .head | apply Rem.tail) ?_)), hg_tabs, hp0, hb14, e21⟩ ?_
      rintro m29 e w ⟨l26, v27, n28, M, rfl, H, hg_tabs, hp0, hb14, e21⟩
      rcases m29 with _ | m29
      · rw [media_params_L2] at e21; cases e21
      rw [media_params_L2] at e21
      refine SQ (RG (ST (Ex.lss rfl rfl) rfl (NL (TN (SQ ?_)))))
      refine WC.condB rfl (fun hk31 => ?_) (fun hk31 => ?_)
      ·
       replace hk31 : n28 < (p0.length : Int) := of_decide_eq_true hk31
       rw [if_pos hk31] at e21
       refine SK (TN (SQ (BL (SQ ?_))))
       obtain ⟨a32, hxa32, e21⟩ := bnd e21
       obtain ⟨bk30, o30, ha30, hc30⟩ := hp0.atC hxa32
       refine RG (ST (Ex.idxAt ha30 Tryz.underlying83 Tryz.sizeOf85 rfl rfl) rfl (ST (Ex.loadAggM H rfl hc30 Tryz.isAgg85 Tryz.sizeOf85 (by rfl)) rfl ?_))
       refine WR.alloc [_, _, _, _] H Tryz.zeroValue85 rfl (Wn.none rfl) rfl ?_
       intro bk10 w H
       refine WR.store [_, _, _, _] H rfl rfl rfl (by repeat first | exact .head | apply Upd.tail) Tryz.sizeOf85 rfl (by rfl) (by rfl) (Wn.none rfl) ?_
       intro w H
       refine NL (TN (SQ ?_))
       obtain ⟨b33, hx34, e21⟩ := bnd e21
       refine RG (MV rfl rfl (ST (Ex.loadAgg H rfl (by repeat first | exact kMh | apply kMt) Tryz.isAgg85 Tryz.sizeOf85 (by rfl)) rfl ?_))
       refine WR.callV (vs := [Value.agg #[S a32.1, I a32.2.1, Value.bool a32.2.2.1, S a32.2.2.2]]) (cap := [ptr bk6 0]) H (media_params_1_ct hx34) rfl rfl (hb14) (Wn.none rfl) rfl ?_
       intro v34 M w H hle hR
       replace hg_tabs := hg_tabs.mono hle
       replace hp0 := hp0.mono hle
       replace hc30 := hc30.mono hle
       replace hb14 := hb14.mono hle
       obtain rfl := hR
       refine NL (TN ?_)
       refine WC.condB rfl (fun hk35 => ?_) (fun hk35 => ?_)
       ·
        subst hk35
        rw [if_pos rfl] at e21
        obtain ⟨l36, hxl36, e21⟩ := bnd e21
        refine RG (MV rfl rfl (ST (Ex.loadAgg H rfl (by repeat first | exact kMh | apply kMt) Tryz.isAgg85 Tryz.sizeOf85 (by rfl)) rfl ?_))
        refine WR.litS (enc := xenc85) xty83 ([(a32.1, a32.2.1, a32.2.2.1, a32.2.2.2)] : List (List UInt8 × Int × Bool × List UInt8)) H (fun _ => rfl) rfl (by kernel_rfl) rfl rfl rfl (Wn.none rfl) rfl ?_
        intro v37 M w H hle hs37
        replace hg_tabs := hg_tabs.mono hle
        replace hp0 := hp0.mono hle
        replace hc30 := hc30.mono hle
        replace hb14 := hb14.mono hle
        refine WR.appSC (l := l26) xty83 rfl xone85 H rfl (fun _ => by repeat first | exact .head | apply Upd.tail) rfl (hs37) hxl36 (Wn.none rfl) rfl ?_
        intro v38 w H
        refine AS rfl rfl (NL (IB (TN ?_)))
        obtain ⟨n37, hxn37, e21⟩ := bnd e21
        refine RG (ST (Ex.addC rfl rfl hxn37) rfl (MV rfl rfl (NL ?_)))
        exact WQ.againP m29 [(0, _), (4, _), (6, _), (7, _), (8, _), (13, _), (14, _), (15, _), (26, _), (27, _), (28, _)] ⟨rfl, rfl, rfl, rfl, rfl, rfl, rfl, rfl, rfl, rfl, rfl, trivial⟩ ⟨_, _, _, _, rfl, (H.pick (L' := [RowS 47 2 xenc47 v8 l7, RowS 85 4 xenc85 v38 l36]) (by repeat first | exact kPn | refine kPc (by repeat first | exact .head | apply Rem.tail) ?_)), hg_tabs, hp0, hb14, e21⟩ (Nat.lt_succ_self _)
       ·
        subst hk35
        rw [if_neg Bool.false_ne_true] at e21
        refine SK (IB (TN ?_))
        obtain ⟨n38, hxn38, e21⟩ := bnd e21
        refine RG (ST (Ex.addC rfl rfl hxn38) rfl (MV rfl rfl (NL ?_)))
        exact WQ.againP m29 [(0, _), (4, _), (6, _), (7, _), (8, _), (13, _), (14, _), (15, _), (26, _), (27, _), (28, _)] ⟨rfl, rfl, rfl, rfl, rfl, rfl, rfl, rfl, rfl, rfl, rfl, trivial⟩ ⟨_, _, _, _, rfl, (H.pick (L' := [RowS 47 2 xenc47 v8 l7, RowS 85 4 xenc85 v27 l26]) (by repeat first | exact kPn | refine kPc (by repeat first | exact .head | apply Rem.tail) ?_)), hg_tabs, hp0, hb14, e21⟩ (Nat.lt_succ_self _)
      ·
       replace hk31 : ¬ (n28 < (p0.length : Int)) := of_decide_eq_false hk31
       rw [if_neg hk31] at e21
       refine WC.exit (WQ.thenExit (WQ.thenExit (WQ.exitHere ?_)))
       exact WQ.meetN [(0, _), (4, _), (6, _), (8, _), (13, _), (14, _), (15, _)] ⟨rfl, rfl, rfl, rfl, rfl, rfl, rfl, trivial⟩ ⟨_, _, _, rfl, H, hg_tabs, hp0, hb14, e21⟩
     ·
      rintro e w ⟨l23, v24, M, rfl, H, hg_tabs, hp0, hb14, q39⟩
      obtain rfl := Option.some.inj q39
      refine TN (SQ ?_)
      obtain ⟨⟨⟨s40, s41⟩, b42⟩, hx43, e2⟩ := bnd e2
      try dsimp only at e2
      refine RG (MV rfl rfl ?_)
      refine WR.callX (A := [RowS 85 4 xenc85 v24 l23]) (B := [RowS 47 2 xenc47 v8 l7]) (H.pick (L' := [RowS 85 4 xenc85 v24 l23, RowS 47 2 xenc47 v8 l7]) (by repeat first | exact kPn | refine kPc (by repeat first | exact .head | apply Rem.tail) ?_)) (media_joined_ct hx43) (.left (Spl.all _)) rfl (hg_tabs) (Wn.none rfl) rfl ?_
      intro v42 M w its H hle hR
      replace hg_tabs := hg_tabs.mono hle
      replace hp0 := hp0.mono hle
      replace hb14 := hb14.mono hle
      try dsimp only at hR
      obtain ⟨rfl, rfl⟩ := hR
      simp only [List.cons_append, List.nil_append] at H
      refine MV rfl rfl (ST (Ex.extract rfl rfl) rfl (ST (Ex.extract rfl rfl) rfl (WR.alloc [_, _] H Tryz.zeroValue47 rfl (Wn.none rfl) rfl ?_)))
      intro bk11 w H
      refine WR.store [_, _] H rfl rfl rfl (by repeat first | exact .head | apply Upd.tail) Tryz.sizeOf47 rfl (by rfl) (by rfl) (Wn.none rfl) ?_
      intro w H
      refine AS rfl rfl (NL (TN (SQ (SQ (RG (MV rfl rfl (ST (Ex.not rfl) rfl (NL (TN ?_)))))))))
      refine WC.condB rfl (fun hk44 => ?_) (fun hk44 => ?_)
      ·
       replace hk44 : b42 = false := by simpa using hk44
       subst hk44
       rw [if_neg Bool.false_ne_true] at e2
       refine SQ (RG (AS rfl rfl (AS rfl rfl (NL (TN (RT ?_))))))
       obtain rfl := Option.some.inj e2
       try dsimp only at h
       obtain rfl := Option.some.inj h
       exact WQ.ret2 rfl rfl rfl H.ext (⟨_, rfl, (SlS.nil _ _ (fun _ => rfl))⟩)
      ·
       replace hk44 : b42 = true := by simpa using hk44
       subst hk44
       rw [if_pos rfl] at e2
       refine SK (TN (SQ (RG (ST (Ex.fieldAddr Tryz.underlying85 rfl Tryz.sizeOf9 (by decide) rfl) rfl (ST (Ex.loadM H rfl (hb14.cell (j := 0) rfl) Tryz.isAgg9) rfl (ST (Ex.fieldAddr Tryz.underlying47 rfl Tryz.sizeOf9 (by decide) rfl) rfl (WR.store1 [_, _] H rfl rfl (by repeat first | exact .head | apply Upd.tail) (by rfl) Tryz.sizeOf9 (by first | decide | (simp; done) | (simp; omega)) (by rfl) (by rfl) (Wn.none rfl) ?_)))))))
       intro w H
       refine NL (TN ?_)
       obtain ⟨l45, hxl45, e2⟩ := bnd e2
       refine RG (MV rfl rfl (ST (Ex.loadAgg H rfl (by repeat first | exact kMh | apply kMt) Tryz.isAgg47 Tryz.sizeOf47 (by rfl)) rfl ?_))
       refine WR.litS (enc := xenc47) xty22 ([(a13.1, s41)] : List (List UInt8 × List UInt8)) H (fun _ => rfl) rfl (by kernel_rfl) rfl rfl rfl (Wn.none rfl) rfl ?_
       intro v52 M w H hle hs52
       replace hg_tabs := hg_tabs.mono hle
       replace hp0 := hp0.mono hle
       replace hb14 := hb14.mono hle
       refine WR.appSC (l := l7) xty22 rfl xone47 H rfl (fun _ => by repeat first | exact .head | apply Upd.tail) rfl (hs52) hxl45 (Wn.none rfl) rfl ?_
       intro v53 w H
       refine AS rfl rfl (NL (IB (TN ?_)))
       obtain ⟨n46, hxn46, e2⟩ := bnd e2
       refine RG (ST (Ex.addC rfl rfl hxn46) rfl (MV rfl rfl (NL ?_)))
       exact WQ.againP m10 [(0, _), (4, _), (13, _), (14, _), (15, _)] ⟨rfl, rfl, rfl, rfl, rfl, trivial⟩ ⟨_, _, _, _, rfl, (H.pick (L' := [RowS 47 2 xenc47 v53 l45]) (by repeat first | exact kPn | refine kPc (by repeat first | exact .head | apply Rem.tail) ?_)), hg_tabs, hp0, e2⟩ (Nat.lt_succ_self _)
   ·
    replace hk12 : ¬ (n9 < (p0.length : Int)) := of_decide_eq_false hk12
    rw [if_neg hk12] at e2
    refine WC.exit (WQ.thenExit (WQ.thenExit (WQ.exitHere ?_)))
    exact WQ.meetN [(4, _)] ⟨rfl, trivial⟩ ⟨_, _, _, rfl, H, hg_tabs, e2⟩
  ·
   rintro e w ⟨l4, v5, M, rfl, H, hg_tabs, q47⟩
   obtain rfl := Option.some.inj q47
   try dsimp only at h
   refine TN (SQ (RG (MV rfl rfl (AS rfl rfl (AS rfl rfl (NL (TN (RT ?_))))))))
   obtain ⟨M, hle, hs48, H⟩ := H.freezeRowS (v := v5) (enc := xenc47) (t := 47) (by repeat first | exact .head | apply Rem.tail) (fun _ => rfl)
   replace hg_tabs := hg_tabs.mono hle
   obtain rfl := Option.some.inj h
   exact WQ.ret2 rfl rfl rfl H.ext (⟨_, rfl, hs48⟩)
theorem media_parse_ct {p0 : List UInt8} {r : ((List UInt8 × List UInt8 × List (List UInt8 × List UInt8)) × Bool)} (h : media_parse p0 = some r) : Ct Tryz.prog 34 [S p0] (fun M => GlF (fun w => ∃ tp p, w.var? Tryz.prog "strconv.ErrRange" = some #[.iface tp p]) M ∧ GlF (fun w => ∃ tp p, w.var? Tryz.prog "strconv.ErrSyntax" = some #[.iface tp p]) M ∧ GlF (fun w => ∃ m, w.cell? ⟨2, 0, none⟩ = some (.int .i64 m)) M ∧ GlF (fun w => Lib.TabIs Tryz.prog w "internal/strconv.uint64pow10" .u64 Lib.pow10Tab) M ∧ Tabs M) (fun v M => ∃ x0_2, v = Value.tuple #[Value.agg #[S r.1.1, S r.1.2.1, x0_2], Value.bool r.2] ∧ SlS M 2 xenc47 x0_2 r.1.2.2) := by
  refine Ct.of Tryz.func34 (enters Tryz.func34 (by kernel_rfl) rfl) rfl rfl rfl ?_
  intro w0 M0 H hp
  obtain ⟨hg_errR, hg_errS, hg_maxl, hg_pow10, hg_tabs⟩ := hp
  unfold media_parse at h
  refine SQ (RG (WR.alloc [_, _, _] H Tryz.zeroValue24 rfl (Wn.none rfl) rfl ?_))
  intro bk2 w H
  refine AS rfl rfl (NL (TN (SQ (RG (MV rfl rfl (ST (Ex.build [S p0] Tryz.underlying81 Tryz.zeroValue81 (xplaces81 Tryz.underlying81) rfl rfl) rfl (WR.box [_] H rfl rfl (Wn.none rfl) rfl ?_)))))))
  intro bk13 w H
  refine AS rfl rfl (NL (TN (SQ (RG (WR.alloc [_, _, _] H Tryz.zeroValue24 rfl (Wn.none rfl) rfl ?_)))))
  intro bk5 w H
  refine NL (TN (SQ ?_))
  obtain ⟨⟨s1, o2⟩, hx3, h⟩ := bnd h
  try dsimp only at h
  refine RG (MV rfl rfl ?_)
  refine WR.callX (A := [.blk bk13 (.cells #[S p0] 81)]) (B := [.blk bk5 (.cells #[S [], S [], Value.slice none 0 0] 24), .blk bk2 (.cells #[S [], S [], Value.slice none 0 0] 24)]) (H.pick (L' := [.blk bk13 (.cells #[S p0] 81), .blk bk5 (.cells #[S [], S [], Value.slice none 0 0] 24), .blk bk2 (.cells #[S [], S [], Value.slice none 0 0] 24)]) (by repeat first | exact kPn | refine kPc (by repeat first | exact .head | apply Rem.tail) ?_)) (media_reader_take_ct hx3) (.left (Spl.all _)) rfl ((fun _ _ h => FnV.of (media_tokenByte_ct h) (fun _ _ => trivial))) (Wn.none rfl) rfl ?_
  intro v15 M w its H hle hR
  replace hg_errR := hg_errR.mono hle
  replace hg_errS := hg_errS.mono hle
  replace hg_maxl := hg_maxl.mono hle
  replace hg_pow10 := hg_pow10.mono hle
  replace hg_tabs := hg_tabs.mono hle
  try dsimp only at hR
  obtain ⟨rfl, rfl⟩ := hR
  simp only [List.cons_append, List.nil_append] at H
  refine ST (Ex.fieldAddr Tryz.underlying24 rfl Tryz.sizeOf9 (by decide) rfl) rfl (WR.store1 [_, _, _] H rfl rfl (by repeat first | exact .head | apply Upd.tail) (by rfl) Tryz.sizeOf9 (by first | decide | (simp; done) | (simp; omega)) (by rfl) (by rfl) (Wn.none rfl) ?_)
  intro w H
  refine NL (TN (SQ ?_))
  obtain ⟨⟨b4, o5⟩, hx6, h⟩ := bnd h
  try dsimp only at h
  refine RG (MV rfl rfl ?_)
  refine WR.callX (A := [.blk bk13 (.cells #[S o2] 81)]) (B := [.blk bk5 (.cells #[S s1, S [], Value.slice none 0 0] 24), .blk bk2 (.cells #[S [], S [], Value.slice none 0 0] 24)]) (H.pick (L' := [.blk bk13 (.cells #[S o2] 81), .blk bk5 (.cells #[S s1, S [], Value.slice none 0 0] 24), .blk bk2 (.cells #[S [], S [], Value.slice none 0 0] 24)]) (by repeat first | exact kPn | refine kPc (by repeat first | exact .head | apply Rem.tail) ?_)) (media_reader_sign_ct hx6) (.left (Spl.all _)) rfl trivial (Wn.none rfl) rfl ?_
  intro v18 M w its H hle hR
  replace hg_errR := hg_errR.mono hle
  replace hg_errS := hg_errS.mono hle
  replace hg_maxl := hg_maxl.mono hle
  replace hg_pow10 := hg_pow10.mono hle
  replace hg_tabs := hg_tabs.mono hle
  try dsimp only at hR
  obtain ⟨rfl, rfl⟩ := hR
  simp only [List.cons_append, List.nil_append] at H
  refine AS rfl rfl (NL (TN (SQ ?_)))
  obtain ⟨⟨s7, o8⟩, hx9, h⟩ := bnd h
  try dsimp only at h
  refine RG (MV rfl rfl ?_)
  refine WR.callX (A := [.blk bk13 (.cells #[S o5] 81)]) (B := [.blk bk5 (.cells #[S s1, S [], Value.slice none 0 0] 24), .blk bk2 (.cells #[S [], S [], Value.slice none 0 0] 24)]) (H.pick (L' := [.blk bk13 (.cells #[S o5] 81), .blk bk5 (.cells #[S s1, S [], Value.slice none 0 0] 24), .blk bk2 (.cells #[S [], S [], Value.slice none 0 0] 24)]) (by repeat first | exact kPn | refine kPc (by repeat first | exact .head | apply Rem.tail) ?_)) (media_reader_take_ct hx9) (.left (Spl.all _)) rfl ((fun _ _ h => FnV.of (media_tokenByte_ct h) (fun _ _ => trivial))) (Wn.none rfl) rfl ?_
  intro v20 M w its H hle hR
  replace hg_errR := hg_errR.mono hle
  replace hg_errS := hg_errS.mono hle
  replace hg_maxl := hg_maxl.mono hle
  replace hg_pow10 := hg_pow10.mono hle
  replace hg_tabs := hg_tabs.mono hle
  try dsimp only at hR
  obtain ⟨rfl, rfl⟩ := hR
  simp only [List.cons_append, List.nil_append] at H
  refine ST (Ex.fieldAddr Tryz.underlying24 rfl Tryz.sizeOf9 (by decide) rfl) rfl (WR.store1 [_, _, _] H rfl rfl (by repeat first | exact .head | apply Upd.tail) (by rfl) Tryz.sizeOf9 (by first | decide | (simp; done) | (simp; omega)) (by rfl) (by rfl) (Wn.none rfl) ?_)
  intro w H
  refine NL (TN (SQ (SQ ?_)))
  obtain ⟨o10, e11, h⟩ := bnd h
  refine WC.cutX (fun e w => ∃ (b12 : Bool) (M : Mem), e = [(2, ptr bk2 0), (4, ptr bk13 0), (5, ptr bk5 0), (33, Value.bool b12)] ∧ St w0 M0 M [.blk bk2 (.cells #[S [], S [], Value.slice none 0 0] 24), .blk bk13 (.cells #[S o8] 81), .blk bk5 (.cells #[S s1, S s7, Value.slice none 0 0] 24)] w ∧ GlF (fun w => ∃ tp p, w.var? Tryz.prog "strconv.ErrRange" = some #[.iface tp p]) M ∧ GlF (fun w => ∃ tp p, w.var? Tryz.prog "strconv.ErrSyntax" = some #[.iface tp p]) M ∧ GlF (fun w => ∃ m, w.cell? ⟨2, 0, none⟩ = some (.int .i64 m)) M ∧ GlF (fun w => Lib.TabIs Tryz.prog w "internal/strconv.uint64pow10" .u64 Lib.pow10Tab) M ∧ Tabs M ∧ some b12 = some o10) [] ?_ ?_ (trivial)
  ·
   refine RG (ST (Ex.fieldAddr Tryz.underlying24 rfl Tryz.sizeOf9 (by decide) rfl) rfl (ST (Ex.load1 H rfl (by repeat first | exact kMh | apply kMt) Tryz.isAgg9 (by rfl)) rfl ?_))
   by_cases hk13 : s1 = []
   ·
    rw [if_pos hk13] at e11
    refine WR.stepE (v' := .bool true) (Ex.strEql rfl rfl) (congrArg Value.bool (decide_eq_true hk13)) (Wn.none rfl) rfl rfl (MV rfl rfl (GT rfl rfl rfl (GT rfl rfl rfl (PT rfl rfl rfl (MV rfl rfl (WR.skipN 3 rfl rfl (PT rfl rfl rfl (NL ?_))))))))
    exact WQ.meetN [(2, _), (4, _), (5, _), (33, _)] ⟨rfl, rfl, rfl, rfl, trivial⟩ ⟨_, _, rfl, (H.pick (L' := [.blk bk2 (.cells #[S [], S [], Value.slice none 0 0] 24), .blk bk13 (.cells #[S o8] 81), .blk bk5 (.cells #[S s1, S s7, Value.slice none 0 0] 24)]) (by repeat first | exact kPn | refine kPc (by repeat first | exact .head | apply Rem.tail) ?_)), hg_errR, hg_errS, hg_maxl, hg_pow10, hg_tabs, e11⟩
   ·
    rw [if_neg hk13] at e11
    rcases b4 with _ | _
    ·
     rw [if_neg Bool.false_ne_true] at e11
     refine WR.stepE (v' := .bool false) (Ex.strEql rfl rfl) (congrArg Value.bool (decide_eq_false hk13)) (Wn.none rfl) rfl rfl (MV rfl rfl (SG (Ex.move rfl) rfl rfl rfl (SG (Ex.not rfl) rfl rfl rfl (PF rfl rfl rfl (MV rfl rfl (WR.skipN 3 rfl rfl (PT rfl rfl rfl (NL ?_))))))))
     exact WQ.meetN [(2, _), (4, _), (5, _), (33, _)] ⟨rfl, rfl, rfl, rfl, trivial⟩ ⟨_, _, rfl, (H.pick (L' := [.blk bk2 (.cells #[S [], S [], Value.slice none 0 0] 24), .blk bk13 (.cells #[S o8] 81), .blk bk5 (.cells #[S s1, S s7, Value.slice none 0 0] 24)]) (by repeat first | exact kPn | refine kPc (by repeat first | exact .head | apply Rem.tail) ?_)), hg_errR, hg_errS, hg_maxl, hg_pow10, hg_tabs, e11⟩
    ·
     rw [if_pos rfl] at e11
     refine WR.stepE (v' := .bool false) (Ex.strEql rfl rfl) (congrArg Value.bool (decide_eq_false hk13)) (Wn.none rfl) rfl rfl (MV rfl rfl (SG (Ex.move rfl) rfl rfl rfl (SG (Ex.not rfl) rfl rfl rfl (PF rfl rfl rfl (MV rfl rfl (SG (Ex.fieldAddr Tryz.underlying24 rfl Tryz.sizeOf9 (by decide) rfl) rfl rfl rfl (SG (Ex.load1 H rfl (by repeat first | exact kMh | apply kMt) Tryz.isAgg9 (by rfl)) rfl rfl rfl ?_)))))))
     refine SG (Ex.strEql rfl rfl) rfl rfl rfl (PF rfl rfl rfl (NL ?_))
     exact WQ.meetN [(2, _), (4, _), (5, _), (33, _)] ⟨rfl, rfl, rfl, rfl, trivial⟩ ⟨_, _, rfl, (H.pick (L' := [.blk bk2 (.cells #[S [], S [], Value.slice none 0 0] 24), .blk bk13 (.cells #[S o8] 81), .blk bk5 (.cells #[S s1, S s7, Value.slice none 0 0] 24)]) (by repeat first | exact kPn | refine kPc (by repeat first | exact .head | apply Rem.tail) ?_)), hg_errR, hg_errS, hg_maxl, hg_pow10, hg_tabs, e11⟩
  ·
   rintro e w ⟨b12, M, rfl, H, hg_errR, hg_errS, hg_maxl, hg_pow10, hg_tabs, q14⟩
   obtain rfl := Option.some.inj q14
   refine TN ?_
   refine WC.condB rfl (fun hk15 => ?_) (fun hk15 => ?_)
   ·
    subst hk15
    rw [if_pos rfl] at h
    refine SQ (RG (ST (Ex.loadAgg H rfl (by repeat first | exact kMh | apply kMt) Tryz.isAgg24 Tryz.sizeOf24 (by rfl)) rfl ?_))
    refine WR.store [_, _, _] H rfl rfl rfl (by repeat first | exact .head | apply Upd.tail) Tryz.sizeOf24 rfl (by rfl) (by rfl) (Wn.none rfl) ?_
    intro w H
    refine AS rfl rfl (NL (TN (RT ?_)))
    obtain rfl := Option.some.inj h
    exact WQ.ret2 rfl ⟨_, rfl, H.loadAgg (by repeat first | exact kMh | apply kMt) Tryz.isAgg24 Tryz.sizeOf24 (by rfl)⟩ rfl H.ext (⟨_, rfl, (SlS.nil _ _ (fun _ => rfl))⟩)
   ·
    subst hk15
    rw [if_neg Bool.false_ne_true] at h
    refine SK (TN (SQ (RG (AS rfl rfl (NL (TN (SQ ?_)))))))
    obtain ⟨o16, e17, h⟩ := bnd h
    refine WC.cutX (fun e w => ∃ (s18 : List UInt8) (s19 : List UInt8) (l20 : List (List UInt8 × List UInt8)) (v21 : Value) (s23 : List UInt8) (l25 : List (List UInt8 × Int × Bool × List UInt8)) (v26 : Value) (M : Mem), e = [(2, ptr bk2 0), (4, ptr bk13 0), (5, ptr bk5 0), (7, v26)] ∧ St w0 M0 M [.blk bk2 (.cells #[S s18, S s19, v21] 24), .blk bk13 (.cells #[S s23] 81), .blk bk5 (.cells #[S s1, S s7, Value.slice none 0 0] 24), RowS 85 4 xenc85 v26 l25] w ∧ GlF (fun w => ∃ tp p, w.var? Tryz.prog "strconv.ErrRange" = some #[.iface tp p]) M ∧ GlF (fun w => ∃ tp p, w.var? Tryz.prog "strconv.ErrSyntax" = some #[.iface tp p]) M ∧ GlF (fun w => ∃ m, w.cell? ⟨2, 0, none⟩ = some (.int .i64 m)) M ∧ GlF (fun w => Lib.TabIs Tryz.prog w "internal/strconv.uint64pow10" .u64 Lib.pow10Tab) M ∧ Tabs M ∧ SlS M 2 xenc47 v21 l20 ∧ some (.inl (s18, s19, l20, s23, l25)) = some o16) [] ?_ ?_ (trivial)
    ·
     refine BL ?_
     replace H := H.newRowS 85 4 xenc85
     refine WC.loopP (fun m e w => ∃ (s27 : List UInt8) (s28 : List UInt8) (l29 : List (List UInt8 × List UInt8)) (v30 : Value) (s32 : List UInt8) (l34 : List (List UInt8 × Int × Bool × List UInt8)) (v35 : Value) (M : Mem), e = [(2, ptr bk2 0), (4, ptr bk13 0), (5, ptr bk5 0), (7, v35)] ∧ St w0 M0 M [.blk bk2 (.cells #[S s27, S s28, v30] 24), .blk bk13 (.cells #[S s32] 81), .blk bk5 (.cells #[S s1, S s7, Value.slice none 0 0] 24), RowS 85 4 xenc85 v35 l34] w ∧ GlF (fun w => ∃ tp p, w.var? Tryz.prog "strconv.ErrRange" = some #[.iface tp p]) M ∧ GlF (fun w => ∃ tp p, w.var? Tryz.prog "strconv.ErrSyntax" = some #[.iface tp p]) M ∧ GlF (fun w => ∃ m, w.cell? ⟨2, 0, none⟩ = some (.int .i64 m)) M ∧ GlF (fun w => Lib.TabIs Tryz.prog w "internal/strconv.uint64pow10" .u64 Lib.pow10Tab) M ∧ Tabs M ∧ SlS M 2 xenc47 v30 l29 ∧ media_parse_L1 s1 s7 m s27 s28 l29 s32 l34 = some o16) FU [(2, _), (4, _), (5, _), (7, _)] ⟨rfl, rfl, rfl, rfl, trivial⟩ ⟨_, _, _, _, _, _, _, _, rfl, (H.pick (L' := [.blk bk2 (.cells #[S [], S [], Value.slice none 0 0] 24), .blk bk13 (.cells #[S o8] 81), .blk bk5 (.cells #[S s1, S s7, Value.slice none 0 0] 24), RowS 85 4 xenc85 (Value.slice none 0 0) []]) (by repeat first | exact kPn | refine kPc (by repeat first | exact .head | apply Rem.tail) ?_)), hg_errR, hg_errS, hg_maxl, hg_pow10, hg_tabs, (SlS.nil _ _ (fun _ => rfl)), e17⟩ ?_
     rintro m36 e w ⟨s27, s28, l29, v30, s32, l34, v35, M, rfl, H, hg_errR, hg_errS, hg_maxl, hg_pow10, hg_tabs, hs31, e17⟩
     rcases m36 with _ | m36
     · rw [media_parse_L1] at e17; cases e17
     rw [media_parse_L1] at e17
     refine SQ (SQ ?_)
     obtain ⟨⟨b38, o39⟩, hx40, e17⟩ := bnd e17
     try dsimp only at e17
     refine RG (MV rfl rfl ?_)
     refine WR.callX (A := [.blk bk13 (.cells #[S s32] 81)]) (B := [.blk bk2 (.cells #[S s27, S s28, v30] 24), .blk bk5 (.cells #[S s1, S s7, Value.slice none 0 0] 24), RowS 85 4 xenc85 v35 l34]) (H.pick (L' := [.blk bk13 (.cells #[S s32] 81), .blk bk2 (.cells #[S s27, S s28, v30] 24), .blk bk5 (.cells #[S s1, S s7, Value.slice none 0 0] 24), RowS 85 4 xenc85 v35 l34]) (by repeat first | exact kPn | refine kPc (by repeat first | exact .head | apply Rem.tail) ?_)) (media_reader_sign_ct hx40) (.left (Spl.all _)) rfl trivial (Wn.none rfl) rfl ?_
     intro v36 M w its H hle hR
     replace hg_errR := hg_errR.mono hle
     replace hg_errS := hg_errS.mono hle
     replace hg_maxl := hg_maxl.mono hle
     replace hg_pow10 := hg_pow10.mono hle
     replace hg_tabs := hg_tabs.mono hle
     replace hs31 := hs31.mono hle
     try dsimp only at hR
     obtain ⟨rfl, rfl⟩ := hR
     simp only [List.cons_append, List.nil_append] at H
     refine NL (TN ?_)
     refine WC.condB rfl (fun hk41 => ?_) (fun hk41 => ?_)
     ·
      subst hk41
      rw [if_pos rfl] at e17
      refine SK (TN (BL (SQ ?_)))
      obtain ⟨⟨⟨s42, n43, b44, s45⟩, b46, o47⟩, hx48, e17⟩ := bnd e17
      try dsimp only at e17
      refine RG (MV rfl rfl ?_)
      refine WR.callX (A := [.blk bk13 (.cells #[S o39] 81)]) (B := [.blk bk2 (.cells #[S s27, S s28, v30] 24), .blk bk5 (.cells #[S s1, S s7, Value.slice none 0 0] 24), RowS 85 4 xenc85 v35 l34]) (H.pick (L' := [.blk bk13 (.cells #[S o39] 81), .blk bk2 (.cells #[S s27, S s28, v30] 24), .blk bk5 (.cells #[S s1, S s7, Value.slice none 0 0] 24), RowS 85 4 xenc85 v35 l34]) (by repeat first | exact kPn | refine kPc (by repeat first | exact .head | apply Rem.tail) ?_)) (media_reader_read_ct hx48) (.left (Spl.all _)) rfl ⟨hg_errR, hg_errS, hg_maxl, hg_pow10⟩ (Wn.none rfl) rfl ?_
      intro v39 M w its H hle hR
      replace hg_errR := hg_errR.mono hle
      replace hg_errS := hg_errS.mono hle
      replace hg_maxl := hg_maxl.mono hle
      replace hg_pow10 := hg_pow10.mono hle
      replace hg_tabs := hg_tabs.mono hle
      replace hs31 := hs31.mono hle
      try dsimp only at hR
      obtain ⟨rfl, rfl⟩ := hR
      simp only [List.cons_append, List.nil_append] at H
      refine MV rfl rfl (ST (Ex.extract rfl rfl) rfl (ST (Ex.extract rfl rfl) rfl (WR.alloc [_, _, _, _] H Tryz.zeroValue85 rfl (Wn.none rfl) rfl ?_)))
      intro bk8 w H
      refine WR.store [_, _, _, _] H rfl rfl rfl (by repeat first | exact .head | apply Upd.tail) Tryz.sizeOf85 rfl (by rfl) (by rfl) (Wn.none rfl) ?_
      intro w H
      refine AS rfl rfl (NL (TN (SQ (SQ (RG (MV rfl rfl (ST (Ex.not rfl) rfl (NL (TN ?_)))))))))
      refine WC.condB rfl (fun hk49 => ?_) (fun hk49 => ?_)
      ·
       replace hk49 : b46 = false := by simpa using hk49
       subst hk49
       rw [if_neg Bool.false_ne_true] at e17
       refine SQ (RG (ST (Ex.loadAgg H rfl (by repeat first | exact kMh | apply kMt) Tryz.isAgg24 Tryz.sizeOf24 (by rfl)) rfl ?_))
       refine WR.store [_, _, _] H rfl rfl rfl (by repeat first | exact .head | apply Upd.tail) Tryz.sizeOf24 rfl (by rfl) (by rfl) (Wn.none rfl) ?_
       intro w H
       refine AS rfl rfl (NL (TN (RT ?_)))
       obtain rfl := Option.some.inj e17
       try dsimp only at h
       obtain rfl := Option.some.inj h
       exact WQ.ret2 rfl ⟨_, rfl, H.loadAgg (by repeat first | exact kMh | apply kMt) Tryz.isAgg24 Tryz.sizeOf24 (by rfl)⟩ rfl H.ext (⟨_, rfl, (SlS.nil _ _ (fun _ => rfl))⟩)
      ·
       replace hk49 : b46 = true := by simpa using hk49
       subst hk49
       rw [if_pos rfl] at e17
       refine SK (TN ?_)
       obtain ⟨l50, hxl50, e17⟩ := bnd e17
       refine RG (MV rfl rfl (ST (Ex.loadAgg H rfl (by repeat first | exact kMh | apply kMt) Tryz.isAgg85 Tryz.sizeOf85 (by rfl)) rfl ?_))
       refine WR.litS (enc := xenc85) xty83 ([(s42, n43, b44, s45)] : List (List UInt8 × Int × Bool × List UInt8)) H (fun _ => rfl) rfl (by kernel_rfl) rfl rfl rfl (Wn.none rfl) rfl ?_
       intro v47 M w H hle hs47
       replace hg_errR := hg_errR.mono hle
       replace hg_errS := hg_errS.mono hle
       replace hg_maxl := hg_maxl.mono hle
       replace hg_pow10 := hg_pow10.mono hle
       replace hg_tabs := hg_tabs.mono hle
       replace hs31 := hs31.mono hle
       refine WR.appSC (l := l34) xty83 rfl xone85 H rfl (fun _ => by repeat first | exact .head | apply Upd.tail) rfl (hs47) hxl50 (Wn.none rfl) rfl ?_
       intro v48 w H
       refine AS rfl rfl (NL (IB ?_))
       exact WQ.againP m36 [(2, _), (4, _), (5, _), (7, _)] ⟨rfl, rfl, rfl, rfl, trivial⟩ ⟨_, _, _, _, _, _, _, _, rfl, (H.pick (L' := [.blk bk2 (.cells #[S s27, S s28, v30] 24), .blk bk13 (.cells #[S o47] 81), .blk bk5 (.cells #[S s1, S s7, Value.slice none 0 0] 24), RowS 85 4 xenc85 v48 l50]) (by repeat first | exact kPn | refine kPc (by repeat first | exact .head | apply Rem.tail) ?_)), hg_errR, hg_errS, hg_maxl, hg_pow10, hg_tabs, hs31, e17⟩ (Nat.lt_succ_self _)
     ·
      subst hk41
      rw [if_neg Bool.false_ne_true] at e17
      refine WC.exit (WQ.thenExit (WQ.thenExit (WQ.exitHere ?_)))
      exact WQ.meetN [(2, _), (4, _), (5, _), (7, _)] ⟨rfl, rfl, rfl, rfl, trivial⟩ ⟨_, _, _, _, _, _, _, _, rfl, (H.pick (L' := [.blk bk2 (.cells #[S s27, S s28, v30] 24), .blk bk13 (.cells #[S o39] 81), .blk bk5 (.cells #[S s1, S s7, Value.slice none 0 0] 24), RowS 85 4 xenc85 v35 l34]) (by repeat first | exact kPn | refine kPc (by repeat first | exact .head | apply Rem.tail) ?_)), hg_errR, hg_errS, hg_maxl, hg_pow10, hg_tabs, hs31, e17⟩
    ·
     rintro e w ⟨s18, s19, l20, v21, s23, l25, v26, M, rfl, H, hg_errR, hg_errS, hg_maxl, hg_pow10, hg_tabs, hs22, q51⟩
     obtain rfl := Option.some.inj q51
     try dsimp only at h
     refine TN (SQ ?_)
     obtain ⟨o52, hx53, h⟩ := bnd h
     refine RG (MV rfl rfl ?_)
     refine WR.callX (A := [.blk bk13 (.cells #[S s23] 81)]) (B := [.blk bk2 (.cells #[S s18, S s19, v21] 24), .blk bk5 (.cells #[S s1, S s7, Value.slice none 0 0] 24), RowS 85 4 xenc85 v26 l25]) (H.pick (L' := [.blk bk13 (.cells #[S s23] 81), .blk bk2 (.cells #[S s18, S s19, v21] 24), .blk bk5 (.cells #[S s1, S s7, Value.slice none 0 0] 24), RowS 85 4 xenc85 v26 l25]) (by repeat first | exact kPn | refine kPc (by repeat first | exact .head | apply Rem.tail) ?_)) (media_reader_blanks_ct hx53) (.left (Spl.all _)) rfl trivial (Wn.none rfl) rfl ?_
     intro v50 M w its H hle hR
     replace hg_errR := hg_errR.mono hle
     replace hg_errS := hg_errS.mono hle
     replace hg_maxl := hg_maxl.mono hle
     replace hg_pow10 := hg_pow10.mono hle
     replace hg_tabs := hg_tabs.mono hle
     replace hs22 := hs22.mono hle
     obtain ⟨rfl, rfl⟩ := hR
     simp only [List.cons_append, List.nil_append] at H
     refine NL (TN (SQ (RG (AS rfl rfl (NL (TN (SQ ?_)))))))
     obtain ⟨⟨l55, b56⟩, hx57, h⟩ := bnd h
     try dsimp only at h
     refine RG (MV rfl rfl ?_)
     obtain ⟨M, hle, hs54, H⟩ := H.freezeRowS (v := v26) (enc := xenc85) (t := 85) (by repeat first | exact .head | apply Rem.tail) (fun _ => rfl)
     replace hg_errR := hg_errR.mono hle
     replace hg_errS := hg_errS.mono hle
     replace hg_maxl := hg_maxl.mono hle
     replace hg_pow10 := hg_pow10.mono hle
     replace hg_tabs := hg_tabs.mono hle
     replace hs22 := hs22.mono hle
     refine WR.call H (media_params_ct hx57) rfl ⟨hg_tabs, hs54⟩ (Wn.none rfl) rfl ?_
     intro v53 M w H hle hR
     replace hg_errR := hg_errR.mono hle
     replace hg_errS := hg_errS.mono hle
     replace hg_maxl := hg_maxl.mono hle
     replace hg_pow10 := hg_pow10.mono hle
     replace hg_tabs := hg_tabs.mono hle
     replace hs22 := hs22.mono hle
     replace hs54 := hs54.mono hle
     try dsimp only at hR
     obtain ⟨x53_0, rfl, f53_0⟩ := hR
     refine MV rfl rfl (ST (Ex.extract rfl rfl) rfl (ST (Ex.extract rfl rfl) rfl (ST (Ex.fieldAddr Tryz.underlying24 rfl Tryz.sizeOf22 (by decide) rfl) rfl (WR.putV [_, _, _] H rfl rfl (f53_0.one) (by repeat first | exact .head | apply Upd.tail) (by rfl) Tryz.sizeOf22 (by first | decide | (simp; done) | (simp; omega)) (Wn.none rfl) ?_))))
     intro w H
     refine AS rfl rfl (NL (TN (SQ ?_)))
     obtain ⟨o58, e59, h⟩ := bnd h
     refine WC.cutX (fun e w => ∃ (s60 : List UInt8) (s61 : List UInt8) (l62 : List (List UInt8 × List UInt8)) (v63 : Value) (b65 : Bool) (M : Mem), e = [(2, ptr bk2 0), (3, Value.bool b65)] ∧ St w0 M0 M [.blk bk2 (.cells #[S s60, S s61, v63] 24)] w ∧ GlF (fun w => ∃ tp p, w.var? Tryz.prog "strconv.ErrRange" = some #[.iface tp p]) M ∧ GlF (fun w => ∃ tp p, w.var? Tryz.prog "strconv.ErrSyntax" = some #[.iface tp p]) M ∧ GlF (fun w => ∃ m, w.cell? ⟨2, 0, none⟩ = some (.int .i64 m)) M ∧ GlF (fun w => Lib.TabIs Tryz.prog w "internal/strconv.uint64pow10" .u64 Lib.pow10Tab) M ∧ Tabs M ∧ SlS M 2 xenc47 v63 l62 ∧ some (s60, s61, l62, b65) = some o58) [] ?_ ?_ (trivial)
     ·
      refine WC.draw (m := 11) rfl rfl H ?_
      intro w H
      refine WA.take (i := 1) rfl (by kernel_rfl) (by kernel_rfl) (by kernel_rfl) (fun _ => Ex.move rfl) (Wn.none rfl) rfl rfl (fun _ _ => rfl) (WA.take (i := 2) rfl (by kernel_rfl) (by kernel_rfl) (by kernel_rfl) (fun _ => Ex.move rfl) (Wn.none rfl) rfl rfl (fun _ _ => rfl) ?_)
      rcases b56 with _ | _
      ·
       rw [if_neg Bool.false_ne_true] at e59
       refine WA.takes (fuel := 4) [3, 4, 5, 6, 7] rfl (by kernel_rfl) (by kernel_rfl) rfl (WA.take (i := 8) rfl (by kernel_rfl) (by kernel_rfl) (by kernel_rfl) (fun _ => Ex.pickF rfl rfl) (Wn.none rfl) rfl rfl (fun _ _ => rfl) (WA.seq (fuel := 0) [0, 9, 10] rfl (by kernel_rfl) (ST (Ex.loadAgg H rfl (by repeat first | exact kMh | apply kMt) Tryz.isAgg24 Tryz.sizeOf24 (by rfl)) rfl ?_)))
       refine WR.store [_, _, _] H rfl rfl rfl (by repeat first | exact .head | apply Upd.tail) Tryz.sizeOf24 rfl (by rfl) (by simp only [List.all_cons, List.all_nil, (f53_0).one.2]; rfl) (Wn.none rfl) ?_
       intro w H
       refine AS rfl rfl (NA (WA.done (by kernel_rfl) ?_))
       exact WQ.meetN [(2, _), (3, _)] ⟨rfl, rfl, trivial⟩ ⟨_, _, _, _, _, _, rfl, (H.pick (L' := [.blk bk2 (.cells #[S s1, S s7, x53_0] 24)]) (by repeat first | exact kPn | refine kPc (by repeat first | exact .head | apply Rem.tail) ?_)), hg_errR, hg_errS, hg_maxl, hg_pow10, hg_tabs, f53_0, e59⟩
      ·
       rw [if_pos rfl] at e59
       refine WA.take (i := 3) rfl (by kernel_rfl) (by kernel_rfl) (by kernel_rfl) (fun _ => Ex.move rfl) (Wn.some rfl rfl rfl) rfl rfl (fun _ _ => rfl) (WA.take (i := 4) rfl (by kernel_rfl) (by kernel_rfl) (by kernel_rfl) (fun _ => Ex.nilCheckP rfl) (Wn.some rfl rfl rfl) rfl rfl (fun _ _ => rfl) (WA.take (i := 5) rfl (by kernel_rfl) (by kernel_rfl) (by kernel_rfl) (fun _ => Ex.fieldAddr Tryz.underlying81 rfl Tryz.sizeOf9 (by decide) rfl) (Wn.some rfl rfl rfl) rfl rfl (fun _ _ => rfl) ?_))
       refine WA.two (i := 0) (j := 6) (by kernel_rfl) rfl rfl ?_ ?_
       ·
        refine ST (Ex.loadAgg H rfl (by repeat first | exact kMh | apply kMt) Tryz.isAgg24 Tryz.sizeOf24 (by rfl)) rfl ?_
        refine NA ?_
        refine WA.two (i := 6) (j := 9) (by kernel_rfl) rfl rfl ?_ ?_
        ·
         refine SG (Ex.load1 H rfl (by repeat first | exact kMh | apply kMt) Tryz.isAgg9 (by rfl)) rfl rfl rfl ?_
         refine NA (WA.take (i := 7) rfl (by kernel_rfl) (by kernel_rfl) (by kernel_rfl) (fun _ => Ex.strEql rfl rfl) (Wn.some rfl rfl rfl) rfl rfl (fun _ _ => rfl) (WA.take (i := 8) rfl (by kernel_rfl) (by kernel_rfl) (by kernel_rfl) (fun _ => Ex.pickT rfl rfl) (Wn.none rfl) rfl rfl (fun _ _ => rfl) (WA.seq (fuel := 0) [9, 10] rfl (by kernel_rfl) (WR.store [_, _, _] H rfl rfl rfl (by repeat first | exact .head | apply Upd.tail) Tryz.sizeOf24 rfl (by rfl) (by simp only [List.all_cons, List.all_nil, (f53_0).one.2]; rfl) (Wn.none rfl) ?_))))
         intro w H
         refine AS rfl rfl (NA (WA.done (by kernel_rfl) ?_))
         exact WQ.meetN [(2, _), (3, _)] ⟨rfl, rfl, trivial⟩ ⟨_, _, _, _, _, _, rfl, (H.pick (L' := [.blk bk2 (.cells #[S s1, S s7, x53_0] 24)]) (by repeat first | exact kPn | refine kPc (by repeat first | exact .head | apply Rem.tail) ?_)), hg_errR, hg_errS, hg_maxl, hg_pow10, hg_tabs, f53_0, e59⟩
        ·
         refine WR.store [_, _, _] H rfl rfl rfl (by repeat first | exact .head | apply Upd.tail) Tryz.sizeOf24 rfl (by rfl) (by simp only [List.all_cons, List.all_nil, (f53_0).one.2]; rfl) (Wn.none rfl) ?_
         intro w H
         refine NA (WA.seq (fuel := 0) [6, 7, 8, 10] rfl (by kernel_rfl) (SG (Ex.load1 H rfl (by repeat first | exact kMh | apply kMt) Tryz.isAgg9 (by rfl)) rfl rfl rfl ?_))
         refine SG (Ex.strEql rfl rfl) rfl rfl rfl (PT rfl rfl rfl (AS rfl rfl (NA (WA.done (by kernel_rfl) ?_))))
         exact WQ.meetN [(2, _), (3, _)] ⟨rfl, rfl, trivial⟩ ⟨_, _, _, _, _, _, rfl, (H.pick (L' := [.blk bk2 (.cells #[S s1, S s7, x53_0] 24)]) (by repeat first | exact kPn | refine kPc (by repeat first | exact .head | apply Rem.tail) ?_)), hg_errR, hg_errS, hg_maxl, hg_pow10, hg_tabs, f53_0, e59⟩
       ·
        refine SG (Ex.load1 H rfl (by repeat first | exact kMh | apply kMt) Tryz.isAgg9 (by rfl)) rfl rfl rfl ?_
        refine NA (WA.take (i := 7) rfl (by kernel_rfl) (by kernel_rfl) (by kernel_rfl) (fun _ => Ex.strEql rfl rfl) (Wn.some rfl rfl rfl) rfl rfl (fun _ _ => rfl) (WA.take (i := 8) rfl (by kernel_rfl) (by kernel_rfl) (by kernel_rfl) (fun _ => Ex.pickT rfl rfl) (Wn.none rfl) rfl rfl (fun _ _ => rfl) (WA.seq (fuel := 0) [0, 9, 10] rfl (by kernel_rfl) (ST (Ex.loadAgg H rfl (by repeat first | exact kMh | apply kMt) Tryz.isAgg24 Tryz.sizeOf24 (by rfl)) rfl ?_))))
        refine WR.store [_, _, _] H rfl rfl rfl (by repeat first | exact .head | apply Upd.tail) Tryz.sizeOf24 rfl (by rfl) (by simp only [List.all_cons, List.all_nil, (f53_0).one.2]; rfl) (Wn.none rfl) ?_
        intro w H
        refine AS rfl rfl (NA (WA.done (by kernel_rfl) ?_))
        exact WQ.meetN [(2, _), (3, _)] ⟨rfl, rfl, trivial⟩ ⟨_, _, _, _, _, _, rfl, (H.pick (L' := [.blk bk2 (.cells #[S s1, S s7, x53_0] 24)]) (by repeat first | exact kPn | refine kPc (by repeat first | exact .head | apply Rem.tail) ?_)), hg_errR, hg_errS, hg_maxl, hg_pow10, hg_tabs, f53_0, e59⟩
     ·
      rintro e w ⟨s60, s61, l62, v63, b65, M, rfl, H, hg_errR, hg_errS, hg_maxl, hg_pow10, hg_tabs, hs64, q66⟩
      obtain rfl := Option.some.inj q66
      try dsimp only at h
      refine TN (RT ?_)
      obtain rfl := Option.some.inj h
      exact WQ.ret2 rfl ⟨_, rfl, H.loadAgg (by repeat first | exact kMh | apply kMt) Tryz.isAgg24 Tryz.sizeOf24 (by rfl)⟩ rfl H.ext (⟨_, rfl, hs64⟩)
theorem media_Parse_ct {p0 : List UInt8} {r : ((List UInt8 × List UInt8 × List (List UInt8 × List UInt8)) × (Int × Int))} (h : media_Parse p0 = some r) : Ct Tryz.prog 15 [S p0] (fun M => GlF (fun w => ∃ tp p, w.var? Tryz.prog "strconv.ErrRange" = some #[.iface tp p]) M ∧ GlF (fun w => ∃ tp p, w.var? Tryz.prog "strconv.ErrSyntax" = some #[.iface tp p]) M ∧ GlF (fun w => ∃ m, w.cell? ⟨2, 0, none⟩ = some (.int .i64 m)) M ∧ GlF (fun w => Lib.TabIs Tryz.prog w "internal/strconv.uint64pow10" .u64 Lib.pow10Tab) M ∧ Tabs M) (fun v M => ∃ x0_2, v = Value.tuple #[Value.agg #[S r.1.1, S r.1.2.1, x0_2], Value.agg #[I r.2.1, I r.2.2]] ∧ SlS M 2 xenc47 x0_2 r.1.2.2) := by
  refine Ct.of Tryz.func15 (enters Tryz.func15 (by kernel_rfl) rfl) rfl rfl rfl ?_
  intro w0 M0 H hp
  obtain ⟨hg_errR, hg_errS, hg_maxl, hg_pow10, hg_tabs⟩ := hp
  unfold media_Parse at h
  refine SQ (RG (WR.alloc [_, _, _] H Tryz.zeroValue24 rfl (Wn.none rfl) rfl ?_))
  intro bk2 w H
  refine WR.alloc [_, _] H Tryz.zeroValue27 rfl (Wn.none rfl) rfl ?_
  intro bk3 w H
  refine NL (TN (SQ (SQ (RG (MV rfl rfl (ST (Ex.lenStr Tryz.underlying9 rfl) rfl (ST (Ex.gtr rfl rfl) rfl (NL (TN ?_)))))))))
  refine WC.condB rfl (fun hk1 => ?_) (fun hk1 => ?_)
  ·
   replace hk1 : (4000 : Int) < (p0.length : Int) := of_decide_eq_true hk1
   rw [if_pos hk1] at h
   refine SQ ?_
   obtain ⟨⟨n2, n3⟩, hx4, h⟩ := bnd h
   try dsimp only at h
   refine RG (ST (Ex.build [S [], S [], Value.slice none 0 0] Tryz.underlying24 Tryz.zeroValue24 (xplaces24 Tryz.underlying24) rfl rfl) rfl (WR.call H (basic_Fault_ct hx4) rfl trivial (Wn.none rfl) rfl ?_))
   intro v11 M w H hle hR
   replace hg_errR := hg_errR.mono hle
   replace hg_errS := hg_errS.mono hle
   replace hg_maxl := hg_maxl.mono hle
   replace hg_pow10 := hg_pow10.mono hle
   replace hg_tabs := hg_tabs.mono hle
   try dsimp only at hR
   obtain rfl := hR
   refine WR.store [_, _, _] H rfl rfl rfl (by repeat first | exact .head | apply Upd.tail) Tryz.sizeOf24 rfl (by rfl) (by rfl) (Wn.none rfl) ?_
   intro w H
   refine WR.store [_, _] H rfl rfl rfl (by repeat first | exact .head | apply Upd.tail) Tryz.sizeOf27 rfl (by rfl) (by rfl) (Wn.none rfl) ?_
   intro w H
   refine NL (TN (RT ?_))
   obtain rfl := Option.some.inj h
   exact WQ.ret2 rfl ⟨_, rfl, H.loadAgg (by repeat first | exact kMh | apply kMt) Tryz.isAgg24 Tryz.sizeOf24 (by rfl)⟩ ⟨_, rfl, H.loadAgg (by repeat first | exact kMh | apply kMt) Tryz.isAgg27 Tryz.sizeOf27 (by rfl)⟩ H.ext (⟨_, rfl, (SlS.nil _ _ (fun _ => rfl))⟩)
  ·
   replace hk1 : ¬ ((4000 : Int) < (p0.length : Int)) := of_decide_eq_false hk1
   rw [if_neg hk1] at h
   refine SK (TN (SQ ?_))
   obtain ⟨⟨⟨s5, s6, l7⟩, b8⟩, hx9, h⟩ := bnd h
   try dsimp only at h
   refine RG (MV rfl rfl (WR.call H (media_parse_ct hx9) rfl ⟨hg_errR, hg_errS, hg_maxl, hg_pow10, hg_tabs⟩ (Wn.none rfl) rfl ?_))
   intro v14 M w H hle hR
   replace hg_errR := hg_errR.mono hle
   replace hg_errS := hg_errS.mono hle
   replace hg_maxl := hg_maxl.mono hle
   replace hg_pow10 := hg_pow10.mono hle
   replace hg_tabs := hg_tabs.mono hle
   try dsimp only at hR
   obtain ⟨x14_0_2, rfl, f14_0_2⟩ := hR
   refine MV rfl rfl (ST (Ex.extract rfl rfl) rfl (ST (Ex.extract rfl rfl) rfl (WR.alloc [_, _, _] H Tryz.zeroValue24 rfl (Wn.none rfl) rfl ?_)))
   intro bk4 w H
   refine WR.store [_, _, _] H rfl rfl rfl (by repeat first | exact .head | apply Upd.tail) Tryz.sizeOf24 rfl (by rfl) (by simp only [List.all_cons, List.all_nil, (f14_0_2).one.2]; rfl) (Wn.none rfl) ?_
   intro w H
   refine AS rfl rfl (NL (TN (SQ (SQ (RG (MV rfl rfl (ST (Ex.not rfl) rfl (NL (TN ?_)))))))))
   refine WC.condB rfl (fun hk10 => ?_) (fun hk10 => ?_)
   ·
    replace hk10 : b8 = false := by simpa using hk10
    subst hk10
    rw [if_neg Bool.false_ne_true] at h
    refine SQ ?_
    obtain ⟨⟨n11, n12⟩, hx13, h⟩ := bnd h
    try dsimp only at h
    refine RG (ST (Ex.build [S [], S [], Value.slice none 0 0] Tryz.underlying24 Tryz.zeroValue24 (xplaces24 Tryz.underlying24) rfl rfl) rfl (WR.call H (basic_Fault_ct hx13) rfl trivial (Wn.none rfl) rfl ?_))
    intro v20 M w H hle hR
    replace hg_errR := hg_errR.mono hle
    replace hg_errS := hg_errS.mono hle
    replace hg_maxl := hg_maxl.mono hle
    replace hg_pow10 := hg_pow10.mono hle
    replace hg_tabs := hg_tabs.mono hle
    replace f14_0_2 := f14_0_2.mono hle
    try dsimp only at hR
    obtain rfl := hR
    refine WR.store [_, _, _] H rfl rfl rfl (by repeat first | exact .head | apply Upd.tail) Tryz.sizeOf24 rfl (by rfl) (by rfl) (Wn.none rfl) ?_
    intro w H
    refine WR.store [_, _] H rfl rfl rfl (by repeat first | exact .head | apply Upd.tail) Tryz.sizeOf27 rfl (by rfl) (by rfl) (Wn.none rfl) ?_
    intro w H
    refine NL (TN (RT ?_))
    obtain rfl := Option.some.inj h
    exact WQ.ret2 rfl ⟨_, rfl, H.loadAgg (by repeat first | exact kMh | apply kMt) Tryz.isAgg24 Tryz.sizeOf24 (by rfl)⟩ ⟨_, rfl, H.loadAgg (by repeat first | exact kMh | apply kMt) Tryz.isAgg27 Tryz.sizeOf27 (by rfl)⟩ H.ext (⟨_, rfl, (SlS.nil _ _ (fun _ => rfl))⟩)
   ·
    replace hk10 : b8 = true := by simpa using hk10
    subst hk10
    rw [if_pos rfl] at h
    refine SK (TN (SQ (SQ ?_)))
    obtain ⟨⟨n14, n15⟩, hx16, h⟩ := bnd h
    try dsimp only at h
    refine RG (ST (Ex.loadAgg H rfl (by repeat first | exact kMh | apply kMt) Tryz.isAgg24 Tryz.sizeOf24 (by rfl)) rfl ?_)
    refine WR.call H (media_Validate_ct hx16) rfl ⟨hg_tabs, f14_0_2⟩ (Wn.none rfl) rfl ?_
    intro v22 M w H hle hR
    replace hg_errR := hg_errR.mono hle
    replace hg_errS := hg_errS.mono hle
    replace hg_maxl := hg_maxl.mono hle
    replace hg_pow10 := hg_pow10.mono hle
    replace hg_tabs := hg_tabs.mono hle
    replace f14_0_2 := f14_0_2.mono hle
    try dsimp only at hR
    obtain rfl := hR
    refine WR.alloc [_, _] H Tryz.zeroValue27 rfl (Wn.none rfl) rfl ?_
    intro bk6 w H
    refine WR.store [_, _] H rfl rfl rfl (by repeat first | exact .head | apply Upd.tail) Tryz.sizeOf27 rfl (by rfl) (by rfl) (Wn.none rfl) ?_
    intro w H
    refine NL (TN (SQ ?_))
    obtain ⟨b17, hx18, h⟩ := bnd h
    refine RG (ST (Ex.loadAgg H rfl (by repeat first | exact kMh | apply kMt) Tryz.isAgg27 Tryz.sizeOf27 (by rfl)) rfl ?_)
    refine WR.call H (basic_Failed_ct hx18) rfl trivial (Wn.none rfl) rfl ?_
    intro v24 M w H hle hR
    replace hg_errR := hg_errR.mono hle
    replace hg_errS := hg_errS.mono hle
    replace hg_maxl := hg_maxl.mono hle
    replace hg_pow10 := hg_pow10.mono hle
    replace hg_tabs := hg_tabs.mono hle
    replace f14_0_2 := f14_0_2.mono hle
    obtain rfl := hR
    refine NL (TN ?_)
    refine WC.condB rfl (fun hk19 => ?_) (fun hk19 => ?_)
    ·
     subst hk19
     rw [if_pos rfl] at h
     refine SQ ?_
     obtain ⟨⟨n20, n21⟩, hx22, h⟩ := bnd h
     try dsimp only at h
     refine RG (ST (Ex.build [S [], S [], Value.slice none 0 0] Tryz.underlying24 Tryz.zeroValue24 (xplaces24 Tryz.underlying24) rfl rfl) rfl (ST (Ex.fieldAddr Tryz.underlying27 rfl Tryz.sizeOf3 (by decide) rfl) rfl (ST (Ex.load1 H rfl (by repeat first | exact kMh | apply kMt) Tryz.isAgg3 (by rfl)) rfl ?_)))
     refine WR.call H (basic_Fault_ct hx22) rfl trivial (Wn.none rfl) rfl ?_
     intro v28 M w H hle hR
     replace hg_errR := hg_errR.mono hle
     replace hg_errS := hg_errS.mono hle
     replace hg_maxl := hg_maxl.mono hle
     replace hg_pow10 := hg_pow10.mono hle
     replace hg_tabs := hg_tabs.mono hle
     replace f14_0_2 := f14_0_2.mono hle
     try dsimp only at hR
     obtain rfl := hR
     refine WR.store [_, _, _] H rfl rfl rfl (by repeat first | exact .head | apply Upd.tail) Tryz.sizeOf24 rfl (by rfl) (by rfl) (Wn.none rfl) ?_
     intro w H
     refine WR.store [_, _] H rfl rfl rfl (by repeat first | exact .head | apply Upd.tail) Tryz.sizeOf27 rfl (by rfl) (by rfl) (Wn.none rfl) ?_
     intro w H
     refine NL (TN (RT ?_))
     obtain rfl := Option.some.inj h
     exact WQ.ret2 rfl ⟨_, rfl, H.loadAgg (by repeat first | exact kMh | apply kMt) Tryz.isAgg24 Tryz.sizeOf24 (by rfl)⟩ ⟨_, rfl, H.loadAgg (by repeat first | exact kMh | apply kMt) Tryz.isAgg27 Tryz.sizeOf27 (by rfl)⟩ H.ext (⟨_, rfl, (SlS.nil _ _ (fun _ => rfl))⟩)
    ·
     subst hk19
     rw [if_neg Bool.false_ne_true] at h
     refine SK (TN (SQ ?_))
     obtain ⟨⟨n23, n24⟩, hx25, h⟩ := bnd h
     try dsimp only at h
     refine WC.cutP (fun e w => ∃  (M : Mem), e = [(2, ptr bk2 0), (3, ptr bk3 0)] ∧ St w0 M0 M [.blk bk2 (.cells #[S s5, S s6, x14_0_2] 24), .blk bk3 (.cells #[I n23, I n24] 27)] w ∧ GlF (fun w => ∃ tp p, w.var? Tryz.prog "strconv.ErrRange" = some #[.iface tp p]) M ∧ GlF (fun w => ∃ tp p, w.var? Tryz.prog "strconv.ErrSyntax" = some #[.iface tp p]) M ∧ GlF (fun w => ∃ m, w.cell? ⟨2, 0, none⟩ = some (.int .i64 m)) M ∧ GlF (fun w => Lib.TabIs Tryz.prog w "internal/strconv.uint64pow10" .u64 Lib.pow10Tab) M ∧ Tabs M ∧ SlS M 2 xenc47 x14_0_2 l7) ?_ ?_
     ·
      refine WC.draw (m := 4) rfl rfl H ?_
      intro w H
      refine WA.two (i := 0) (j := 1) (by kernel_rfl) rfl rfl ?_ ?_
      ·
       refine ST (Ex.loadAgg H rfl (by repeat first | exact kMh | apply kMt) Tryz.isAgg24 Tryz.sizeOf24 (by rfl)) rfl ?_
       refine NA (WA.seq (fuel := 0) [1, 2, 3] rfl (by kernel_rfl) (WR.call H (basic_None_ct hx25) rfl trivial (Wn.none rfl) rfl ?_))
       intro v30 M w H hle hR
       replace hg_errR := hg_errR.mono hle
       replace hg_errS := hg_errS.mono hle
       replace hg_maxl := hg_maxl.mono hle
       replace hg_pow10 := hg_pow10.mono hle
       replace hg_tabs := hg_tabs.mono hle
       replace f14_0_2 := f14_0_2.mono hle
       try dsimp only at hR
       obtain rfl := hR
       refine WR.store [_, _, _] H rfl rfl rfl (by repeat first | exact .head | apply Upd.tail) Tryz.sizeOf24 rfl (by rfl) (by simp only [List.all_cons, List.all_nil, (f14_0_2).one.2]; rfl) (Wn.none rfl) ?_
       intro w H
       refine WR.store [_, _] H rfl rfl rfl (by repeat first | exact .head | apply Upd.tail) Tryz.sizeOf27 rfl (by rfl) (by rfl) (Wn.none rfl) ?_
       intro w H
       refine NA (WA.done (by kernel_rfl) ?_)
       exact WQ.meetP [(2, _), (3, _)] ⟨rfl, rfl, trivial⟩ ⟨_, rfl, (H.pick (L' := [.blk bk2 (.cells #[S s5, S s6, x14_0_2] 24), .blk bk3 (.cells #[I n23, I n24] 27)]) (by repeat first | exact kPn | refine kPc (by repeat first | exact .head | apply Rem.tail) ?_)), hg_errR, hg_errS, hg_maxl, hg_pow10, hg_tabs, f14_0_2⟩
      ·
       refine WR.call H (basic_None_ct hx25) rfl trivial (Wn.none rfl) rfl ?_
       intro v30 M w H hle hR
       replace hg_errR := hg_errR.mono hle
       replace hg_errS := hg_errS.mono hle
       replace hg_maxl := hg_maxl.mono hle
       replace hg_pow10 := hg_pow10.mono hle
       replace hg_tabs := hg_tabs.mono hle
       replace f14_0_2 := f14_0_2.mono hle
       try dsimp only at hR
       obtain rfl := hR
       refine NA (WA.seq (fuel := 0) [0, 2, 3] rfl (by kernel_rfl) (ST (Ex.loadAgg H rfl (by repeat first | exact kMh | apply kMt) Tryz.isAgg24 Tryz.sizeOf24 (by rfl)) rfl ?_))
       refine WR.store [_, _, _] H rfl rfl rfl (by repeat first | exact .head | apply Upd.tail) Tryz.sizeOf24 rfl (by rfl) (by simp only [List.all_cons, List.all_nil, (f14_0_2).one.2]; rfl) (Wn.none rfl) ?_
       intro w H
       refine WR.store [_, _] H rfl rfl rfl (by repeat first | exact .head | apply Upd.tail) Tryz.sizeOf27 rfl (by rfl) (by rfl) (Wn.none rfl) ?_
       intro w H
       refine NA (WA.done (by kernel_rfl) ?_)
       exact WQ.meetP [(2, _), (3, _)] ⟨rfl, rfl, trivial⟩ ⟨_, rfl, (H.pick (L' := [.blk bk2 (.cells #[S s5, S s6, x14_0_2] 24), .blk bk3 (.cells #[I n23, I n24] 27)]) (by repeat first | exact kPn | refine kPc (by repeat first | exact .head | apply Rem.tail) ?_)), hg_errR, hg_errS, hg_maxl, hg_pow10, hg_tabs, f14_0_2⟩
     ·
      rintro e w ⟨M, rfl, H, hg_errR, hg_errS, hg_maxl, hg_pow10, hg_tabs, f14_0_2⟩
      refine TN (RT ?_)
      obtain rfl := Option.some.inj h
      exact WQ.ret2 rfl ⟨_, rfl, H.loadAgg (by repeat first | exact kMh | apply kMt) Tryz.isAgg24 Tryz.sizeOf24 (by rfl)⟩ ⟨_, rfl, H.loadAgg (by repeat first | exact kMh | apply kMt) Tryz.isAgg27 Tryz.sizeOf27 (by rfl)⟩ H.ext (⟨_, rfl, f14_0_2⟩)
theorem media_Param_ct {p0 : (List UInt8 × List UInt8 × List (List UInt8 × List UInt8))} {p1 : List UInt8} {vp0_2 : Value} {r : (List UInt8 × Bool × (Int × Int))} (h : media_Param p0 p1 = some r) : Ct Tryz.prog 18 [Value.agg #[S p0.1, S p0.2.1, vp0_2], S p1] (fun M => Tabs M ∧ SlS M 2 xenc47 vp0_2 p0.2.2) (fun v M => v = Value.tuple #[S r.1, Value.bool r.2.1, Value.agg #[I r.2.2.1, I r.2.2.2]]) := by
  refine Ct.of Tryz.func18 (enters Tryz.func18 (by kernel_rfl) rfl) rfl rfl rfl ?_
  intro w0 M0 H hp
  obtain ⟨hg_tabs, hp0_2⟩ := hp
  unfold media_Param at h
  refine SQ (RG (WR.box [_, _, _] H rfl rfl (Wn.none rfl) rfl ?_))
  intro bk2 w H
  refine AS rfl rfl (AS rfl rfl (WR.alloc [_, _] H Tryz.zeroValue27 rfl (Wn.none rfl) rfl ?_))
  intro bk6 w H
  refine NL (TN (SQ (SQ ?_)))
  obtain ⟨⟨n1, n2⟩, hx3, h⟩ := bnd h
  try dsimp only at h
  refine RG (ST (Ex.loadAgg H rfl (by repeat first | exact kMh | apply kMt) Tryz.isAgg24 Tryz.sizeOf24 (by rfl)) rfl ?_)
  refine WR.call H (media_Validate_ct hx3) rfl ⟨hg_tabs, hp0_2⟩ (Wn.none rfl) rfl ?_
  intro v11 M w H hle hR
  replace hg_tabs := hg_tabs.mono hle
  replace hp0_2 := hp0_2.mono hle
  try dsimp only at hR
  obtain rfl := hR
  refine WR.alloc [_, _] H Tryz.zeroValue27 rfl (Wn.none rfl) rfl ?_
  intro bk7 w H
  refine WR.store [_, _] H rfl rfl rfl (by repeat first | exact .head | apply Upd.tail) Tryz.sizeOf27 rfl (by rfl) (by rfl) (Wn.none rfl) ?_
  intro w H
  refine NL (TN (SQ ?_))
  obtain ⟨b4, hx5, h⟩ := bnd h
  refine RG (ST (Ex.loadAgg H rfl (by repeat first | exact kMh | apply kMt) Tryz.isAgg27 Tryz.sizeOf27 (by rfl)) rfl ?_)
  refine WR.call H (basic_Failed_ct hx5) rfl trivial (Wn.none rfl) rfl ?_
  intro v13 M w H hle hR
  replace hg_tabs := hg_tabs.mono hle
  replace hp0_2 := hp0_2.mono hle
  obtain rfl := hR
  refine NL (TN ?_)
  refine WC.condB rfl (fun hk6 => ?_) (fun hk6 => ?_)
  ·
   subst hk6
   rw [if_pos rfl] at h
   refine SQ (WC.draw (m := 4) rfl rfl H ?_)
   intro w H
   refine WA.take (i := 1) rfl (by kernel_rfl) (by kernel_rfl) (by kernel_rfl) (fun _ => Ex.assign rfl) (Wn.none rfl) rfl rfl (fun _ _ => rfl) (WA.take (i := 2) rfl (by kernel_rfl) (by kernel_rfl) (by kernel_rfl) (fun _ => Ex.assign rfl) (Wn.none rfl) rfl rfl (fun _ _ => rfl) (WA.seq (fuel := 0) [0, 3] rfl (by kernel_rfl) (ST (Ex.loadAgg H rfl (by repeat first | exact kMh | apply kMt) Tryz.isAgg27 Tryz.sizeOf27 (by rfl)) rfl ?_)))
   refine WR.store [_, _] H rfl rfl rfl (by repeat first | exact .head | apply Upd.tail) Tryz.sizeOf27 rfl (by rfl) (by rfl) (Wn.none rfl) ?_
   intro w H
   refine NA (WA.done (by kernel_rfl) (TN (RT ?_)))
   obtain rfl := Option.some.inj h
   exact WQ.ret3 rfl rfl rfl ⟨_, rfl, H.loadAgg (by repeat first | exact kMh | apply kMt) Tryz.isAgg27 Tryz.sizeOf27 (by rfl)⟩ H.ext rfl
  ·
   subst hk6
   rw [if_neg Bool.false_ne_true] at h
   refine SK (TN (SQ (SQ (RG (ST (Ex.fieldAddr Tryz.underlying24 rfl Tryz.sizeOf22 (by decide) rfl) rfl (ST (Ex.load1 H rfl (by repeat first | exact kMh | apply kMt) Tryz.isAgg22 (by rfl)) rfl ?_))))))
   refine ST (Ex.lenSlS Tryz.underlying22 hp0_2 rfl) rfl (MV rfl rfl (NL (TN ?_)))
   obtain ⟨o7, e8, h⟩ := bnd h
   refine WC.cutX (fun e w => ∃ (n9 : Int) (n10 : Int) (M : Mem), e = [(6, ptr bk6 0)] ∧ St w0 M0 M [.blk bk6 (.cells #[I n9, I n10] 27)] w ∧ Tabs M ∧ some (.inl (n9, n10)) = some o7) [] ?_ ?_ (trivial)
   ·
    refine BL ?_
    refine WC.loopP (fun m e w => ∃ (n11 : Int) (n12 : Int) (n13 : Int) (M : Mem), e = [(1, S p1), (6, ptr bk6 0), (16, vp0_2), (17, I (p0.2.2.length : Int)), (18, I n13)] ∧ St w0 M0 M [.blk bk6 (.cells #[I n11, I n12] 27)] w ∧ Tabs M ∧ SlS M 2 xenc47 vp0_2 p0.2.2 ∧ media_Param_L1 p0 p1 m n11 n12 n13 = some o7) FU [(1, _), (6, _), (16, _), (17, _), (18, _)] ⟨rfl, rfl, rfl, rfl, rfl, trivial⟩ ⟨_, _, _, _, rfl, (H.pick (L' := [.blk bk6 (.cells #[I 0, I 0] 27)]) (by repeat first | exact kPn | refine kPc (by repeat first | exact .head | apply Rem.tail) ?_)), hg_tabs, hp0_2, e8⟩ ?_
    rintro m14 e w ⟨n11, n12, n13, M, rfl, H, hg_tabs, hp0_2, e8⟩
    rcases m14 with _ | m14
    · rw [media_Param_L1] at e8; cases e8
    rw [media_Param_L1] at e8
    refine SQ (RG (ST (Ex.lss rfl rfl) rfl (NL (TN (SQ ?_)))))
    refine WC.condB rfl (fun hk15 => ?_) (fun hk15 => ?_)
    ·
     replace hk15 : n13 < (p0.2.2.length : Int) := of_decide_eq_true hk15
     rw [if_pos hk15] at e8
     refine SK (TN (SQ (BL (SQ ?_))))
     obtain ⟨a16, hxa16, e8⟩ := bnd e8
     obtain ⟨bk20, o20, ha20, hc20⟩ := hp0_2.atC hxa16
     refine RG (ST (Ex.idxAt ha20 Tryz.underlying22 Tryz.sizeOf47 rfl rfl) rfl (ST (Ex.loadAggM H rfl hc20 Tryz.isAgg47 Tryz.sizeOf47 (by rfl)) rfl ?_))
     refine WR.alloc [_, _] H Tryz.zeroValue47 rfl (Wn.none rfl) rfl ?_
     intro bk9 w H
     refine WR.store [_, _] H rfl rfl rfl (by repeat first | exact .head | apply Upd.tail) Tryz.sizeOf47 rfl (by rfl) (by rfl) (Wn.none rfl) ?_
     intro w H
     refine NL (TN (SQ ?_))
     obtain ⟨b17, hx18, e8⟩ := bnd e8
     refine RG (ST (Ex.fieldAddr Tryz.underlying47 rfl Tryz.sizeOf9 (by decide) rfl) rfl (ST (Ex.load1 H rfl (by repeat first | exact kMh | apply kMt) Tryz.isAgg9 (by rfl)) rfl ?_))
     refine MV rfl rfl (WR.call H (basic_Same_ct hx18) rfl trivial (Wn.none rfl) rfl ?_)
     intro v25 M w H hle hR
     replace hg_tabs := hg_tabs.mono hle
     replace hp0_2 := hp0_2.mono hle
     replace hc20 := hc20.mono hle
     obtain rfl := hR
     refine NL (TN ?_)
     refine WC.condB rfl (fun hk19 => ?_) (fun hk19 => ?_)
     ·
      subst hk19
      rw [if_pos rfl] at e8
      refine SQ ?_
      obtain ⟨⟨n20, n21⟩, hx22, e8⟩ := bnd e8
      try dsimp only at e8
      refine WC.cutP (fun e w => ∃  (M : Mem), e = [(4, S a16.2), (5, Value.bool true), (6, ptr bk6 0)] ∧ St w0 M0 M [.blk bk6 (.cells #[I n20, I n21] 27)] w ∧ Tabs M) ?_ ?_
      ·
       refine WC.draw (m := 6) rfl rfl H ?_
       intro w H
       refine WA.take (i := 0) rfl (by kernel_rfl) (by kernel_rfl) (by kernel_rfl) (fun _ => Ex.fieldAddr Tryz.underlying47 rfl Tryz.sizeOf9 (by decide) rfl) (Wn.none rfl) rfl rfl (fun _ _ => rfl) ?_
       refine WA.two (i := 1) (j := 2) (by kernel_rfl) rfl rfl ?_ ?_
       ·
        refine ST (Ex.load1 H rfl (by repeat first | exact kMh | apply kMt) Tryz.isAgg9 (by rfl)) rfl ?_
        refine NA (WA.seq (fuel := 0) [2, 3, 4, 5] rfl (by kernel_rfl) (WR.call H (basic_None_ct hx22) rfl trivial (Wn.none rfl) rfl ?_))
        intro v28 M w H hle hR
        replace hg_tabs := hg_tabs.mono hle
        replace hp0_2 := hp0_2.mono hle
        replace hc20 := hc20.mono hle
        try dsimp only at hR
        obtain rfl := hR
        refine AS rfl rfl (AS rfl rfl (WR.store [_, _] H rfl rfl rfl (by repeat first | exact .head | apply Upd.tail) Tryz.sizeOf27 rfl (by rfl) (by rfl) (Wn.none rfl) ?_))
        intro w H
        refine NA (WA.done (by kernel_rfl) ?_)
        exact WQ.meetP [(4, _), (5, _), (6, _)] ⟨rfl, rfl, rfl, trivial⟩ ⟨_, rfl, (H.pick (L' := [.blk bk6 (.cells #[I n20, I n21] 27)]) (by repeat first | exact kPn | refine kPc (by repeat first | exact .head | apply Rem.tail) ?_)), hg_tabs⟩
       ·
        refine WR.call H (basic_None_ct hx22) rfl trivial (Wn.none rfl) rfl ?_
        intro v28 M w H hle hR
        replace hg_tabs := hg_tabs.mono hle
        replace hp0_2 := hp0_2.mono hle
        replace hc20 := hc20.mono hle
        try dsimp only at hR
        obtain rfl := hR
        refine NA (WA.seq (fuel := 0) [1, 3, 4, 5] rfl (by kernel_rfl) (ST (Ex.load1 H rfl (by repeat first | exact kMh | apply kMt) Tryz.isAgg9 (by rfl)) rfl ?_))
        refine AS rfl rfl (AS rfl rfl (WR.store [_, _] H rfl rfl rfl (by repeat first | exact .head | apply Upd.tail) Tryz.sizeOf27 rfl (by rfl) (by rfl) (Wn.none rfl) ?_))
        intro w H
        refine NA (WA.done (by kernel_rfl) ?_)
        exact WQ.meetP [(4, _), (5, _), (6, _)] ⟨rfl, rfl, rfl, trivial⟩ ⟨_, rfl, (H.pick (L' := [.blk bk6 (.cells #[I n20, I n21] 27)]) (by repeat first | exact kPn | refine kPc (by repeat first | exact .head | apply Rem.tail) ?_)), hg_tabs⟩
      ·
       rintro e w ⟨M, rfl, H, hg_tabs⟩
       refine TN (RT ?_)
       obtain rfl := Option.some.inj e8
       try dsimp only at h
       obtain rfl := Option.some.inj h
       exact WQ.ret3 rfl rfl rfl ⟨_, rfl, H.loadAgg (by repeat first | exact kMh | apply kMt) Tryz.isAgg27 Tryz.sizeOf27 (by rfl)⟩ H.ext rfl
     ·
      subst hk19
      rw [if_neg Bool.false_ne_true] at e8
      refine SK (IB (TN ?_))
      obtain ⟨n23, hxn23, e8⟩ := bnd e8
      refine RG (ST (Ex.addC rfl rfl hxn23) rfl (MV rfl rfl (NL ?_)))
      exact WQ.againP m14 [(1, _), (6, _), (16, _), (17, _), (18, _)] ⟨rfl, rfl, rfl, rfl, rfl, trivial⟩ ⟨_, _, _, _, rfl, (H.pick (L' := [.blk bk6 (.cells #[I n11, I n12] 27)]) (by repeat first | exact kPn | refine kPc (by repeat first | exact .head | apply Rem.tail) ?_)), hg_tabs, hp0_2, e8⟩ (Nat.lt_succ_self _)
    ·
     replace hk15 : ¬ (n13 < (p0.2.2.length : Int)) := of_decide_eq_false hk15
     rw [if_neg hk15] at e8
     refine WC.exit (WQ.thenExit (WQ.thenExit (WQ.exitHere ?_)))
     exact WQ.meetN [(6, _)] ⟨rfl, trivial⟩ ⟨_, _, _, rfl, H, hg_tabs, e8⟩
   ·
    rintro e w ⟨n9, n10, M, rfl, H, hg_tabs, q24⟩
    obtain rfl := Option.some.inj q24
    try dsimp only at h
    refine TN (SQ ?_)
    obtain ⟨⟨n25, n26⟩, hx27, h⟩ := bnd h
    try dsimp only at h
    refine RG (WR.call H (basic_None_ct hx27) rfl trivial (Wn.none rfl) rfl ?_)
    intro v30 M w H hle hR
    replace hg_tabs := hg_tabs.mono hle
    try dsimp only at hR
    obtain rfl := hR
    refine AS rfl rfl (AS rfl rfl (WR.store [_, _] H rfl rfl rfl (by repeat first | exact .head | apply Upd.tail) Tryz.sizeOf27 rfl (by rfl) (by rfl) (Wn.none rfl) ?_))
    intro w H
    refine NL (TN (RT ?_))
    obtain rfl := Option.some.inj h
    exact WQ.ret3 rfl rfl rfl ⟨_, rfl, H.loadAgg (by repeat first | exact kMh | apply kMt) Tryz.isAgg27 Tryz.sizeOf27 (by rfl)⟩ H.ext rfl
theorem L_mediaExample_ct  {r : Bool} (h : L_mediaExample = some r) : Ct Tryz.prog 9 [] (fun M => GlF (fun w => ∃ tp p, w.var? Tryz.prog "strconv.ErrRange" = some #[.iface tp p]) M ∧ GlF (fun w => ∃ tp p, w.var? Tryz.prog "strconv.ErrSyntax" = some #[.iface tp p]) M ∧ GlF (fun w => ∃ m, w.cell? ⟨2, 0, none⟩ = some (.int .i64 m)) M ∧ GlF (fun w => Lib.TabIs Tryz.prog w "internal/strconv.uint64pow10" .u64 Lib.pow10Tab) M ∧ Tabs M) (fun v M => v = Value.bool r) := by
  refine Ct.of Tryz.func9 (enters Tryz.func9 (by kernel_rfl) rfl) rfl rfl rfl ?_
  intro w0 M0 H hp
  obtain ⟨hg_errR, hg_errS, hg_maxl, hg_pow10, hg_tabs⟩ := hp
  unfold L_mediaExample at h
  refine SQ (RG (AS rfl rfl (NL (TN (SQ ?_)))))
  obtain ⟨⟨s1, ⟨n2, n3⟩⟩, hx4, h⟩ := bnd h
  try dsimp only at h
  refine RG (ST (Ex.build [S [97], S [98, 32, 99]] Tryz.underlying47 Tryz.zeroValue47 (xplaces47 Tryz.underlying47) rfl rfl) rfl (WR.litS (enc := xenc47) xty22 ([([97], [98, 32, 99])] : List (List UInt8 × List UInt8)) H (fun _ => rfl) rfl (by kernel_rfl) rfl rfl rfl (Wn.none rfl) rfl ?_))
  intro v10 M w H hle hs10
  replace hg_errR := hg_errR.mono hle
  replace hg_errS := hg_errS.mono hle
  replace hg_maxl := hg_maxl.mono hle
  replace hg_pow10 := hg_pow10.mono hle
  replace hg_tabs := hg_tabs.mono hle
  refine ST (Ex.build [S [116, 101, 120, 116], S [112, 108, 97, 105, 110], v10] Tryz.underlying24 Tryz.zeroValue24 (xplaces24 Tryz.underlying24) rfl (by obtain ⟨_, _, _, hv, -⟩ := hs10; rw [hv]; clear hv; rfl)) rfl ?_
  refine WR.call H (media_Print_ct hx4) rfl ⟨hg_pow10, hg_tabs, hs10⟩ (Wn.none rfl) rfl ?_
  intro v12 M w H hle hR
  replace hg_errR := hg_errR.mono hle
  replace hg_errS := hg_errS.mono hle
  replace hg_maxl := hg_maxl.mono hle
  replace hg_pow10 := hg_pow10.mono hle
  replace hg_tabs := hg_tabs.mono hle
  replace hs10 := hs10.mono hle
  try dsimp only at hR
  obtain rfl := hR
  refine MV rfl rfl (ST (Ex.extract rfl rfl) rfl (ST (Ex.extract rfl rfl) rfl (WR.alloc [_, _] H Tryz.zeroValue27 rfl (Wn.none rfl) rfl ?_)))
  intro bk2 w H
  refine AS rfl rfl (WR.store [_, _] H rfl rfl rfl (by repeat first | exact .head | apply Upd.tail) Tryz.sizeOf27 rfl (by rfl) (by rfl) (Wn.none rfl) ?_)
  intro w H
  refine NL (TN (SQ ?_))
  obtain ⟨⟨⟨s5, s6, l7⟩, ⟨n8, n9⟩⟩, hx10, h⟩ := bnd h
  try dsimp only at h
  refine RG (WR.call H (media_Parse_ct hx10) rfl ⟨hg_errR, hg_errS, hg_maxl, hg_pow10, hg_tabs⟩ (Wn.none rfl) rfl ?_)
  intro v16 M w H hle hR
  replace hg_errR := hg_errR.mono hle
  replace hg_errS := hg_errS.mono hle
  replace hg_maxl := hg_maxl.mono hle
  replace hg_pow10 := hg_pow10.mono hle
  replace hg_tabs := hg_tabs.mono hle
  replace hs10 := hs10.mono hle
  try dsimp only at hR
  obtain ⟨x16_0_2, rfl, f16_0_2⟩ := hR
  refine MV rfl rfl (ST (Ex.extract rfl rfl) rfl (ST (Ex.extract rfl rfl) rfl (WR.alloc [_, _, _] H Tryz.zeroValue24 rfl (Wn.none rfl) rfl ?_)))
  intro bk3 w H
  refine WR.alloc [_, _] H Tryz.zeroValue27 rfl (Wn.none rfl) rfl ?_
  intro bk4 w H
  refine WR.store [_, _, _] H rfl rfl rfl (by repeat first | exact .head | apply Upd.tail) Tryz.sizeOf24 rfl (by rfl) (by simp only [List.all_cons, List.all_nil, (f16_0_2).one.2]; rfl) (Wn.none rfl) ?_
  intro w H
  refine WR.store [_, _] H rfl rfl rfl (by repeat first | exact .head | apply Upd.tail) Tryz.sizeOf27 rfl (by rfl) (by rfl) (Wn.none rfl) ?_
  intro w H
  refine NL (TN (SQ ?_))
  obtain ⟨⟨s11, b12, ⟨n13, n14⟩⟩, hx15, h⟩ := bnd h
  try dsimp only at h
  refine RG (ST (Ex.loadAgg H rfl (by repeat first | exact kMh | apply kMt) Tryz.isAgg24 Tryz.sizeOf24 (by rfl)) rfl ?_)
  refine WR.call H (media_Param_ct hx15) rfl ⟨hg_tabs, f16_0_2⟩ (Wn.none rfl) rfl ?_
  intro v21 M w H hle hR
  replace hg_errR := hg_errR.mono hle
  replace hg_errS := hg_errS.mono hle
  replace hg_maxl := hg_maxl.mono hle
  replace hg_pow10 := hg_pow10.mono hle
  replace hg_tabs := hg_tabs.mono hle
  replace hs10 := hs10.mono hle
  replace f16_0_2 := f16_0_2.mono hle
  try dsimp only at hR
  obtain rfl := hR
  refine MV rfl rfl (ST (Ex.extract rfl rfl) rfl (ST (Ex.extract rfl rfl) rfl (ST (Ex.extract rfl rfl) rfl (WR.alloc [_, _] H Tryz.zeroValue27 rfl (Wn.none rfl) rfl ?_))))
  intro bk7 w H
  refine AS rfl rfl (AS rfl rfl (WR.store [_, _] H rfl rfl rfl (by repeat first | exact .head | apply Upd.tail) Tryz.sizeOf27 rfl (by rfl) (by rfl) (Wn.none rfl) ?_))
  intro w H
  refine NL (TN (SQ ?_))
  obtain ⟨o16, e17, h⟩ := bnd h
  refine WC.cutX (fun e w => ∃ (b18 : Bool) (M : Mem), e = [(0, Value.bool b18)] ∧ St w0 M0 M [] w ∧ GlF (fun w => ∃ tp p, w.var? Tryz.prog "strconv.ErrRange" = some #[.iface tp p]) M ∧ GlF (fun w => ∃ tp p, w.var? Tryz.prog "strconv.ErrSyntax" = some #[.iface tp p]) M ∧ GlF (fun w => ∃ m, w.cell? ⟨2, 0, none⟩ = some (.int .i64 m)) M ∧ GlF (fun w => Lib.TabIs Tryz.prog w "internal/strconv.uint64pow10" .u64 Lib.pow10Tab) M ∧ Tabs M ∧ some b18 = some o16) [] ?_ ?_ (trivial)
  ·
   refine RG (ST (Ex.fieldAddr Tryz.underlying27 rfl Tryz.sizeOf3 (by decide) rfl) rfl (ST (Ex.load1 H rfl (by repeat first | exact kMh | apply kMt) Tryz.isAgg3 (by rfl)) rfl ?_))
   by_cases hk19 : n2 = (0 : Int)
   ·
    rw [if_pos hk19] at e17
    by_cases hk20 : n8 = (0 : Int)
    ·
     rw [if_pos hk20] at e17
     by_cases hk21 : n13 = (0 : Int)
     ·
      rw [if_pos hk21] at e17
      by_cases hk22 : s1 = [116, 101, 120, 116, 47, 112, 108, 97, 105, 110, 59, 32, 97, 61, 34, 98, 32, 99, 34]
      ·
       rw [if_pos hk22] at e17
       by_cases hk23 : s5 = [84, 101, 120, 116]
       ·
        rw [if_pos hk23] at e17
        by_cases hk24 : (l7.length : Int) = (1 : Int)
        ·
         rw [if_pos hk24] at e17
         obtain ⟨a25, hxa25, e17⟩ := bnd e17
         obtain ⟨bk56, o56, ha56, hc56⟩ := f16_0_2.atC hxa25
         by_cases hk26 : a25.1 = [65] ∧ a25.2 = [98, 32, 99]
         ·
          rw [if_pos hk26] at e17
          rcases b12 with _ | _
          ·
           rw [if_neg Bool.false_ne_true] at e17
           refine WR.stepE (v' := .bool true) (Ex.eql rfl rfl) (congrArg Value.bool (decide_eq_true hk19)) (Wn.none rfl) rfl rfl (MV rfl rfl (SG (Ex.fieldAddr Tryz.underlying27 rfl Tryz.sizeOf3 (by decide) rfl) rfl rfl rfl (SG (Ex.load1 H rfl (by repeat first | exact kMh | apply kMt) Tryz.isAgg3 (by rfl)) rfl rfl rfl ?_)))
           refine WR.stepE (v' := .bool true) (Ex.eql rfl rfl) (congrArg Value.bool (decide_eq_true hk20)) (Wn.some rfl rfl rfl) rfl rfl (PT rfl rfl rfl (MV rfl rfl (SG (Ex.fieldAddr Tryz.underlying27 rfl Tryz.sizeOf3 (by decide) rfl) rfl rfl rfl (SG (Ex.load1 H rfl (by repeat first | exact kMh | apply kMt) Tryz.isAgg3 (by rfl)) rfl rfl rfl ?_))))
           refine WR.stepE (v' := .bool true) (Ex.eql rfl rfl) (congrArg Value.bool (decide_eq_true hk21)) (Wn.some rfl rfl rfl) rfl rfl (PT rfl rfl rfl (MV rfl rfl (SG (Ex.move rfl) rfl rfl rfl (WR.stepE (v' := .bool true) (Ex.strEql rfl rfl) (congrArg Value.bool (decide_eq_true hk22)) (Wn.some rfl rfl rfl) rfl rfl (PT rfl rfl rfl (MV rfl rfl (SG (Ex.fieldAddr Tryz.underlying24 rfl Tryz.sizeOf9 (by decide) rfl) rfl rfl rfl (SG (Ex.load1 H rfl (by repeat first | exact kMh | apply kMt) Tryz.isAgg9 (by rfl)) rfl rfl rfl ?_))))))))
           refine WR.stepE (v' := .bool true) (Ex.strEql rfl rfl) (congrArg Value.bool (decide_eq_true hk23)) (Wn.some rfl rfl rfl) rfl rfl (PT rfl rfl rfl (MV rfl rfl (SG (Ex.fieldAddr Tryz.underlying24 rfl Tryz.sizeOf22 (by decide) rfl) rfl rfl rfl (SG (Ex.load1 H rfl (by repeat first | exact kMh | apply kMt) Tryz.isAgg22 (by rfl)) rfl rfl rfl ?_))))
           refine SG (Ex.lenSlS Tryz.underlying22 f16_0_2 rfl) rfl rfl rfl (WR.stepE (v' := .bool true) (Ex.eql rfl rfl) (congrArg Value.bool (decide_eq_true hk24)) (Wn.some rfl rfl rfl) rfl rfl (PT rfl rfl rfl (MV rfl rfl (SG (Ex.fieldAddr Tryz.underlying24 rfl Tryz.sizeOf22 (by decide) rfl) rfl rfl rfl (SG (Ex.load1 H rfl (by repeat first | exact kMh | apply kMt) Tryz.isAgg22 (by rfl)) rfl rfl rfl ?_)))))
           refine SG (Ex.idxAt ha56 Tryz.underlying22 Tryz.sizeOf47 rfl rfl) rfl rfl rfl (SG (Ex.loadAggM H rfl hc56 Tryz.isAgg47 Tryz.sizeOf47 (by rfl)) rfl rfl rfl ?_)
           refine SG (Ex.build [S [65], S [98, 32, 99]] Tryz.underlying47 Tryz.zeroValue47 (xplaces47 Tryz.underlying47) rfl rfl) rfl rfl rfl (WR.stepE (v' := .bool true) (Ex.eqlAgg rfl rfl (by kernel_rfl) (xeq47 a25.1 [65] a25.2 [98, 32, 99])) (congrArg Value.bool (decide_eq_true hk26)) (Wn.some rfl rfl rfl) rfl rfl (PT rfl rfl rfl (MV rfl rfl (SG (Ex.move rfl) rfl rfl rfl (PT rfl rfl rfl (MV rfl rfl (GF rfl rfl rfl (GF rfl rfl rfl (PF rfl rfl rfl (AS rfl rfl (NL ?_)))))))))))
           exact WQ.meetN [(0, _)] ⟨rfl, trivial⟩ ⟨_, _, rfl, (H.pick (L' := []) (by repeat first | exact kPn | refine kPc (by repeat first | exact .head | apply Rem.tail) ?_)), hg_errR, hg_errS, hg_maxl, hg_pow10, hg_tabs, e17⟩
          ·
           rw [if_pos rfl] at e17
           refine WR.stepE (v' := .bool true) (Ex.eql rfl rfl) (congrArg Value.bool (decide_eq_true hk19)) (Wn.none rfl) rfl rfl (MV rfl rfl (SG (Ex.fieldAddr Tryz.underlying27 rfl Tryz.sizeOf3 (by decide) rfl) rfl rfl rfl (SG (Ex.load1 H rfl (by repeat first | exact kMh | apply kMt) Tryz.isAgg3 (by rfl)) rfl rfl rfl ?_)))
           refine WR.stepE (v' := .bool true) (Ex.eql rfl rfl) (congrArg Value.bool (decide_eq_true hk20)) (Wn.some rfl rfl rfl) rfl rfl (PT rfl rfl rfl (MV rfl rfl (SG (Ex.fieldAddr Tryz.underlying27 rfl Tryz.sizeOf3 (by decide) rfl) rfl rfl rfl (SG (Ex.load1 H rfl (by repeat first | exact kMh | apply kMt) Tryz.isAgg3 (by rfl)) rfl rfl rfl ?_))))
           refine WR.stepE (v' := .bool true) (Ex.eql rfl rfl) (congrArg Value.bool (decide_eq_true hk21)) (Wn.some rfl rfl rfl) rfl rfl (PT rfl rfl rfl (MV rfl rfl (SG (Ex.move rfl) rfl rfl rfl (WR.stepE (v' := .bool true) (Ex.strEql rfl rfl) (congrArg Value.bool (decide_eq_true hk22)) (Wn.some rfl rfl rfl) rfl rfl (PT rfl rfl rfl (MV rfl rfl (SG (Ex.fieldAddr Tryz.underlying24 rfl Tryz.sizeOf9 (by decide) rfl) rfl rfl rfl (SG (Ex.load1 H rfl (by repeat first | exact kMh | apply kMt) Tryz.isAgg9 (by rfl)) rfl rfl rfl ?_))))))))
           refine WR.stepE (v' := .bool true) (Ex.strEql rfl rfl) (congrArg Value.bool (decide_eq_true hk23)) (Wn.some rfl rfl rfl) rfl rfl (PT rfl rfl rfl (MV rfl rfl (SG (Ex.fieldAddr Tryz.underlying24 rfl Tryz.sizeOf22 (by decide) rfl) rfl rfl rfl (SG (Ex.load1 H rfl (by repeat first | exact kMh | apply kMt) Tryz.isAgg22 (by rfl)) rfl rfl rfl ?_))))
           refine SG (Ex.lenSlS Tryz.underlying22 f16_0_2 rfl) rfl rfl rfl (WR.stepE (v' := .bool true) (Ex.eql rfl rfl) (congrArg Value.bool (decide_eq_true hk24)) (Wn.some rfl rfl rfl) rfl rfl (PT rfl rfl rfl (MV rfl rfl (SG (Ex.fieldAddr Tryz.underlying24 rfl Tryz.sizeOf22 (by decide) rfl) rfl rfl rfl (SG (Ex.load1 H rfl (by repeat first | exact kMh | apply kMt) Tryz.isAgg22 (by rfl)) rfl rfl rfl ?_)))))
           refine SG (Ex.idxAt ha56 Tryz.underlying22 Tryz.sizeOf47 rfl rfl) rfl rfl rfl (SG (Ex.loadAggM H rfl hc56 Tryz.isAgg47 Tryz.sizeOf47 (by rfl)) rfl rfl rfl ?_)
           refine SG (Ex.build [S [65], S [98, 32, 99]] Tryz.underlying47 Tryz.zeroValue47 (xplaces47 Tryz.underlying47) rfl rfl) rfl rfl rfl (WR.stepE (v' := .bool true) (Ex.eqlAgg rfl rfl (by kernel_rfl) (xeq47 a25.1 [65] a25.2 [98, 32, 99])) (congrArg Value.bool (decide_eq_true hk26)) (Wn.some rfl rfl rfl) rfl rfl (PT rfl rfl rfl (MV rfl rfl (SG (Ex.move rfl) rfl rfl rfl (PT rfl rfl rfl (MV rfl rfl (SG (Ex.move rfl) rfl rfl rfl (SG (Ex.strEql rfl rfl) rfl rfl rfl (PT rfl rfl rfl (AS rfl rfl (NL ?_)))))))))))
           exact WQ.meetN [(0, _)] ⟨rfl, trivial⟩ ⟨_, _, rfl, (H.pick (L' := []) (by repeat first | exact kPn | refine kPc (by repeat first | exact .head | apply Rem.tail) ?_)), hg_errR, hg_errS, hg_maxl, hg_pow10, hg_tabs, e17⟩
         ·
          rw [if_neg hk26] at e17
          refine WR.stepE (v' := .bool true) (Ex.eql rfl rfl) (congrArg Value.bool (decide_eq_true hk19)) (Wn.none rfl) rfl rfl (MV rfl rfl (SG (Ex.fieldAddr Tryz.underlying27 rfl Tryz.sizeOf3 (by decide) rfl) rfl rfl rfl (SG (Ex.load1 H rfl (by repeat first | exact kMh | apply kMt) Tryz.isAgg3 (by rfl)) rfl rfl rfl ?_)))
          refine WR.stepE (v' := .bool true) (Ex.eql rfl rfl) (congrArg Value.bool (decide_eq_true hk20)) (Wn.some rfl rfl rfl) rfl rfl (PT rfl rfl rfl (MV rfl rfl (SG (Ex.fieldAddr Tryz.underlying27 rfl Tryz.sizeOf3 (by decide) rfl) rfl rfl rfl (SG (Ex.load1 H rfl (by repeat first | exact kMh | apply kMt) Tryz.isAgg3 (by rfl)) rfl rfl rfl ?_))))
          refine WR.stepE (v' := .bool true) (Ex.eql rfl rfl) (congrArg Value.bool (decide_eq_true hk21)) (Wn.some rfl rfl rfl) rfl rfl (PT rfl rfl rfl (MV rfl rfl (SG (Ex.move rfl) rfl rfl rfl (WR.stepE (v' := .bool true) (Ex.strEql rfl rfl) (congrArg Value.bool (decide_eq_true hk22)) (Wn.some rfl rfl rfl) rfl rfl (PT rfl rfl rfl (MV rfl rfl (SG (Ex.fieldAddr Tryz.underlying24 rfl Tryz.sizeOf9 (by decide) rfl) rfl rfl rfl (SG (Ex.load1 H rfl (by repeat first | exact kMh | apply kMt) Tryz.isAgg9 (by rfl)) rfl rfl rfl ?_))))))))
          refine WR.stepE (v' := .bool true) (Ex.strEql rfl rfl) (congrArg Value.bool (decide_eq_true hk23)) (Wn.some rfl rfl rfl) rfl rfl (PT rfl rfl rfl (MV rfl rfl (SG (Ex.fieldAddr Tryz.underlying24 rfl Tryz.sizeOf22 (by decide) rfl) rfl rfl rfl (SG (Ex.load1 H rfl (by repeat first | exact kMh | apply kMt) Tryz.isAgg22 (by rfl)) rfl rfl rfl ?_))))
          refine SG (Ex.lenSlS Tryz.underlying22 f16_0_2 rfl) rfl rfl rfl (WR.stepE (v' := .bool true) (Ex.eql rfl rfl) (congrArg Value.bool (decide_eq_true hk24)) (Wn.some rfl rfl rfl) rfl rfl (PT rfl rfl rfl (MV rfl rfl (SG (Ex.fieldAddr Tryz.underlying24 rfl Tryz.sizeOf22 (by decide) rfl) rfl rfl rfl (SG (Ex.load1 H rfl (by repeat first | exact kMh | apply kMt) Tryz.isAgg22 (by rfl)) rfl rfl rfl ?_)))))
          refine SG (Ex.idxAt ha56 Tryz.underlying22 Tryz.sizeOf47 rfl rfl) rfl rfl rfl (SG (Ex.loadAggM H rfl hc56 Tryz.isAgg47 Tryz.sizeOf47 (by rfl)) rfl rfl rfl ?_)
          refine SG (Ex.build [S [65], S [98, 32, 99]] Tryz.underlying47 Tryz.zeroValue47 (xplaces47 Tryz.underlying47) rfl rfl) rfl rfl rfl (WR.stepE (v' := .bool false) (Ex.eqlAgg rfl rfl (by kernel_rfl) (xeq47 a25.1 [65] a25.2 [98, 32, 99])) (congrArg Value.bool (decide_eq_false hk26)) (Wn.some rfl rfl rfl) rfl rfl (PT rfl rfl rfl (MV rfl rfl (GF rfl rfl rfl (PF rfl rfl rfl (MV rfl rfl (GF rfl rfl rfl (GF rfl rfl rfl (PF rfl rfl rfl (AS rfl rfl (NL ?_)))))))))))
          exact WQ.meetN [(0, _)] ⟨rfl, trivial⟩ ⟨_, _, rfl, (H.pick (L' := []) (by repeat first | exact kPn | refine kPc (by repeat first | exact .head | apply Rem.tail) ?_)), hg_errR, hg_errS, hg_maxl, hg_pow10, hg_tabs, e17⟩
        ·
         rw [if_neg hk24] at e17
         refine WR.stepE (v' := .bool true) (Ex.eql rfl rfl) (congrArg Value.bool (decide_eq_true hk19)) (Wn.none rfl) rfl rfl (MV rfl rfl (SG (Ex.fieldAddr Tryz.underlying27 rfl Tryz.sizeOf3 (by decide) rfl) rfl rfl rfl (SG (Ex.load1 H rfl (by repeat first | exact kMh | apply kMt) Tryz.isAgg3 (by rfl)) rfl rfl rfl ?_)))
         refine WR.stepE (v' := .bool true) (Ex.eql rfl rfl) (congrArg Value.bool (decide_eq_true hk20)) (Wn.some rfl rfl rfl) rfl rfl (PT rfl rfl rfl (MV rfl rfl (SG (Ex.fieldAddr Tryz.underlying27 rfl Tryz.sizeOf3 (by decide) rfl) rfl rfl rfl (SG (Ex.load1 H rfl (by repeat first | exact kMh | apply kMt) Tryz.isAgg3 (by rfl)) rfl rfl rfl ?_))))
         refine WR.stepE (v' := .bool true) (Ex.eql rfl rfl) (congrArg Value.bool (decide_eq_true hk21)) (Wn.some rfl rfl rfl) rfl rfl (PT rfl rfl rfl (MV rfl rfl (SG (Ex.move rfl) rfl rfl rfl (WR.stepE (v' := .bool true) (Ex.strEql rfl rfl) (congrArg Value.bool (decide_eq_true hk22)) (Wn.some rfl rfl rfl) rfl rfl (PT rfl rfl rfl (MV rfl rfl (SG (Ex.fieldAddr Tryz.underlying24 rfl Tryz.sizeOf9 (by decide) rfl) rfl rfl rfl (SG (Ex.load1 H rfl (by repeat first | exact kMh | apply kMt) Tryz.isAgg9 (by rfl)) rfl rfl rfl ?_))))))))
         refine WR.stepE (v' := .bool true) (Ex.strEql rfl rfl) (congrArg Value.bool (decide_eq_true hk23)) (Wn.some rfl rfl rfl) rfl rfl (PT rfl rfl rfl (MV rfl rfl (SG (Ex.fieldAddr Tryz.underlying24 rfl Tryz.sizeOf22 (by decide) rfl) rfl rfl rfl (SG (Ex.load1 H rfl (by repeat first | exact kMh | apply kMt) Tryz.isAgg22 (by rfl)) rfl rfl rfl ?_))))
         refine SG (Ex.lenSlS Tryz.underlying22 f16_0_2 rfl) rfl rfl rfl (WR.stepE (v' := .bool false) (Ex.eql rfl rfl) (congrArg Value.bool (decide_eq_false hk24)) (Wn.some rfl rfl rfl) rfl rfl (PT rfl rfl rfl (MV rfl rfl (WR.skipN 6 rfl rfl (PF rfl rfl rfl (MV rfl rfl (GF rfl rfl rfl (PF rfl rfl rfl (MV rfl rfl (GF rfl rfl rfl (GF rfl rfl rfl (PF rfl rfl rfl (AS rfl rfl (NL ?_))))))))))))))
         exact WQ.meetN [(0, _)] ⟨rfl, trivial⟩ ⟨_, _, rfl, (H.pick (L' := []) (by repeat first | exact kPn | refine kPc (by repeat first | exact .head | apply Rem.tail) ?_)), hg_errR, hg_errS, hg_maxl, hg_pow10, hg_tabs, e17⟩
       ·
        rw [if_neg hk23] at e17
        refine WR.stepE (v' := .bool true) (Ex.eql rfl rfl) (congrArg Value.bool (decide_eq_true hk19)) (Wn.none rfl) rfl rfl (MV rfl rfl (SG (Ex.fieldAddr Tryz.underlying27 rfl Tryz.sizeOf3 (by decide) rfl) rfl rfl rfl (SG (Ex.load1 H rfl (by repeat first | exact kMh | apply kMt) Tryz.isAgg3 (by rfl)) rfl rfl rfl ?_)))
        refine WR.stepE (v' := .bool true) (Ex.eql rfl rfl) (congrArg Value.bool (decide_eq_true hk20)) (Wn.some rfl rfl rfl) rfl rfl (PT rfl rfl rfl (MV rfl rfl (SG (Ex.fieldAddr Tryz.underlying27 rfl Tryz.sizeOf3 (by decide) rfl) rfl rfl rfl (SG (Ex.load1 H rfl (by repeat first | exact kMh | apply kMt) Tryz.isAgg3 (by rfl)) rfl rfl rfl ?_))))
        refine WR.stepE (v' := .bool true) (Ex.eql rfl rfl) (congrArg Value.bool (decide_eq_true hk21)) (Wn.some rfl rfl rfl) rfl rfl (PT rfl rfl rfl (MV rfl rfl (SG (Ex.move rfl) rfl rfl rfl (WR.stepE (v' := .bool true) (Ex.strEql rfl rfl) (congrArg Value.bool (decide_eq_true hk22)) (Wn.some rfl rfl rfl) rfl rfl (PT rfl rfl rfl (MV rfl rfl (SG (Ex.fieldAddr Tryz.underlying24 rfl Tryz.sizeOf9 (by decide) rfl) rfl rfl rfl (SG (Ex.load1 H rfl (by repeat first | exact kMh | apply kMt) Tryz.isAgg9 (by rfl)) rfl rfl rfl ?_))))))))
        refine WR.stepE (v' := .bool false) (Ex.strEql rfl rfl) (congrArg Value.bool (decide_eq_false hk23)) (Wn.some rfl rfl rfl) rfl rfl (PT rfl rfl rfl (MV rfl rfl (WR.skipN 4 rfl rfl (PF rfl rfl rfl (MV rfl rfl (WR.skipN 6 rfl rfl (PF rfl rfl rfl (MV rfl rfl (GF rfl rfl rfl (PF rfl rfl rfl (MV rfl rfl (GF rfl rfl rfl (GF rfl rfl rfl (PF rfl rfl rfl (AS rfl rfl (NL ?_))))))))))))))))
        exact WQ.meetN [(0, _)] ⟨rfl, trivial⟩ ⟨_, _, rfl, (H.pick (L' := []) (by repeat first | exact kPn | refine kPc (by repeat first | exact .head | apply Rem.tail) ?_)), hg_errR, hg_errS, hg_maxl, hg_pow10, hg_tabs, e17⟩
      ·
       rw [if_neg hk22] at e17
       refine WR.stepE (v' := .bool true) (Ex.eql rfl rfl) (congrArg Value.bool (decide_eq_true hk19)) (Wn.none rfl) rfl rfl (MV rfl rfl (SG (Ex.fieldAddr Tryz.underlying27 rfl Tryz.sizeOf3 (by decide) rfl) rfl rfl rfl (SG (Ex.load1 H rfl (by repeat first | exact kMh | apply kMt) Tryz.isAgg3 (by rfl)) rfl rfl rfl ?_)))
       refine WR.stepE (v' := .bool true) (Ex.eql rfl rfl) (congrArg Value.bool (decide_eq_true hk20)) (Wn.some rfl rfl rfl) rfl rfl (PT rfl rfl rfl (MV rfl rfl (SG (Ex.fieldAddr Tryz.underlying27 rfl Tryz.sizeOf3 (by decide) rfl) rfl rfl rfl (SG (Ex.load1 H rfl (by repeat first | exact kMh | apply kMt) Tryz.isAgg3 (by rfl)) rfl rfl rfl ?_))))
       refine WR.stepE (v' := .bool true) (Ex.eql rfl rfl) (congrArg Value.bool (decide_eq_true hk21)) (Wn.some rfl rfl rfl) rfl rfl (PT rfl rfl rfl (MV rfl rfl (SG (Ex.move rfl) rfl rfl rfl (WR.stepE (v' := .bool false) (Ex.strEql rfl rfl) (congrArg Value.bool (decide_eq_false hk22)) (Wn.some rfl rfl rfl) rfl rfl (PT rfl rfl rfl (MV rfl rfl (WR.skipN 3 rfl rfl (PF rfl rfl rfl (MV rfl rfl (WR.skipN 4 rfl rfl (PF rfl rfl rfl (MV rfl rfl (WR.skipN 6 rfl rfl (PF rfl rfl rfl (MV rfl rfl (GF rfl rfl rfl (PF rfl rfl rfl (MV rfl rfl (GF rfl rfl rfl (GF rfl rfl rfl (PF rfl rfl rfl (AS rfl rfl (NL ?_)))))))))))))))))))))))
       exact WQ.meetN [(0, _)] ⟨rfl, trivial⟩ ⟨_, _, rfl, (H.pick (L' := []) (by repeat first | exact kPn | refine kPc (by repeat first | exact .head | apply Rem.tail) ?_)), hg_errR, hg_errS, hg_maxl, hg_pow10, hg_tabs, e17⟩
     ·
      rw [if_neg hk21] at e17
      refine WR.stepE (v' := .bool true) (Ex.eql rfl rfl) (congrArg Value.bool (decide_eq_true hk19)) (Wn.none rfl) rfl rfl (MV rfl rfl (SG (Ex.fieldAddr Tryz.underlying27 rfl Tryz.sizeOf3 (by decide) rfl) rfl rfl rfl (SG (Ex.load1 H rfl (by repeat first | exact kMh | apply kMt) Tryz.isAgg3 (by rfl)) rfl rfl rfl ?_)))
      refine WR.stepE (v' := .bool true) (Ex.eql rfl rfl) (congrArg Value.bool (decide_eq_true hk20)) (Wn.some rfl rfl rfl) rfl rfl (PT rfl rfl rfl (MV rfl rfl (SG (Ex.fieldAddr Tryz.underlying27 rfl Tryz.sizeOf3 (by decide) rfl) rfl rfl rfl (SG (Ex.load1 H rfl (by repeat first | exact kMh | apply kMt) Tryz.isAgg3 (by rfl)) rfl rfl rfl ?_))))
      refine WR.stepE (v' := .bool false) (Ex.eql rfl rfl) (congrArg Value.bool (decide_eq_false hk21)) (Wn.some rfl rfl rfl) rfl rfl (PT rfl rfl rfl (MV rfl rfl (GF rfl rfl rfl (GF rfl rfl rfl (PF rfl rfl rfl (MV rfl rfl (WR.skipN 3 rfl rfl (PF rfl rfl rfl (MV rfl rfl (WR.skipN 4 rfl rfl (PF rfl rfl rfl (MV rfl rfl (WR.skipN 6 rfl rfl (PF rfl rfl rfl (MV rfl rfl (GF rfl rfl rfl (PF rfl rfl rfl (MV rfl rfl (GF rfl rfl rfl (GF rfl rfl rfl (PF rfl rfl rfl (AS rfl rfl (NL ?_)))))))))))))))))))))))
      exact WQ.meetN [(0, _)] ⟨rfl, trivial⟩ ⟨_, _, rfl, (H.pick (L' := []) (by repeat first | exact kPn | refine kPc (by repeat first | exact .head | apply Rem.tail) ?_)), hg_errR, hg_errS, hg_maxl, hg_pow10, hg_tabs, e17⟩
    ·
     rw [if_neg hk20] at e17
     refine WR.stepE (v' := .bool true) (Ex.eql rfl rfl) (congrArg Value.bool (decide_eq_true hk19)) (Wn.none rfl) rfl rfl (MV rfl rfl (SG (Ex.fieldAddr Tryz.underlying27 rfl Tryz.sizeOf3 (by decide) rfl) rfl rfl rfl (SG (Ex.load1 H rfl (by repeat first | exact kMh | apply kMt) Tryz.isAgg3 (by rfl)) rfl rfl rfl ?_)))
     refine WR.stepE (v' := .bool false) (Ex.eql rfl rfl) (congrArg Value.bool (decide_eq_false hk20)) (Wn.some rfl rfl rfl) rfl rfl (PT rfl rfl rfl (MV rfl rfl (WR.skipN 3 rfl rfl (PF rfl rfl rfl (MV rfl rfl (GF rfl rfl rfl (GF rfl rfl rfl (PF rfl rfl rfl (MV rfl rfl (WR.skipN 3 rfl rfl (PF rfl rfl rfl (MV rfl rfl (WR.skipN 4 rfl rfl (PF rfl rfl rfl (MV rfl rfl (WR.skipN 6 rfl rfl (PF rfl rfl rfl (MV rfl rfl (GF rfl rfl rfl (PF rfl rfl rfl (MV rfl rfl (GF rfl rfl rfl (GF rfl rfl rfl (PF rfl rfl rfl (AS rfl rfl (NL ?_))))))))))))))))))))))))))
     exact WQ.meetN [(0, _)] ⟨rfl, trivial⟩ ⟨_, _, rfl, (H.pick (L' := []) (by repeat first | exact kPn | refine kPc (by repeat first | exact .head | apply Rem.tail) ?_)), hg_errR, hg_errS, hg_maxl, hg_pow10, hg_tabs, e17⟩
   ·
    rw [if_neg hk19] at e17
    refine WR.stepE (v' := .bool false) (Ex.eql rfl rfl) (congrArg Value.bool (decide_eq_false hk19)) (Wn.none rfl) rfl rfl (MV rfl rfl (WR.skipN 3 rfl rfl (PF rfl rfl rfl (MV rfl rfl (WR.skipN 3 rfl rfl (PF rfl rfl rfl (MV rfl rfl (GF rfl rfl rfl (GF rfl rfl rfl (PF rfl rfl rfl (MV rfl rfl (WR.skipN 3 rfl rfl (PF rfl rfl rfl (MV rfl rfl (WR.skipN 4 rfl rfl (PF rfl rfl rfl (MV rfl rfl (WR.skipN 6 rfl rfl (PF rfl rfl rfl (MV rfl rfl (GF rfl rfl rfl (PF rfl rfl rfl (MV rfl rfl (GF rfl rfl rfl (GF rfl rfl rfl (PF rfl rfl rfl (AS rfl rfl (NL ?_))))))))))))))))))))))))))))
    exact WQ.meetN [(0, _)] ⟨rfl, trivial⟩ ⟨_, _, rfl, (H.pick (L' := []) (by repeat first | exact kPn | refine kPc (by repeat first | exact .head | apply Rem.tail) ?_)), hg_errR, hg_errS, hg_maxl, hg_pow10, hg_tabs, e17⟩
  ·
   rintro e w ⟨b18, M, rfl, H, hg_errR, hg_errS, hg_maxl, hg_pow10, hg_tabs, q27⟩
   obtain rfl := Option.some.inj q27
   refine TN (RT ?_)
   obtain rfl := Option.some.inj h
   exact WQ.ret1 rfl rfl H.ext rfl
theorem R_In_ct {p0 : Int} {p1 : Int} {p2 : Int} {r : Bool} (h : R_In p0 p1 p2 = some r) : Ct Tryz.prog 20 [I p0, I p1, I p2] (fun M => True) (fun v M => v = Value.bool r) := by
  refine Ct.of Tryz.func20 (enters Tryz.func20 (by kernel_rfl) rfl) rfl rfl rfl ?_
  intro w0 M0 H hp
  unfold R_In at h
  refine SQ (RG (AS rfl rfl (NL (TN (SQ ?_)))))
  obtain ⟨o1, e2, h⟩ := bnd h
  refine WC.cutX (fun e w => ∃ (b3 : Bool) (M : Mem), e = [(6, Value.bool b3)] ∧ St w0 M0 M [] w ∧ some b3 = some o1) [] ?_ ?_ (trivial)
  ·
   refine RG (MV rfl rfl (MV rfl rfl ?_))
   by_cases hk4 : p1 ≤ p0
   ·
    rw [if_pos hk4] at e2
    refine WR.stepE (v' := .bool true) (Ex.geq rfl rfl) (congrArg Value.bool (decide_eq_true hk4)) (Wn.none rfl) rfl rfl (MV rfl rfl (SG (Ex.move rfl) rfl rfl rfl (SG (Ex.move rfl) rfl rfl rfl (SG (Ex.leq rfl rfl) rfl rfl rfl (PT rfl rfl rfl (AS rfl rfl (NL ?_)))))))
    exact WQ.meetN [(6, _)] ⟨rfl, trivial⟩ ⟨_, _, rfl, H, e2⟩
   ·
    rw [if_neg hk4] at e2
    refine WR.stepE (v' := .bool false) (Ex.geq rfl rfl) (congrArg Value.bool (decide_eq_false hk4)) (Wn.none rfl) rfl rfl (MV rfl rfl (WR.skipN 3 rfl rfl (PF rfl rfl rfl (AS rfl rfl (NL ?_)))))
    exact WQ.meetN [(6, _)] ⟨rfl, trivial⟩ ⟨_, _, rfl, H, e2⟩
  ·
   rintro e w ⟨b3, M, rfl, H, q5⟩
   obtain rfl := Option.some.inj q5
   refine TN (RT ?_)
   obtain rfl := Option.some.inj h
   exact WQ.ret1 rfl rfl H.ext rfl
theorem R_OneOf_ct {p0 : UInt8} {p1 : List UInt8} {r : Bool} (h : R_OneOf p0 p1 = some r) : Ct Tryz.prog 62 [encB p0, S p1] (fun M => True) (fun v M => v = Value.bool r) := by
  refine Ct.of Tryz.func62 (enters Tryz.func62 (by kernel_rfl) rfl) rfl rfl rfl ?_
  intro w0 M0 H hp
  unfold R_OneOf at h
  refine SQ (RG (AS rfl rfl (NL (TN (SQ (SQ (RG (AS rfl rfl (NL (TN ?_))))))))))
  obtain ⟨o1, e2, h⟩ := bnd h
  refine WC.cutX (fun e w => ∃  (M : Mem), e = [] ∧ St w0 M0 M [] w ∧ some (.inl ()) = some o1) [] ?_ ?_ (trivial)
  ·
   refine BL (WC.loopP (fun m e w => ∃ (n3 : Int) (M : Mem), e = [(0, encB p0), (1, S p1), (5, I n3)] ∧ St w0 M0 M [] w ∧ R_OneOf_L1 p0 p1 m n3 = some o1) FU [(0, _), (1, _), (5, _)] ⟨rfl, rfl, rfl, trivial⟩ ⟨_, _, rfl, H, e2⟩ ?_)
   rintro m4 e w ⟨n3, M, rfl, H, e2⟩
   rcases m4 with _ | m4
   · rw [R_OneOf_L1] at e2; cases e2
   rw [R_OneOf_L1] at e2
   refine SQ (SQ (RG (MV rfl rfl (MV rfl rfl (ST (Ex.lenStr Tryz.underlying9 rfl) rfl (ST (Ex.lss rfl rfl) rfl (NL (TN ?_))))))))
   refine WC.condB rfl (fun hk5 => ?_) (fun hk5 => ?_)
   ·
    replace hk5 : n3 < (p1.length : Int) := of_decide_eq_true hk5
    rw [if_pos hk5] at e2
    refine SK (TN (SQ (BL (SQ ?_))))
    obtain ⟨c6, hxc6, e2⟩ := bnd e2
    refine RG (MV rfl rfl (MV rfl rfl (ST (Ex.idxStrC Tryz.underlying9 rfl rfl hxc6) rfl (MV rfl rfl (ST (Ex.eqlB (c := c6) (d := p0) rfl rfl) rfl (NL (TN ?_)))))))
    refine WC.condB rfl (fun hk7 => ?_) (fun hk7 => ?_)
    ·
     replace hk7 : c6 = p0 := of_decide_eq_true hk7
     rw [if_pos hk7] at e2
     refine SQ (RG (AS rfl rfl (NL (TN (RT ?_)))))
     obtain rfl := Option.some.inj e2
     try dsimp only at h
     obtain rfl := Option.some.inj h
     exact WQ.ret1 rfl rfl H.ext rfl
    ·
     replace hk7 : ¬ (c6 = p0) := of_decide_eq_false hk7
     rw [if_neg hk7] at e2
     refine SK (IB (TN ?_))
     obtain ⟨n8, hxn8, e2⟩ := bnd e2
     refine RG (MV rfl rfl (ST (Ex.addC rfl rfl hxn8) rfl (AS rfl rfl (NL ?_))))
     exact WQ.againP m4 [(0, _), (1, _), (5, _)] ⟨rfl, rfl, rfl, trivial⟩ ⟨_, _, rfl, H, e2⟩ (Nat.lt_succ_self _)
   ·
    replace hk5 : ¬ (n3 < (p1.length : Int)) := of_decide_eq_false hk5
    rw [if_neg hk5] at e2
    refine WC.exit (WQ.thenExit (WQ.thenExit (WQ.exitHere ?_)))
    exact WQ.meetN [] trivial ⟨_, rfl, H, e2⟩
  ·
   rintro e w ⟨M, rfl, H, q9⟩
   obtain rfl := Option.some.inj q9
   try dsimp only at h
   refine TN (SQ (RG (AS rfl rfl (NL (TN (RT ?_))))))
   obtain rfl := Option.some.inj h
   exact WQ.ret1 rfl rfl H.ext rfl
theorem R_TokenByte_ct {p0 : UInt8} {r : Bool} (h : R_TokenByte p0 = some r) : Ct Tryz.prog 41 [encB p0] (fun M => True) (fun v M => v = Value.bool r) := by
  refine Ct.of Tryz.func41 (enters Tryz.func41 (by kernel_rfl) rfl) rfl rfl rfl ?_
  intro w0 M0 H hp
  unfold R_TokenByte at h
  refine SQ (RG (AS rfl rfl (NL (TN (SQ ?_)))))
  obtain ⟨o1, e2, h⟩ := bnd h
  refine WC.cutX (fun e w => ∃ (b3 : Bool) (M : Mem), e = [(2, Value.bool b3)] ∧ St w0 M0 M [] w ∧ some b3 = some o1) [] ?_ ?_ (trivial)
  ·
   obtain ⟨b4, hx5, e2⟩ := bnd e2
   refine RG (MV rfl rfl (ST (Ex.convB Tryz.underlying5 Tryz.underlying3 rfl) rfl (WR.call H (R_In_ct hx5) rfl trivial (Wn.none rfl) rfl ?_)))
   intro v5 M w H hle hR
   obtain rfl := hR
   refine MV rfl rfl ?_
   rcases b4 with _ | _
   ·
    rw [if_neg Bool.false_ne_true] at e2
    refine WR.skipN 3 rfl rfl (PF rfl rfl rfl (AS rfl rfl (NL ?_)))
    exact WQ.meetN [(2, _)] ⟨rfl, trivial⟩ ⟨_, _, rfl, H, e2⟩
   ·
    rw [if_pos rfl] at e2
    obtain ⟨b6, hx7, e2⟩ := bnd e2
    refine SG (Ex.move rfl) rfl rfl rfl (WR.call H (R_OneOf_ct hx7) rfl trivial (Wn.some rfl rfl rfl) rfl ?_)
    intro v8 M w H hle hR
    obtain rfl := hR
    refine SG (Ex.not rfl) rfl rfl rfl (PT rfl rfl rfl (AS rfl rfl (NL ?_)))
    exact WQ.meetN [(2, _)] ⟨rfl, trivial⟩ ⟨_, _, rfl, H, e2⟩
  ·
   rintro e w ⟨b3, M, rfl, H, q8⟩
   obtain rfl := Option.some.inj q8
   refine TN (RT ?_)
   obtain rfl := Option.some.inj h
   exact WQ.ret1 rfl rfl H.ext rfl
theorem R_TokenText_ct {p0 : List UInt8} {r : Bool} (h : R_TokenText p0 = some r) : Ct Tryz.prog 21 [S p0] (fun M => True) (fun v M => v = Value.bool r) := by
  refine Ct.of Tryz.func21 (enters Tryz.func21 (by kernel_rfl) rfl) rfl rfl rfl ?_
  intro w0 M0 H hp
  unfold R_TokenText at h
  refine SQ (RG (AS rfl rfl (NL (TN (SQ (SQ (RG (AS rfl rfl (NL (TN ?_))))))))))
  obtain ⟨o1, e2, h⟩ := bnd h
  refine WC.cutX (fun e w => ∃  (M : Mem), e = [(0, S p0)] ∧ St w0 M0 M [] w ∧ some (.inl ()) = some o1) [] ?_ ?_ (trivial)
  ·
   refine BL (WC.loopP (fun m e w => ∃ (n3 : Int) (M : Mem), e = [(0, S p0), (3, I n3)] ∧ St w0 M0 M [] w ∧ R_TokenText_L1 p0 m n3 = some o1) FU [(0, _), (3, _)] ⟨rfl, rfl, trivial⟩ ⟨_, _, rfl, H, e2⟩ ?_)
   rintro m4 e w ⟨n3, M, rfl, H, e2⟩
   rcases m4 with _ | m4
   · rw [R_TokenText_L1] at e2; cases e2
   rw [R_TokenText_L1] at e2
   refine SQ (SQ (RG (MV rfl rfl (MV rfl rfl (ST (Ex.lenStr Tryz.underlying9 rfl) rfl (ST (Ex.lss rfl rfl) rfl (NL (TN ?_))))))))
   refine WC.condB rfl (fun hk5 => ?_) (fun hk5 => ?_)
   ·
    replace hk5 : n3 < (p0.length : Int) := of_decide_eq_true hk5
    rw [if_pos hk5] at e2
    refine SK (TN (SQ (BL (SQ ?_))))
    obtain ⟨c6, hxc6, e2⟩ := bnd e2
    obtain ⟨b7, hx8, e2⟩ := bnd e2
    refine RG (MV rfl rfl (MV rfl rfl (ST (Ex.idxStrC Tryz.underlying9 rfl rfl hxc6) rfl (WR.call H (R_TokenByte_ct hx8) rfl trivial (Wn.none rfl) rfl ?_))))
    intro v13 M w H hle hR
    obtain rfl := hR
    refine ST (Ex.not rfl) rfl (NL (TN ?_))
    refine WC.condB rfl (fun hk9 => ?_) (fun hk9 => ?_)
    ·
     replace hk9 : b7 = false := by simpa using hk9
     subst hk9
     rw [if_neg Bool.false_ne_true] at e2
     refine SQ (RG (AS rfl rfl (NL (TN (RT ?_)))))
     obtain rfl := Option.some.inj e2
     try dsimp only at h
     obtain rfl := Option.some.inj h
     exact WQ.ret1 rfl rfl H.ext rfl
    ·
     replace hk9 : b7 = true := by simpa using hk9
     subst hk9
     rw [if_pos rfl] at e2
     refine SK (IB (TN ?_))
     obtain ⟨n10, hxn10, e2⟩ := bnd e2
     refine RG (MV rfl rfl (ST (Ex.addC rfl rfl hxn10) rfl (AS rfl rfl (NL ?_))))
     exact WQ.againP m4 [(0, _), (3, _)] ⟨rfl, rfl, trivial⟩ ⟨_, _, rfl, H, e2⟩ (Nat.lt_succ_self _)
   ·
    replace hk5 : ¬ (n3 < (p0.length : Int)) := of_decide_eq_false hk5
    rw [if_neg hk5] at e2
    refine WC.exit (WQ.thenExit (WQ.thenExit (WQ.exitHere ?_)))
    exact WQ.meetN [(0, _)] ⟨rfl, trivial⟩ ⟨_, rfl, H, e2⟩
  ·
   rintro e w ⟨M, rfl, H, q11⟩
   obtain rfl := Option.some.inj q11
   try dsimp only at h
   refine TN (SQ ?_)
   obtain ⟨b12, hx13, h⟩ := bnd h
   refine RG (MV rfl rfl (ST (Ex.lenStr Tryz.underlying9 rfl) rfl (WR.call H (R_In_ct hx13) rfl trivial (Wn.none rfl) rfl ?_)))
   intro v17 M w H hle hR
   obtain rfl := hR
   refine AS rfl rfl (NL (TN (RT ?_)))
   obtain rfl := Option.some.inj h
   exact WQ.ret1 rfl rfl H.ext rfl
end Go.Proofs.YtegkhjbajijidaaGreatDoor
end
section
namespace Go.Proofs.YtegkhjbajijidaaGreatDoor
open Go Go.RowKit Go.Ph Go.Ph.Pl Go.Ph.Pf
theorem R_SameMedia_ct {p0 : (List UInt8 × List UInt8 × List (List UInt8 × List UInt8))} {p1 : (List UInt8 × List UInt8 × List (List UInt8 × List UInt8))} {vp0_2 : Value} {vp1_2 : Value} {r : Bool} (h : R_SameMedia p0 p1 = some r) : Ct Tryz.prog 16 [Value.agg #[S p0.1, S p0.2.1, vp0_2], Value.agg #[S p1.1, S p1.2.1, vp1_2]] (fun M => SlS M 2 xenc47 vp0_2 p0.2.2 ∧ SlS M 2 xenc47 vp1_2 p1.2.2) (fun v M => v = Value.bool r) := by
  refine Ct.of Tryz.func16 (enters Tryz.func16 (by kernel_rfl) rfl) rfl rfl rfl ?_
  intro w0 M0 H hp
  obtain ⟨hp0_2, hp1_2⟩ := hp
  unfold R_SameMedia at h
  refine SQ (RG (WR.box [_, _, _] H rfl rfl (Wn.none rfl) rfl ?_))
  intro bk2 w H
  refine WR.box [_, _, _] H rfl rfl (Wn.none rfl) rfl ?_
  intro bk3 w H
  refine AS rfl rfl (NL (TN (SQ (SQ ?_))))
  obtain ⟨o1, e2, h⟩ := bnd h
  refine WC.cutX (fun e w => ∃ (b3 : Bool) (M : Mem), e = [(2, ptr bk2 0), (3, ptr bk3 0), (26, Value.bool b3)] ∧ St w0 M0 M [.blk bk2 (.cells #[S p0.1, S p0.2.1, vp0_2] 24), .blk bk3 (.cells #[S p1.1, S p1.2.1, vp1_2] 24)] w ∧ SlS M 2 xenc47 vp0_2 p0.2.2 ∧ SlS M 2 xenc47 vp1_2 p1.2.2 ∧ some b3 = some o1) [] ?_ ?_ (trivial)
  ·
   refine RG (ST (Ex.fieldAddr Tryz.underlying24 rfl Tryz.sizeOf9 (by decide) rfl) rfl (ST (Ex.load1 H rfl (by repeat first | exact kMh | apply kMt) Tryz.isAgg9 (by rfl)) rfl ?_))
   refine ST (Ex.fieldAddr Tryz.underlying24 rfl Tryz.sizeOf9 (by decide) rfl) rfl (ST (Ex.load1 H rfl (by repeat first | exact kMh | apply kMt) Tryz.isAgg9 (by rfl)) rfl ?_)
   by_cases hk4 : p0.1 = p1.1
   ·
    rw [if_pos hk4] at e2
    by_cases hk5 : p0.2.1 = p1.2.1
    ·
     rw [if_pos hk5] at e2
     refine WR.stepE (v' := .bool false) (Ex.strNeqC rfl rfl) (congrArg Value.bool (by rw [decide_eq_true hk4]; rfl)) (Wn.none rfl) rfl rfl ?_
     refine MV rfl rfl (SG (Ex.fieldAddr Tryz.underlying24 rfl Tryz.sizeOf9 (by decide) rfl) rfl rfl rfl (SG (Ex.load1 H rfl (by repeat first | exact kMh | apply kMt) Tryz.isAgg9 (by rfl)) rfl rfl rfl ?_))
     refine SG (Ex.fieldAddr Tryz.underlying24 rfl Tryz.sizeOf9 (by decide) rfl) rfl rfl rfl (SG (Ex.load1 H rfl (by repeat first | exact kMh | apply kMt) Tryz.isAgg9 (by rfl)) rfl rfl rfl ?_)
     refine WR.stepE (v' := .bool false) (Ex.strNeqC rfl rfl) (congrArg Value.bool (by rw [decide_eq_true hk5]; rfl)) (Wn.some rfl rfl rfl) rfl rfl ?_
     refine PF rfl rfl rfl (MV rfl rfl (SG (Ex.fieldAddr Tryz.underlying24 rfl Tryz.sizeOf22 (by decide) rfl) rfl rfl rfl (SG (Ex.load1 H rfl (by repeat first | exact kMh | apply kMt) Tryz.isAgg22 (by rfl)) rfl rfl rfl ?_)))
     refine SG (Ex.lenSlS Tryz.underlying22 hp0_2 rfl) rfl rfl rfl (SG (Ex.fieldAddr Tryz.underlying24 rfl Tryz.sizeOf22 (by decide) rfl) rfl rfl rfl (SG (Ex.load1 H rfl (by repeat first | exact kMh | apply kMt) Tryz.isAgg22 (by rfl)) rfl rfl rfl ?_))
     refine SG (Ex.lenSlS Tryz.underlying22 hp1_2 rfl) rfl rfl rfl (SG (Ex.neqC rfl rfl) rfl rfl rfl (PF rfl rfl rfl (NL ?_)))
     exact WQ.meetN [(2, _), (3, _), (26, _)] ⟨rfl, rfl, rfl, trivial⟩ ⟨_, _, rfl, (H.pick (L' := [.blk bk2 (.cells #[S p0.1, S p0.2.1, vp0_2] 24), .blk bk3 (.cells #[S p1.1, S p1.2.1, vp1_2] 24)]) (by repeat first | exact kPn | refine kPc (by repeat first | exact .head | apply Rem.tail) ?_)), hp0_2, hp1_2, e2⟩
    ·
     rw [if_neg hk5] at e2
     refine WR.stepE (v' := .bool false) (Ex.strNeqC rfl rfl) (congrArg Value.bool (by rw [decide_eq_true hk4]; rfl)) (Wn.none rfl) rfl rfl ?_
     refine MV rfl rfl (SG (Ex.fieldAddr Tryz.underlying24 rfl Tryz.sizeOf9 (by decide) rfl) rfl rfl rfl (SG (Ex.load1 H rfl (by repeat first | exact kMh | apply kMt) Tryz.isAgg9 (by rfl)) rfl rfl rfl ?_))
     refine SG (Ex.fieldAddr Tryz.underlying24 rfl Tryz.sizeOf9 (by decide) rfl) rfl rfl rfl (SG (Ex.load1 H rfl (by repeat first | exact kMh | apply kMt) Tryz.isAgg9 (by rfl)) rfl rfl rfl ?_)
     refine WR.stepE (v' := .bool true) (Ex.strNeqC rfl rfl) (congrArg Value.bool (by rw [decide_eq_false hk5]; rfl)) (Wn.some rfl rfl rfl) rfl rfl ?_
     refine PF rfl rfl rfl (MV rfl rfl (WR.skipN 7 rfl rfl (PT rfl rfl rfl (NL ?_))))
     exact WQ.meetN [(2, _), (3, _), (26, _)] ⟨rfl, rfl, rfl, trivial⟩ ⟨_, _, rfl, (H.pick (L' := [.blk bk2 (.cells #[S p0.1, S p0.2.1, vp0_2] 24), .blk bk3 (.cells #[S p1.1, S p1.2.1, vp1_2] 24)]) (by repeat first | exact kPn | refine kPc (by repeat first | exact .head | apply Rem.tail) ?_)), hp0_2, hp1_2, e2⟩
   ·
    rw [if_neg hk4] at e2
    refine WR.stepE (v' := .bool true) (Ex.strNeqC rfl rfl) (congrArg Value.bool (by rw [decide_eq_false hk4]; rfl)) (Wn.none rfl) rfl rfl ?_
    refine MV rfl rfl (WR.skipN 5 rfl rfl (PT rfl rfl rfl (MV rfl rfl (WR.skipN 7 rfl rfl (PT rfl rfl rfl (NL ?_))))))
    exact WQ.meetN [(2, _), (3, _), (26, _)] ⟨rfl, rfl, rfl, trivial⟩ ⟨_, _, rfl, (H.pick (L' := [.blk bk2 (.cells #[S p0.1, S p0.2.1, vp0_2] 24), .blk bk3 (.cells #[S p1.1, S p1.2.1, vp1_2] 24)]) (by repeat first | exact kPn | refine kPc (by repeat first | exact .head | apply Rem.tail) ?_)), hp0_2, hp1_2, e2⟩
  ·
   rintro e w ⟨b3, M, rfl, H, hp0_2, hp1_2, q6⟩
   obtain rfl := Option.some.inj q6
   refine TN ?_
   refine WC.condB rfl (fun hk7 => ?_) (fun hk7 => ?_)
   ·
    subst hk7
    rw [if_pos rfl] at h
    refine SQ (RG (AS rfl rfl (NL (TN (RT ?_)))))
    obtain rfl := Option.some.inj h
    exact WQ.ret1 rfl rfl H.ext rfl
   ·
    subst hk7
    rw [if_neg Bool.false_ne_true] at h
    refine SK (TN (SQ (SQ (RG (AS rfl rfl (NL (TN ?_)))))))
    obtain ⟨o8, e9, h⟩ := bnd h
    refine WC.cutX (fun e w => ∃  (M : Mem), e = [] ∧ St w0 M0 M [] w ∧ some (.inl ()) = some o8) [] ?_ ?_ (trivial)
    ·
     refine BL (WC.loopP (fun m e w => ∃ (n10 : Int) (M : Mem), e = [(2, ptr bk2 0), (3, ptr bk3 0), (5, I n10)] ∧ St w0 M0 M [.blk bk2 (.cells #[S p0.1, S p0.2.1, vp0_2] 24), .blk bk3 (.cells #[S p1.1, S p1.2.1, vp1_2] 24)] w ∧ SlS M 2 xenc47 vp0_2 p0.2.2 ∧ SlS M 2 xenc47 vp1_2 p1.2.2 ∧ R_SameMedia_L1 p0 p1 m n10 = some o8) FU [(2, _), (3, _), (5, _)] ⟨rfl, rfl, rfl, trivial⟩ ⟨_, _, rfl, H, hp0_2, hp1_2, e9⟩ ?_)
     rintro m11 e w ⟨n10, M, rfl, H, hp0_2, hp1_2, e9⟩
     rcases m11 with _ | m11
     · rw [R_SameMedia_L1] at e9; cases e9
     rw [R_SameMedia_L1] at e9
     refine SQ (SQ (RG (MV rfl rfl (ST (Ex.fieldAddr Tryz.underlying24 rfl Tryz.sizeOf22 (by decide) rfl) rfl (ST (Ex.load1 H rfl (by repeat first | exact kMh | apply kMt) Tryz.isAgg22 (by rfl)) rfl ?_)))))
     refine ST (Ex.lenSlS Tryz.underlying22 hp0_2 rfl) rfl (ST (Ex.lss rfl rfl) rfl (NL (TN ?_)))
     refine WC.condB rfl (fun hk12 => ?_) (fun hk12 => ?_)
     ·
      replace hk12 : n10 < (p0.2.2.length : Int) := of_decide_eq_true hk12
      rw [if_pos hk12] at e9
      refine SK (TN (SQ (BL (SQ ?_))))
      obtain ⟨a13, hxa13, e9⟩ := bnd e9
      obtain ⟨bk37, o37, ha37, hc37⟩ := hp0_2.atC hxa13
      obtain ⟨a14, hxa14, e9⟩ := bnd e9
      obtain ⟨bk42, o42, ha42, hc42⟩ := hp1_2.atC hxa14
      refine WC.cutP (fun e w => ∃  (M : Mem), e = [(2, ptr bk2 0), (3, ptr bk3 0), (5, I n10), (44, Value.bool (!decide (a13.1 = a14.1 ∧ a13.2 = a14.2)))] ∧ St w0 M0 M [.blk bk2 (.cells #[S p0.1, S p0.2.1, vp0_2] 24), .blk bk3 (.cells #[S p1.1, S p1.2.1, vp1_2] 24)] w ∧ SlS M 2 xenc47 vp0_2 p0.2.2 ∧ SlS M 2 xenc47 vp1_2 p1.2.2) ?_ ?_
      ·
       refine WC.draw (m := 11) rfl rfl H ?_
       intro w H
       refine WA.take (i := 0) rfl (by kernel_rfl) (by kernel_rfl) (by kernel_rfl) (fun _ => Ex.fieldAddr Tryz.underlying24 rfl Tryz.sizeOf22 (by decide) rfl) (Wn.none rfl) rfl rfl (fun _ _ => rfl) (WA.take (i := 2) rfl (by kernel_rfl) (by kernel_rfl) (by kernel_rfl) (fun _ => Ex.move rfl) (Wn.none rfl) rfl rfl (fun _ _ => rfl) (WA.take (i := 5) rfl (by kernel_rfl) (by kernel_rfl) (by kernel_rfl) (fun _ => Ex.fieldAddr Tryz.underlying24 rfl Tryz.sizeOf22 (by decide) rfl) (Wn.none rfl) rfl rfl (fun _ _ => rfl) (WA.take (i := 7) rfl (by kernel_rfl) (by kernel_rfl) (by kernel_rfl) (fun _ => Ex.move rfl) (Wn.none rfl) rfl rfl (fun _ _ => rfl) ?_)))
       refine WA.two (i := 1) (j := 6) (by kernel_rfl) rfl rfl ?_ ?_
       ·
        refine ST (Ex.load1 H rfl (by repeat first | exact kMh | apply kMt) Tryz.isAgg22 (by rfl)) rfl ?_
        refine NA (WA.take (i := 3) rfl (by kernel_rfl) (by kernel_rfl) (by kernel_rfl) (fun _ => Ex.idxAt ha37 Tryz.underlying22 Tryz.sizeOf47 rfl rfl) (Wn.none rfl) rfl rfl (fun _ _ => rfl) (WA.takeM (i := 6) [4] rfl (by kernel_rfl) (by kernel_rfl) (by kernel_rfl) (Ex.load1 H rfl (by repeat first | exact kMh | apply kMt) Tryz.isAgg22 (by rfl)) (Wn.none rfl) rfl rfl (fun _ _ => rfl) ?_))
        refine WA.take (i := 8) rfl (by kernel_rfl) (by kernel_rfl) (by kernel_rfl) (fun _ => Ex.idxAt ha42 Tryz.underlying22 Tryz.sizeOf47 rfl rfl) (Wn.none rfl) rfl rfl (fun _ _ => rfl) (WA.takeM (i := 4) [9] rfl (by kernel_rfl) (by kernel_rfl) (by kernel_rfl) (Ex.loadAggM H rfl hc37 Tryz.isAgg47 Tryz.sizeOf47 (by rfl)) (Wn.none rfl) rfl rfl (fun _ _ => rfl) ?_)
        refine WA.seq (fuel := 0) [9, 10] rfl (by kernel_rfl) (ST (Ex.loadAggM H rfl hc42 Tryz.isAgg47 Tryz.sizeOf47 (by rfl)) rfl ?_)
        refine ST (Ex.neqAggC rfl rfl (by kernel_rfl) (xeq47 a13.1 a14.1 a13.2 a14.2)) rfl (NA (WA.done (by kernel_rfl) ?_))
        exact WQ.meetP [(2, _), (3, _), (5, _), (44, _)] ⟨rfl, rfl, rfl, rfl, trivial⟩ ⟨_, rfl, H, hp0_2, hp1_2⟩
       ·
        refine ST (Ex.load1 H rfl (by repeat first | exact kMh | apply kMt) Tryz.isAgg22 (by rfl)) rfl ?_
        refine NA (WA.take (i := 8) rfl (by kernel_rfl) (by kernel_rfl) (by kernel_rfl) (fun _ => Ex.idxAt ha42 Tryz.underlying22 Tryz.sizeOf47 rfl rfl) (Wn.none rfl) rfl rfl (fun _ _ => rfl) (WA.takeM (i := 1) [9] rfl (by kernel_rfl) (by kernel_rfl) (by kernel_rfl) (Ex.load1 H rfl (by repeat first | exact kMh | apply kMt) Tryz.isAgg22 (by rfl)) (Wn.none rfl) rfl rfl (fun _ _ => rfl) ?_))
        refine WA.take (i := 3) rfl (by kernel_rfl) (by kernel_rfl) (by kernel_rfl) (fun _ => Ex.idxAt ha37 Tryz.underlying22 Tryz.sizeOf47 rfl rfl) (Wn.none rfl) rfl rfl (fun _ _ => rfl) (WA.takeM (i := 4) [9] rfl (by kernel_rfl) (by kernel_rfl) (by kernel_rfl) (Ex.loadAggM H rfl hc37 Tryz.isAgg47 Tryz.sizeOf47 (by rfl)) (Wn.none rfl) rfl rfl (fun _ _ => rfl) ?_)
        refine WA.seq (fuel := 0) [9, 10] rfl (by kernel_rfl) (ST (Ex.loadAggM H rfl hc42 Tryz.isAgg47 Tryz.sizeOf47 (by rfl)) rfl ?_)
        refine ST (Ex.neqAggC rfl rfl (by kernel_rfl) (xeq47 a13.1 a14.1 a13.2 a14.2)) rfl (NA (WA.done (by kernel_rfl) ?_))
        exact WQ.meetP [(2, _), (3, _), (5, _), (44, _)] ⟨rfl, rfl, rfl, rfl, trivial⟩ ⟨_, rfl, H, hp0_2, hp1_2⟩
      ·
       rintro e w ⟨M, rfl, H, hp0_2, hp1_2⟩
       refine TN ?_
       refine WC.condB rfl (fun hk15 => ?_) (fun hk15 => ?_)
       ·
        replace hk15 : ¬ (a13.1 = a14.1 ∧ a13.2 = a14.2) := of_not_decide hk15
        rw [if_neg hk15] at e9
        refine SQ (RG (AS rfl rfl (NL (TN (RT ?_)))))
        obtain rfl := Option.some.inj e9
        try dsimp only at h
        obtain rfl := Option.some.inj h
        exact WQ.ret1 rfl rfl H.ext rfl
       ·
        replace hk15 : a13.1 = a14.1 ∧ a13.2 = a14.2 := of_not_decide' hk15
        rw [if_pos hk15] at e9
        refine SK (IB (TN ?_))
        obtain ⟨n16, hxn16, e9⟩ := bnd e9
        refine RG (MV rfl rfl (ST (Ex.addC rfl rfl hxn16) rfl (AS rfl rfl (NL ?_))))
        exact WQ.againP m11 [(2, _), (3, _), (5, _)] ⟨rfl, rfl, rfl, trivial⟩ ⟨_, _, rfl, H, hp0_2, hp1_2, e9⟩ (Nat.lt_succ_self _)
     ·
      replace hk12 : ¬ (n10 < (p0.2.2.length : Int)) := of_decide_eq_false hk12
      rw [if_neg hk12] at e9
      refine WC.exit (WQ.thenExit (WQ.thenExit (WQ.exitHere ?_)))
      exact WQ.meetN [] trivial ⟨_, rfl, (H.pick (L' := []) (by repeat first | exact kPn | refine kPc (by repeat first | exact .head | apply Rem.tail) ?_)), e9⟩
    ·
     rintro e w ⟨M, rfl, H, q17⟩
     obtain rfl := Option.some.inj q17
     try dsimp only at h
     refine TN (SQ (RG (AS rfl rfl (NL (TN (RT ?_))))))
     obtain rfl := Option.some.inj h
     exact WQ.ret1 rfl rfl H.ext rfl
end Go.Proofs.YtegkhjbajijidaaGreatDoor
end
section
namespace Go.Proofs.YtegkhjbajijidaaGreatDoor
open Go Go.RowKit Go.Ph Go.Ph.Pl Go.Ph.Pf
end Go.Proofs.YtegkhjbajijidaaGreatDoor
end
section
namespace Go.Proofs.YtegkhjbajijidaaGreatDoor
open Go Go.RowKit Go.Ph Go.Ph.Pl Go.Ph.Pf
theorem L_MediaPieceOrder_ct {p0 : List UInt8} {p1 : List UInt8} {r : Bool} (h : L_MediaPieceOrder p0 p1 = some r) : Ct Tryz.prog 8 [S p0, S p1] (fun M => GlF (fun w => ∃ tp p, w.var? Tryz.prog "strconv.ErrRange" = some #[.iface tp p]) M ∧ GlF (fun w => ∃ tp p, w.var? Tryz.prog "strconv.ErrSyntax" = some #[.iface tp p]) M ∧ GlF (fun w => ∃ m, w.cell? ⟨2, 0, none⟩ = some (.int .i64 m)) M ∧ GlF (fun w => Lib.TabIs Tryz.prog w "internal/strconv.uint64pow10" .u64 Lib.pow10Tab) M ∧ Tabs M) (fun v M => v = Value.bool r) := by
  refine Ct.of Tryz.func8 (enters Tryz.func8 (by kernel_rfl) rfl) rfl rfl rfl ?_
  intro w0 M0 H hp
  obtain ⟨hg_errR, hg_errS, hg_maxl, hg_pow10, hg_tabs⟩ := hp
  unfold L_MediaPieceOrder at h
  refine SQ (RG (AS rfl rfl (NL (TN (SQ (SQ ?_))))))
  obtain ⟨b1, hx2, h⟩ := bnd h
  refine RG (WR.call H (L_mediaExample_ct hx2) rfl ⟨hg_errR, hg_errS, hg_maxl, hg_pow10, hg_tabs⟩ (Wn.none rfl) rfl ?_)
  intro v9 M w H hle hR
  replace hg_errR := hg_errR.mono hle
  replace hg_errS := hg_errS.mono hle
  replace hg_maxl := hg_maxl.mono hle
  replace hg_pow10 := hg_pow10.mono hle
  replace hg_tabs := hg_tabs.mono hle
  obtain rfl := hR
  refine ST (Ex.not rfl) rfl (NL (TN ?_))
  refine WC.condB rfl (fun hk3 => ?_) (fun hk3 => ?_)
  ·
   replace hk3 : b1 = false := by simpa using hk3
   subst hk3
   rw [if_neg Bool.false_ne_true] at h
   refine SQ (RG (AS rfl rfl (NL (TN (RT ?_)))))
   obtain rfl := Option.some.inj h
   exact WQ.ret1 rfl rfl H.ext rfl
  ·
   replace hk3 : b1 = true := by simpa using hk3
   subst hk3
   rw [if_pos rfl] at h
   refine SK (TN (SQ (SQ ?_)))
   obtain ⟨o4, e5, h⟩ := bnd h
   refine WC.cutX (fun e w => ∃ (b6 : Bool) (M : Mem), e = [(0, S p0), (1, S p1), (18, Value.bool b6)] ∧ St w0 M0 M [] w ∧ GlF (fun w => ∃ tp p, w.var? Tryz.prog "strconv.ErrRange" = some #[.iface tp p]) M ∧ GlF (fun w => ∃ tp p, w.var? Tryz.prog "strconv.ErrSyntax" = some #[.iface tp p]) M ∧ GlF (fun w => ∃ m, w.cell? ⟨2, 0, none⟩ = some (.int .i64 m)) M ∧ GlF (fun w => Lib.TabIs Tryz.prog w "internal/strconv.uint64pow10" .u64 Lib.pow10Tab) M ∧ Tabs M ∧ some b6 = some o4) [] ?_ ?_ (trivial)
   ·
    obtain ⟨b7, hx8, e5⟩ := bnd e5
    refine RG (MV rfl rfl (WR.call H (R_TokenText_ct hx8) rfl trivial (Wn.none rfl) rfl ?_))
    intro v12 M w H hle hR
    replace hg_errR := hg_errR.mono hle
    replace hg_errS := hg_errS.mono hle
    replace hg_maxl := hg_maxl.mono hle
    replace hg_pow10 := hg_pow10.mono hle
    replace hg_tabs := hg_tabs.mono hle
    obtain rfl := hR
    refine ST (Ex.not rfl) rfl (MV rfl rfl ?_)
    rcases b7 with _ | _
    ·
     rw [if_neg Bool.false_ne_true] at e5
     refine WR.skipN 3 rfl rfl (PT rfl rfl rfl (NL ?_))
     exact WQ.meetN [(0, _), (1, _), (18, _)] ⟨rfl, rfl, rfl, trivial⟩ ⟨_, _, rfl, H, hg_errR, hg_errS, hg_maxl, hg_pow10, hg_tabs, e5⟩
    ·
     rw [if_pos rfl] at e5
     obtain ⟨b9, hx10, e5⟩ := bnd e5
     refine SG (Ex.move rfl) rfl rfl rfl (WR.call H (R_TokenText_ct hx10) rfl trivial (Wn.some rfl rfl rfl) rfl ?_)
     intro v16 M w H hle hR
     replace hg_errR := hg_errR.mono hle
     replace hg_errS := hg_errS.mono hle
     replace hg_maxl := hg_maxl.mono hle
     replace hg_pow10 := hg_pow10.mono hle
     replace hg_tabs := hg_tabs.mono hle
     obtain rfl := hR
     refine SG (Ex.not rfl) rfl rfl rfl (PF rfl rfl rfl (NL ?_))
     exact WQ.meetN [(0, _), (1, _), (18, _)] ⟨rfl, rfl, rfl, trivial⟩ ⟨_, _, rfl, H, hg_errR, hg_errS, hg_maxl, hg_pow10, hg_tabs, e5⟩
   ·
    rintro e w ⟨b6, M, rfl, H, hg_errR, hg_errS, hg_maxl, hg_pow10, hg_tabs, q11⟩
    obtain rfl := Option.some.inj q11
    refine TN ?_
    refine WC.condB rfl (fun hk12 => ?_) (fun hk12 => ?_)
    ·
     subst hk12
     rw [if_pos rfl] at h
     refine SQ (RG (AS rfl rfl (NL (TN (RT ?_)))))
     obtain rfl := Option.some.inj h
     exact WQ.ret1 rfl rfl H.ext rfl
    ·
     subst hk12
     rw [if_neg Bool.false_ne_true] at h
     refine SK (TN (SQ ?_))
     obtain ⟨s13, hxs13, h⟩ := bnd h
     obtain ⟨s14, hxs14, h⟩ := bnd h
     obtain ⟨s15, hxs15, h⟩ := bnd h
     obtain ⟨⟨⟨s16, s17, l18⟩, ⟨n19, n20⟩⟩, hx21, h⟩ := bnd h
     try dsimp only at h
     refine RG (MV rfl rfl (ST (Ex.strAddC rfl rfl hxs13) rfl (ST (Ex.strAddC rfl rfl hxs14) rfl (MV rfl rfl (ST (Ex.strAddC rfl rfl hxs15) rfl (WR.call H (media_Parse_ct hx21) rfl ⟨hg_errR, hg_errS, hg_maxl, hg_pow10, hg_tabs⟩ (Wn.none rfl) rfl ?_))))))
     intro v25 M w H hle hR
     replace hg_errR := hg_errR.mono hle
     replace hg_errS := hg_errS.mono hle
     replace hg_maxl := hg_maxl.mono hle
     replace hg_pow10 := hg_pow10.mono hle
     replace hg_tabs := hg_tabs.mono hle
     try dsimp only at hR
     obtain ⟨x25_0_2, rfl, f25_0_2⟩ := hR
     refine MV rfl rfl (ST (Ex.extract rfl rfl) rfl (ST (Ex.extract rfl rfl) rfl (WR.alloc [_, _, _] H Tryz.zeroValue24 rfl (Wn.none rfl) rfl ?_)))
     intro bk5 w H
     refine WR.alloc [_, _] H Tryz.zeroValue27 rfl (Wn.none rfl) rfl ?_
     intro bk6 w H
     refine WR.store [_, _, _] H rfl rfl rfl (by repeat first | exact .head | apply Upd.tail) Tryz.sizeOf24 rfl (by rfl) (by simp only [List.all_cons, List.all_nil, (f25_0_2).one.2]; rfl) (Wn.none rfl) ?_
     intro w H
     refine WR.store [_, _] H rfl rfl rfl (by repeat first | exact .head | apply Upd.tail) Tryz.sizeOf27 rfl (by rfl) (by rfl) (Wn.none rfl) ?_
     intro w H
     refine NL (TN (SQ ?_))
     obtain ⟨s22, hxs22, h⟩ := bnd h
     obtain ⟨s23, hxs23, h⟩ := bnd h
     obtain ⟨s24, hxs24, h⟩ := bnd h
     obtain ⟨⟨⟨s25, s26, l27⟩, ⟨n28, n29⟩⟩, hx30, h⟩ := bnd h
     try dsimp only at h
     refine RG (MV rfl rfl (ST (Ex.strAddC rfl rfl hxs22) rfl (ST (Ex.strAddC rfl rfl hxs23) rfl (MV rfl rfl (ST (Ex.strAddC rfl rfl hxs24) rfl (WR.call H (media_Parse_ct hx30) rfl ⟨hg_errR, hg_errS, hg_maxl, hg_pow10, hg_tabs⟩ (Wn.none rfl) rfl ?_))))))
     intro v34 M w H hle hR
     replace hg_errR := hg_errR.mono hle
     replace hg_errS := hg_errS.mono hle
     replace hg_maxl := hg_maxl.mono hle
     replace hg_pow10 := hg_pow10.mono hle
     replace hg_tabs := hg_tabs.mono hle
     replace f25_0_2 := f25_0_2.mono hle
     try dsimp only at hR
     obtain ⟨x34_0_2, rfl, f34_0_2⟩ := hR
     refine MV rfl rfl (ST (Ex.extract rfl rfl) rfl (ST (Ex.extract rfl rfl) rfl (WR.alloc [_, _, _] H Tryz.zeroValue24 rfl (Wn.none rfl) rfl ?_)))
     intro bk7 w H
     refine WR.alloc [_, _] H Tryz.zeroValue27 rfl (Wn.none rfl) rfl ?_
     intro bk8 w H
     refine WR.store [_, _, _] H rfl rfl rfl (by repeat first | exact .head | apply Upd.tail) Tryz.sizeOf24 rfl (by rfl) (by simp only [List.all_cons, List.all_nil, (f34_0_2).one.2]; rfl) (Wn.none rfl) ?_
     intro w H
     refine WR.store [_, _] H rfl rfl rfl (by repeat first | exact .head | apply Upd.tail) Tryz.sizeOf27 rfl (by rfl) (by rfl) (Wn.none rfl) ?_
     intro w H
     refine NL (TN (SQ ?_))
     obtain ⟨o31, e32, h⟩ := bnd h
     refine WC.cutX (fun e w => ∃ (b33 : Bool) (M : Mem), e = [(4, Value.bool b33)] ∧ St w0 M0 M [] w ∧ GlF (fun w => ∃ tp p, w.var? Tryz.prog "strconv.ErrRange" = some #[.iface tp p]) M ∧ GlF (fun w => ∃ tp p, w.var? Tryz.prog "strconv.ErrSyntax" = some #[.iface tp p]) M ∧ GlF (fun w => ∃ m, w.cell? ⟨2, 0, none⟩ = some (.int .i64 m)) M ∧ GlF (fun w => Lib.TabIs Tryz.prog w "internal/strconv.uint64pow10" .u64 Lib.pow10Tab) M ∧ Tabs M ∧ some b33 = some o31) [] ?_ ?_ (trivial)
     ·
      refine RG (ST (Ex.fieldAddr Tryz.underlying27 rfl Tryz.sizeOf3 (by decide) rfl) rfl (ST (Ex.load1 H rfl (by repeat first | exact kMh | apply kMt) Tryz.isAgg3 (by rfl)) rfl ?_))
      by_cases hk34 : n19 = (0 : Int)
      ·
       rw [if_pos hk34] at e32
       by_cases hk35 : n28 = (0 : Int)
       ·
        rw [if_pos hk35] at e32
        obtain ⟨b36, hx37, e32⟩ := bnd e32
        rcases b36 with _ | _
        ·
         rw [if_neg Bool.false_ne_true] at e32
         refine WR.stepE (v' := .bool true) (Ex.eql rfl rfl) (congrArg Value.bool (decide_eq_true hk34)) (Wn.none rfl) rfl rfl (MV rfl rfl (SG (Ex.fieldAddr Tryz.underlying27 rfl Tryz.sizeOf3 (by decide) rfl) rfl rfl rfl (SG (Ex.load1 H rfl (by repeat first | exact kMh | apply kMt) Tryz.isAgg3 (by rfl)) rfl rfl rfl ?_)))
         refine WR.stepE (v' := .bool true) (Ex.eql rfl rfl) (congrArg Value.bool (decide_eq_true hk35)) (Wn.some rfl rfl rfl) rfl rfl (PT rfl rfl rfl (MV rfl rfl (SG (Ex.loadAgg H rfl (by repeat first | exact kMh | apply kMt) Tryz.isAgg24 Tryz.sizeOf24 (by rfl)) rfl rfl rfl ?_)))
         refine SG (Ex.loadAgg H rfl (by repeat first | exact kMh | apply kMt) Tryz.isAgg24 Tryz.sizeOf24 (by rfl)) rfl rfl rfl ?_
         refine WR.call H (R_SameMedia_ct hx37) rfl ⟨f25_0_2, f34_0_2⟩ (Wn.some rfl rfl rfl) rfl ?_
         intro v48 M w H hle hR
         replace hg_errR := hg_errR.mono hle
         replace hg_errS := hg_errS.mono hle
         replace hg_maxl := hg_maxl.mono hle
         replace hg_pow10 := hg_pow10.mono hle
         replace hg_tabs := hg_tabs.mono hle
         replace f25_0_2 := f25_0_2.mono hle
         replace f34_0_2 := f34_0_2.mono hle
         obtain rfl := hR
         refine PT rfl rfl rfl (MV rfl rfl (WR.skipN 4 rfl rfl (PF rfl rfl rfl (MV rfl rfl (WR.skipN 9 rfl rfl (PF rfl rfl rfl (AS rfl rfl (NL ?_))))))))
         exact WQ.meetN [(4, _)] ⟨rfl, trivial⟩ ⟨_, _, rfl, (H.pick (L' := []) (by repeat first | exact kPn | refine kPc (by repeat first | exact .head | apply Rem.tail) ?_)), hg_errR, hg_errS, hg_maxl, hg_pow10, hg_tabs, e32⟩
        ·
         rw [if_pos rfl] at e32
         by_cases hk38 : (l18.length : Int) = (1 : Int)
         ·
          rw [if_pos hk38] at e32
          obtain ⟨a39, hxa39, e32⟩ := bnd e32
          obtain ⟨bk59, o59, ha59, hc59⟩ := f25_0_2.atC hxa39
          obtain ⟨s40, hxs40, e32⟩ := bnd e32
          refine WR.stepE (v' := .bool true) (Ex.eql rfl rfl) (congrArg Value.bool (decide_eq_true hk34)) (Wn.none rfl) rfl rfl (MV rfl rfl (SG (Ex.fieldAddr Tryz.underlying27 rfl Tryz.sizeOf3 (by decide) rfl) rfl rfl rfl (SG (Ex.load1 H rfl (by repeat first | exact kMh | apply kMt) Tryz.isAgg3 (by rfl)) rfl rfl rfl ?_)))
          refine WR.stepE (v' := .bool true) (Ex.eql rfl rfl) (congrArg Value.bool (decide_eq_true hk35)) (Wn.some rfl rfl rfl) rfl rfl (PT rfl rfl rfl (MV rfl rfl (SG (Ex.loadAgg H rfl (by repeat first | exact kMh | apply kMt) Tryz.isAgg24 Tryz.sizeOf24 (by rfl)) rfl rfl rfl ?_)))
          refine SG (Ex.loadAgg H rfl (by repeat first | exact kMh | apply kMt) Tryz.isAgg24 Tryz.sizeOf24 (by rfl)) rfl rfl rfl ?_
          refine WR.call H (R_SameMedia_ct hx37) rfl ⟨f25_0_2, f34_0_2⟩ (Wn.some rfl rfl rfl) rfl ?_
          intro v48 M w H hle hR
          replace hg_errR := hg_errR.mono hle
          replace hg_errS := hg_errS.mono hle
          replace hg_maxl := hg_maxl.mono hle
          replace hg_pow10 := hg_pow10.mono hle
          replace hg_tabs := hg_tabs.mono hle
          replace f25_0_2 := f25_0_2.mono hle
          replace f34_0_2 := f34_0_2.mono hle
          replace hc59 := hc59.mono hle
          obtain rfl := hR
          refine PT rfl rfl rfl (MV rfl rfl (SG (Ex.fieldAddr Tryz.underlying24 rfl Tryz.sizeOf22 (by decide) rfl) rfl rfl rfl (SG (Ex.load1 H rfl (by repeat first | exact kMh | apply kMt) Tryz.isAgg22 (by rfl)) rfl rfl rfl ?_)))
          refine SG (Ex.lenSlS Tryz.underlying22 f25_0_2 rfl) rfl rfl rfl (WR.stepE (v' := .bool true) (Ex.eql rfl rfl) (congrArg Value.bool (decide_eq_true hk38)) (Wn.some rfl rfl rfl) rfl rfl (PT rfl rfl rfl (MV rfl rfl (SG (Ex.fieldAddr Tryz.underlying24 rfl Tryz.sizeOf22 (by decide) rfl) rfl rfl rfl (SG (Ex.load1 H rfl (by repeat first | exact kMh | apply kMt) Tryz.isAgg22 (by rfl)) rfl rfl rfl ?_)))))
          refine SG (Ex.idxAt ha59 Tryz.underlying22 Tryz.sizeOf47 rfl rfl) rfl rfl rfl (SG (Ex.fieldAddr Tryz.underlying47 rfl Tryz.sizeOf9 (by decide) rfl) rfl rfl rfl (SG (Ex.loadM H rfl (hc59.at (j := 1) rfl) Tryz.isAgg9) rfl rfl rfl (SG (Ex.move rfl) rfl rfl rfl (SG (Ex.move rfl) rfl rfl rfl (SG (Ex.strAddC rfl rfl hxs40) rfl rfl rfl (SG (Ex.strEql rfl rfl) rfl rfl rfl (PT rfl rfl rfl (AS rfl rfl (NL ?_)))))))))
          exact WQ.meetN [(4, _)] ⟨rfl, trivial⟩ ⟨_, _, rfl, (H.pick (L' := []) (by repeat first | exact kPn | refine kPc (by repeat first | exact .head | apply Rem.tail) ?_)), hg_errR, hg_errS, hg_maxl, hg_pow10, hg_tabs, e32⟩
         ·
          rw [if_neg hk38] at e32
          refine WR.stepE (v' := .bool true) (Ex.eql rfl rfl) (congrArg Value.bool (decide_eq_true hk34)) (Wn.none rfl) rfl rfl (MV rfl rfl (SG (Ex.fieldAddr Tryz.underlying27 rfl Tryz.sizeOf3 (by decide) rfl) rfl rfl rfl (SG (Ex.load1 H rfl (by repeat first | exact kMh | apply kMt) Tryz.isAgg3 (by rfl)) rfl rfl rfl ?_)))
          refine WR.stepE (v' := .bool true) (Ex.eql rfl rfl) (congrArg Value.bool (decide_eq_true hk35)) (Wn.some rfl rfl rfl) rfl rfl (PT rfl rfl rfl (MV rfl rfl (SG (Ex.loadAgg H rfl (by repeat first | exact kMh | apply kMt) Tryz.isAgg24 Tryz.sizeOf24 (by rfl)) rfl rfl rfl ?_)))
          refine SG (Ex.loadAgg H rfl (by repeat first | exact kMh | apply kMt) Tryz.isAgg24 Tryz.sizeOf24 (by rfl)) rfl rfl rfl ?_
          refine WR.call H (R_SameMedia_ct hx37) rfl ⟨f25_0_2, f34_0_2⟩ (Wn.some rfl rfl rfl) rfl ?_
          intro v48 M w H hle hR
          replace hg_errR := hg_errR.mono hle
          replace hg_errS := hg_errS.mono hle
          replace hg_maxl := hg_maxl.mono hle
          replace hg_pow10 := hg_pow10.mono hle
          replace hg_tabs := hg_tabs.mono hle
          replace f25_0_2 := f25_0_2.mono hle
          replace f34_0_2 := f34_0_2.mono hle
          obtain rfl := hR
          refine PT rfl rfl rfl (MV rfl rfl (SG (Ex.fieldAddr Tryz.underlying24 rfl Tryz.sizeOf22 (by decide) rfl) rfl rfl rfl (SG (Ex.load1 H rfl (by repeat first | exact kMh | apply kMt) Tryz.isAgg22 (by rfl)) rfl rfl rfl ?_)))
          refine SG (Ex.lenSlS Tryz.underlying22 f25_0_2 rfl) rfl rfl rfl (WR.stepE (v' := .bool false) (Ex.eql rfl rfl) (congrArg Value.bool (decide_eq_false hk38)) (Wn.some rfl rfl rfl) rfl rfl (PT rfl rfl rfl (MV rfl rfl (WR.skipN 9 rfl rfl (PF rfl rfl rfl (AS rfl rfl (NL ?_)))))))
          exact WQ.meetN [(4, _)] ⟨rfl, trivial⟩ ⟨_, _, rfl, (H.pick (L' := []) (by repeat first | exact kPn | refine kPc (by repeat first | exact .head | apply Rem.tail) ?_)), hg_errR, hg_errS, hg_maxl, hg_pow10, hg_tabs, e32⟩
       ·
        rw [if_neg hk35] at e32
        refine WR.stepE (v' := .bool true) (Ex.eql rfl rfl) (congrArg Value.bool (decide_eq_true hk34)) (Wn.none rfl) rfl rfl (MV rfl rfl (SG (Ex.fieldAddr Tryz.underlying27 rfl Tryz.sizeOf3 (by decide) rfl) rfl rfl rfl (SG (Ex.load1 H rfl (by repeat first | exact kMh | apply kMt) Tryz.isAgg3 (by rfl)) rfl rfl rfl ?_)))
        refine WR.stepE (v' := .bool false) (Ex.eql rfl rfl) (congrArg Value.bool (decide_eq_false hk35)) (Wn.some rfl rfl rfl) rfl rfl (PT rfl rfl rfl (MV rfl rfl (WR.skipN 3 rfl rfl (PF rfl rfl rfl (MV rfl rfl (WR.skipN 4 rfl rfl (PF rfl rfl rfl (MV rfl rfl (WR.skipN 9 rfl rfl (PF rfl rfl rfl (AS rfl rfl (NL ?_))))))))))))
        exact WQ.meetN [(4, _)] ⟨rfl, trivial⟩ ⟨_, _, rfl, (H.pick (L' := []) (by repeat first | exact kPn | refine kPc (by repeat first | exact .head | apply Rem.tail) ?_)), hg_errR, hg_errS, hg_maxl, hg_pow10, hg_tabs, e32⟩
      ·
       rw [if_neg hk34] at e32
       refine WR.stepE (v' := .bool false) (Ex.eql rfl rfl) (congrArg Value.bool (decide_eq_false hk34)) (Wn.none rfl) rfl rfl (MV rfl rfl (WR.skipN 3 rfl rfl (PF rfl rfl rfl (MV rfl rfl (WR.skipN 3 rfl rfl (PF rfl rfl rfl (MV rfl rfl (WR.skipN 4 rfl rfl (PF rfl rfl rfl (MV rfl rfl (WR.skipN 9 rfl rfl (PF rfl rfl rfl (AS rfl rfl (NL ?_))))))))))))))
       exact WQ.meetN [(4, _)] ⟨rfl, trivial⟩ ⟨_, _, rfl, (H.pick (L' := []) (by repeat first | exact kPn | refine kPc (by repeat first | exact .head | apply Rem.tail) ?_)), hg_errR, hg_errS, hg_maxl, hg_pow10, hg_tabs, e32⟩
     ·
      rintro e w ⟨b33, M, rfl, H, hg_errR, hg_errS, hg_maxl, hg_pow10, hg_tabs, q41⟩
      obtain rfl := Option.some.inj q41
      refine TN (RT ?_)
      obtain rfl := Option.some.inj h
      exact WQ.ret1 rfl rfl H.ext rfl
end Go.Proofs.YtegkhjbajijidaaGreatDoor
end
section
namespace Go.Ph.Md
open Go.Ph.Pl Go.Ph.Pf
open Go.Ph.Chs (vld lower)
abbrev Big (l : List UInt8) : Prop := l.length ≤ 140737488355328
theorem foldI {α σ γ : Type} {L : Nat → σ → Int → Option γ} (l : List α) (F : σ → α → σ) (fin : σ → γ) (I : Nat → σ → Prop)
    (hend : ∀ m s, I l.length s → L (m + 1) s (l.length : Int) = some (fin s))
    (hstep : ∀ m s i a, l[i]? = some a → I i s → I (i + 1) (F s a) ∧ L (m + 1) s (i : Int) = L m (F s a) ((i + 1 : Nat) : Int)) :
    ∀ (d i : Nat) (s : σ) (m : Nat), l.length - i = d → i ≤ l.length → d < m → I i s → L m s (i : Int) = some (fin ((l.drop i).foldl F s)) := by
  intro d
  induction d with
  | zero =>
    intro i s m h1 h2 h3 hI
    obtain ⟨m, rfl⟩ : ∃ k, m = k + 1 := ⟨m - 1, by omega⟩
    obtain rfl : i = l.length := by omega
    rw [hend m s hI, List.drop_length]; rfl
  | succ d ih =>
    intro i s m h1 h2 h3 hI
    obtain ⟨m, rfl⟩ : ∃ k, m = k + 1 := ⟨m - 1, by omega⟩
    have hi : i < l.length := by omega
    obtain ⟨hI', hL⟩ := hstep m s i l[i] (List.getElem?_eq_getElem hi) hI
    rw [hL, ih (i + 1) _ m (by omega) (by omega) (by omega) hI', List.drop_eq_getElem_cons hi]; rfl
theorem foldI0 {α σ γ : Type} {L : Nat → σ → Int → Option γ} (l : List α) (F : σ → α → σ) (fin : σ → γ) (I : Nat → σ → Prop) (hl : l.length ≤ 9223372036854775807)
    (hend : ∀ m s, I l.length s → L (m + 1) s (l.length : Int) = some (fin s))
    (hstep : ∀ m s i a, l[i]? = some a → I i s → I (i + 1) (F s a) ∧ L (m + 1) s (i : Int) = L m (F s a) ((i + 1 : Nat) : Int)) (s : σ) (h0 : I 0 s) : L FU s 0 = some (fin (l.foldl F s)) := by
  have := foldI l F fin I hend hstep l.length 0 s FU (by omega) (by omega) (FU_gt hl) h0
  simpa using this
theorem allB {p : UInt8 → Prop} (h : ∀ n, n < 256 → p (UInt8.ofNat n)) (c : UInt8) : p c := by
  have := h c.toNat c.toNat_lt
  rwa [UInt8.ofNat_toNat] at this
theorem failed_eq (a b : Int) : basic_Failed (a, b) = some (!decide (a = 0)) := rfl
theorem fault_eq (a b : Int) : basic_Fault a b = some (a, b) := by unfold basic_Fault; rfl
theorem none_eq : basic_None = some (0, 0) := rfl
theorem rin_eq (a b c : Int) : R_In a b c = some (decide (b ≤ a ∧ a ≤ c)) := by
  unfold R_In
  by_cases h : b ≤ a <;> simp [h]
def tkB (c : UInt8) : Bool := decide (33 ≤ c.toNat) && (decide (c.toNat ≤ 126) && !([40, 41, 60, 62, 64, 44, 59, 58, 92, 34, 47, 91, 93, 63, 61, 42, 37, 39] : List UInt8).any (fun x => decide (x = c)))
theorem tokenByte_eq (c : UInt8) : media_tokenByte c = some (tkB c) := by
  refine allB (p := fun c => media_tokenByte c = some (tkB c)) ?_ c
  decide +kernel
theorem rtokenByte_eq (c : UInt8) : R_TokenByte c = some (tkB c) := by
  refine allB (p := fun c => R_TokenByte c = some (tkB c)) ?_ c
  decide +kernel
theorem all_eq (l : List UInt8) (hl : Big l) (g : UInt8 → Option Bool) (p : UInt8 → Bool) (hg : ∀ c, g c = some (p c)) : basic_All l g = some (l.all p) := by
  unfold basic_All
  rw [scan0 (L := basic_All_L1 l g) (l := l) (p := fun c => !p c) (stop := .inl ()) (r := .inr false) (FU_gt (by omega)) (fun m => by rw [basic_All_L1, if_neg (by omega)]) (fun m i h => by
    rw [basic_All_L1, if_pos (by omega), idx_nat, List.getElem?_eq_getElem h, chk_succ (by have := hl; omega)]
    simp only [bsome, hg]
    cases p l[i] <;> simp)]
  simp only [bsome]
  rw [List.all_eq_not_any_not]
  cases l.any (fun c => !p c) <;> simp
def tkT (l : List UInt8) : Bool := l.all tkB && decide (1 ≤ l.length ∧ l.length ≤ 60)
theorem token_eq (l : List UInt8) (hl : Big l) : media_token l = some (tkT l) := by
  unfold media_token tkT
  by_cases h : l = []
  · subst h; rfl
  · have hpos : 1 ≤ l.length := by cases l <;> simp_all
    rw [if_neg h]
    by_cases h2 : l.length ≤ 60
    · rw [if_pos (by omega), all_eq l hl _ tkB tokenByte_eq]
      simp [hpos, h2]
    · rw [if_neg (by omega)]
      simp [h2]
theorem rtoken_eq (l : List UInt8) (hl : Big l) : R_TokenText l = some (tkT l) := by
  unfold R_TokenText
  rw [scan0 (L := R_TokenText_L1 l) (l := l) (p := fun c => !tkB c) (stop := .inl ()) (r := .inr false) (FU_gt (by omega)) (fun m => by rw [R_TokenText_L1, if_neg (by omega)]) (fun m i h => by
    rw [R_TokenText_L1, if_pos (by omega), idx_nat, List.getElem?_eq_getElem h, chk_succ (by have := hl; omega)]
    simp only [bsome, rtokenByte_eq]
    cases tkB l[i] <;> simp), bsome]
  unfold tkT
  rw [List.all_eq_not_any_not]
  cases l.any (fun c => !tkB c)
  · rw [if_neg (by decide)]
    dsimp only
    rw [rin_eq, bsome]
    congr 1
    rw [Bool.not_false, Bool.true_and]
    exact decide_eq_decide.2 (by omega)
  · rfl
theorem tkT_len {l : List UInt8} (h : tkT l = true) : 1 ≤ l.length ∧ l.length ≤ 60 := by
  unfold tkT at h
  rw [Bool.and_eq_true, decide_eq_true_eq] at h
  exact h.2
theorem tkT_all {l : List UInt8} (h : tkT l = true) : ∀ c ∈ l, tkB c = true := by
  unfold tkT at h
  rw [Bool.and_eq_true, List.all_eq_true] at h
  exact h.1
theorem same_eq {a b : List UInt8} (ha : Big a) (hb : Big b) : basic_Same a b = some (decide (lower a = lower b)) := by
  unfold basic_Same; unfold Big at ha hb; rw [if_pos ⟨by omega, by omega⟩]
abbrev Par : Type := List UInt8 × List UInt8
abbrev Med : Type := List UInt8 × List UInt8 × List Par
abbrev BigP (l : List Par) : Prop := ∀ x ∈ l, Big x.1 ∧ Big x.2
abbrev BigM (m : Med) : Prop := Big m.1 ∧ Big m.2.1 ∧ BigP m.2.2
def smP (x y : Par) : Bool := decide (lower y.1 = lower x.1)
def pf1 (pre : List Par) (x : Par) : Int := if tkT x.1 = true ∧ x.1.length ≤ 20 then (if pre.any (smP x) = true then 7 else if 500 < x.2.length then 1 else if vld x.2 = true then 0 else 5) else 10
def pfz (pre : List Par) : List Par → Int × Int
  | [] => (0, 0)
  | x :: r => if pf1 pre x = 0 then pfz (pre ++ [x]) r else (pf1 pre x, (pre.length : Int))
theorem pfz_zero : ∀ {l pre : List Par}, (pfz pre l).1 = 0 → pfz pre l = (0, 0)
  | [], pre, h => rfl
  | x :: r, pre, h => by
    rw [pfz] at h ⊢
    by_cases hx : pf1 pre x = 0
    · rw [if_pos hx] at h ⊢
      exact pfz_zero h
    · rw [if_neg hx] at h
      exact absurd h hx
theorem ffr {α : Type} {a : Int} (ha : a ≠ 0) (i : Int) (X : Int × Int) (u : α) : (if (if a = 0 then X else (a, i)).1 = 0 then (.inl u : α ⊕ (Int × Int)) else .inr (if a = 0 then X else (a, i))) = .inr (a, i) := by rw [if_neg ha, if_neg ha]
theorem indexF (l : List Par) (hl : l.length ≤ 1000) (f : Par → Option Bool) (p : Par → Bool) (hf : ∀ x ∈ l, f x = some (p x)) : slices_ContainsFunc_Param l f = some (l.any p) := by
  unfold slices_ContainsFunc_Param slices_IndexFunc_Param
  rcases scanP (fun m i => slices_IndexFunc_Param_L1 l f m i) l (fun i x => if p x = true then some (.inr (i : Int)) else none) (.inl ()) (fun m => by rw [slices_IndexFunc_Param_L1, if_neg (by omega)]) (fun m i h => by
    rw [slices_IndexFunc_Param_L1, if_pos (by omega), idx_nat, List.getElem?_eq_getElem h, bsome]
    have e : f (l[i].1, l[i].2) = some (p l[i]) := hf _ (List.getElem_mem h)
    rw [e, bsome, chk_succ (by omega), bsome]
    cases p l[i] <;> rfl) l.length 0 FU (by omega) (FU_gt (by omega)) (by omega) with ⟨j, hj, r, a1, a2, a3, a4⟩ | ⟨a1, a2⟩
  · rw [Int.natCast_zero] at a4
    have hp : p l[j] = true := by
      cases h : p l[j] with
      | true => rfl
      | false => rw [h, if_neg (by decide)] at a2; cases a2
    rw [hp, if_pos rfl] at a2
    cases a2
    rw [a4, bsome, bsome]
    rw [show l.any p = true from List.any_eq_true.2 ⟨_, List.getElem_mem hj, hp⟩, decide_eq_true (by omega)]
  · rw [Int.natCast_zero] at a2
    rw [a2, bsome, bsome]
    have : l.any p = false := by
      rw [List.any_eq_false]
      intro x hx hp
      obtain ⟨i, hi, rfl⟩ := List.getElem_of_mem hx
      have := a1 i hi (by omega)
      rw [hp, if_pos rfl] at this
      cases this
    rw [this]; rfl
theorem take_drop_cons {α : Type} {l : List α} {i : Nat} (h : i < l.length) : l.take (i + 1) = l.take i ++ [l[i]] := by
  rw [List.take_succ_eq_append_getElem h]
theorem valid_L1 (m0 : Med) (hl : m0.2.2.length ≤ 60) (hb : BigP m0.2.2) (n9 n10 : Int) : ∀ (d i m : Nat), m0.2.2.length - i ≤ d → d < m → i ≤ m0.2.2.length →
    media_Validate_L1 m0 m n9 n10 (i : Int) = some (if (pfz (m0.2.2.take i) (m0.2.2.drop i)).1 = 0 then .inl (n9, n10) else .inr (pfz (m0.2.2.take i) (m0.2.2.drop i))) := by
  obtain ⟨ty, sb, l⟩ := m0
  dsimp only at hl hb ⊢
  intro d
  induction d with
  | zero =>
    intro i m h1 h2 h3
    obtain ⟨m, rfl⟩ : ∃ k, m = k + 1 := ⟨m - 1, by omega⟩
    rw [media_Validate_L1, if_neg (by dsimp only; omega), List.drop_eq_nil_of_le (by omega)]; rfl
  | succ d ih =>
    intro i m h1 h2 h3
    obtain ⟨m, rfl⟩ : ∃ k, m = k + 1 := ⟨m - 1, by omega⟩
    by_cases hi : i < l.length
    · have hx := hb l[i] (List.getElem_mem hi)
      rw [media_Validate_L1]
      dsimp only
      rw [if_pos (by omega), idx_nat, List.getElem?_eq_getElem hi, bsome, List.drop_eq_getElem_cons hi, pfz, ← take_drop_cons hi]
      have hlen : (l.take i).length = i := by rw [List.length_take]; omega
      rw [hlen]
      unfold pf1
      rw [token_eq _ hx.1, bsome]
      by_cases c1 : tkT l[i].1 = true ∧ l[i].1.length ≤ 20
      · rw [if_pos c1, c1.1, if_pos rfl, bsome, decide_eq_false (by have := c1.2; omega), if_neg Bool.false_ne_true, cut_to rfl (by omega), bsome,
          indexF (l.take i) (by omega) _ (smP l[i]) (fun x hx' => by unfold media_Validate_1 smP; rw [same_eq (hb x (List.mem_of_mem_take hx')).1 hx.1]; rfl), bsome]
        by_cases c2 : (l.take i).any (smP l[i]) = true
        · rw [if_pos c2, if_pos c2, fault_eq, bsome, ffr (by decide)]
        · rw [if_neg c2, if_neg c2]
          by_cases c3 : 500 < l[i].2.length
          · rw [if_pos (by omega), if_pos c3, fault_eq, bsome, ffr (by decide)]
          · rw [if_neg (by omega), if_neg c3]
            unfold utf8_ValidString
            rw [if_pos (by omega), bsome]
            by_cases c4 : vld l[i].2 = true
            · rw [if_pos c4, if_pos c4, if_pos rfl, chk_succ (by omega), bsome]
              exact ih (i + 1) m (by omega) (by omega) (by omega)
            · rw [if_neg c4, if_neg c4, fault_eq, bsome, ffr (by decide)]
      · have e : (if tkT l[i].1 = true then some (decide ((20 : Int) < (l[i].1.length : Int))) else some true) = some true := by
          by_cases h : tkT l[i].1 = true
          · rw [if_pos h, decide_eq_true (by have := Nat.lt_of_not_le (fun h2 => c1 ⟨h, h2⟩); omega)]
          · rw [if_neg h]
        rw [if_neg c1, e, bsome, if_pos rfl, fault_eq, bsome, ffr (by decide)]
    · rw [media_Validate_L1, if_neg (by dsimp only; omega), List.drop_eq_nil_of_le (by omega)]; rfl
def valM (m : Med) : Int × Int := if tkT m.1 = true ∧ tkT m.2.1 = true then (if 60 < m.2.2.length then (2, -3) else pfz [] m.2.2) else (10, -2)
theorem tk2 (a b : Bool) : (if a = true then some (!b) else some true : Option Bool) = some (!(a && b)) := by cases a <;> simp
theorem validate_eq (m : Med) (hb : BigM m) : media_Validate m = some (valM m) := by
  unfold media_Validate valM
  rw [token_eq _ hb.1, bsome, token_eq _ hb.2.1, bsome, tk2, bsome]
  by_cases h : tkT m.1 = true ∧ tkT m.2.1 = true
  · rw [if_pos h, h.1, h.2, if_neg (by decide)]
    by_cases h6 : 60 < m.2.2.length
    · rw [if_pos (by omega), fault_eq, bsome, if_pos h6]
    · have := valid_L1 m (by omega) hb.2.2 0 0 m.2.2.length 0 FU (by omega) (by unfold FU; omega) (by omega)
      rw [Int.natCast_zero, List.drop_zero, List.take_zero] at this
      rw [if_neg (by omega), this, bsome, if_neg h6]
      by_cases hz : (pfz [] m.2.2).1 = 0
      · rw [if_pos hz]
        dsimp only
        rw [pfz_zero hz, none_eq, bsome]
      · rw [if_neg hz]
  · have : (tkT m.1 && tkT m.2.1) = false := by
      cases h1 : tkT m.1 <;> cases h2 : tkT m.2.1 <;> simp_all
    rw [this, if_pos (by decide), if_neg h, fault_eq, bsome]
theorem example_any {x : Option Bool} (ex : x = some true) {k : Option Bool} : (x.bind fun b => if b = true then k else some false) = k := by rw [ex, bsome, if_pos rfl]
end Go.Ph.Md
end
section
namespace Go.Ph.Md
open Go.Ph.Pl Go.Ph.Pf
open Go.Ph.Chs (vld lower)
def hexd : List UInt8 := [48, 49, 50, 51, 52, 53, 54, 55, 56, 57, 65, 66, 67, 68, 69, 70]
def hx (n : Nat) : UInt8 := hexd.getD n 0
theorem dgF_len : ∀ (m n : Nat), (dgF m n).length ≤ m
  | 0, n => Nat.le_refl _
  | m + 1, n => by
    rw [dgF]
    have := dgF_len m (n / 10)
    split
    · simp
    · rw [List.length_append, List.length_singleton]; omega
def esc (c : UInt8) : Option (List UInt8) := if c = 34 then some [92, 34] else if c = 92 then some [92, 92] else none
def q1 (c : UInt8) : List UInt8 := (esc c).getD [c]
def qt (p : List UInt8) : List UInt8 := p.flatMap q1
end Go.Ph.Md
end
section
namespace Go.Ph.Md
open Go.Ph.Pl Go.Ph.Pf
open Go.Ph.Chs (vld lower)
def pct1 (c : UInt8) : List UInt8 := if tkB c = true then [c] else [37, hx (c.toNat / 16), hx (c.toNat % 16)]
def pre8 : List UInt8 := [117, 116, 102, 56, 39, 39]
abbrev PS : Type := List (List UInt8) × List UInt8
def psS (st : PS) (c : UInt8) : PS := if st.2.length + (pct1 c).length ≤ 60 then (st.1, st.2 ++ pct1 c) else (st.1 ++ [st.2], pct1 c)
def psF (v : List UInt8) : PS := v.foldl psS ([], pre8)
def pieces (v : List UInt8) : List (List UInt8) := (psF v).1 ++ [(psF v).2]
def exU (n : List UInt8) (i : Nat) (p : List UInt8) : List UInt8 := [59, 32] ++ n ++ [42] ++ itoaP i ++ [42, 61] ++ p
def exT (n : List UInt8) : Nat → List (List UInt8) → List UInt8
  | _, [] => []
  | i, p :: r => exU n i p ++ exT n (i + 1) r
def prB (c : UInt8) : Bool := decide (32 ≤ c.toNat ∧ c.toNat ≤ 126)
def simp60 (v : List UInt8) : Bool := decide (v.length ≤ 60) && v.all prB
def paramT (x : Par) : List UInt8 :=
  if tkT x.2 = true then [59, 32] ++ x.1 ++ [61] ++ x.2 else if simp60 x.2 = true then [59, 32] ++ x.1 ++ [61, 34] ++ qt x.2 ++ [34] else exT x.1 0 (pieces x.2)
theorem flat_len {l : List Par} (h : ∀ x ∈ l, (paramT x).length ≤ 60000) : (l.flatMap paramT).length ≤ 60000 * l.length := by
  induction l with
  | nil => simp
  | cons x l ih =>
    have h1 := ih (fun y hy => h y (by simp [hy]))
    have h2 := h x (by simp)
    rw [List.flatMap_cons, List.length_append, List.length_cons, Nat.mul_succ]; omega
end Go.Ph.Md
end
section
namespace Go.Ph.Md
open Go.Ph.Pl Go.Ph.Pf
theorem ex_law : L_mediaExample = some true := by decide +kernel
end Go.Ph.Md
end
section
namespace Go.Ph.Md
open Go.Ph.Pl Go.Ph.Pf
open Go.Ph.Chs (vld lower)
theorem tw_take (p : UInt8 → Bool) : ∀ l : List UInt8, l.take (l.takeWhile p).length = l.takeWhile p
  | [] => rfl
  | c :: l => by
    cases h : p c with
    | true => rw [List.takeWhile_cons_of_pos h, List.length_cons, List.take_succ_cons, tw_take p l]
    | false => rw [List.takeWhile_cons_of_neg (by simp [h])]; rfl
theorem tw_drop (p : UInt8 → Bool) : ∀ l : List UInt8, l.drop (l.takeWhile p).length = l.dropWhile p
  | [] => rfl
  | c :: l => by
    cases h : p c with
    | true => rw [List.takeWhile_cons_of_pos h, List.dropWhile_cons_of_pos h, List.length_cons, List.drop_succ_cons, tw_drop p l]
    | false => rw [List.takeWhile_cons_of_neg (by simp [h]), List.dropWhile_cons_of_neg (by simp [h])]; rfl
theorem tw_len (p : UInt8 → Bool) (l : List UInt8) : (l.takeWhile p).length ≤ l.length := (List.takeWhile_sublist p).length_le
theorem dw_len (p : UInt8 → Bool) (l : List UInt8) : (l.dropWhile p).length ≤ l.length := (List.dropWhile_sublist p).length_le
theorem dw_head {p : UInt8 → Bool} : ∀ {l : List UInt8} {c : UInt8} {r : List UInt8}, l.dropWhile p = c :: r → p c = false
  | [], c, r, h => by cases h
  | d :: l, c, r, h => by
    cases hd : p d with
    | true => rw [List.dropWhile_cons_of_pos hd] at h; exact dw_head h
    | false => rw [List.dropWhile_cons_of_neg (by simp [hd])] at h; cases h; exact hd
theorem dw_id {p : UInt8 → Bool} {l : List UInt8} (h : ∀ c r, l = c :: r → p c = false) : l.dropWhile p = l := by
  cases l with
  | nil => rfl
  | cons c r => exact List.dropWhile_cons_of_neg (by simp [h c r rfl])
theorem scanW {L : Nat → Int → Option Int} (s : List UInt8) (p : UInt8 → Bool) (hend : ∀ m, L (m + 1) (s.length : Int) = some (s.length : Int))
    (hstep : ∀ m i (h : i < s.length), L (m + 1) (i : Int) = if p s[i] = true then L m ((i + 1 : Nat) : Int) else some (i : Int)) :
    ∀ (d i m : Nat), s.length - i ≤ d → d < m → i ≤ s.length → L m (i : Int) = some ((i + ((s.drop i).takeWhile p).length : Nat) : Int) := by
  intro d
  induction d with
  | zero =>
    intro i m h1 h2 h3
    obtain ⟨m, rfl⟩ : ∃ k, m = k + 1 := ⟨m - 1, by omega⟩
    obtain rfl : i = s.length := by omega
    rw [hend, List.drop_length]; rfl
  | succ d ih =>
    intro i m h1 h2 h3
    obtain ⟨m, rfl⟩ : ∃ k, m = k + 1 := ⟨m - 1, by omega⟩
    by_cases hi : i < s.length
    · rw [hstep m i hi, List.drop_eq_getElem_cons hi]
      cases h : p s[i] with
      | true => rw [if_pos rfl, ih (i + 1) m (by omega) (by omega) (by omega), List.takeWhile_cons_of_pos h, List.length_cons]; congr 2; omega
      | false => rw [if_neg (by decide), List.takeWhile_cons_of_neg (by simp [h])]; rfl
    · obtain rfl : i = s.length := by omega
      rw [hend, List.drop_length]; rfl
def blB (c : UInt8) : Bool := decide (c = 32) || decide (c = 9)
def tl (t : List UInt8) : List UInt8 := t.dropWhile blB
theorem tl_tl (t : List UInt8) : tl (tl t) = tl t := dw_id fun c r h => dw_head h
theorem tl_len (t : List UInt8) : (tl t).length ≤ t.length := dw_len _ _
theorem set_blank : strings_makeASCIISet [32, 9] = some ((List.range 256).map (fun n => decide (n = 32) || decide (n = 9)), true) := by decide +kernel
theorem contains_at (f : Nat → Bool) (c : UInt8) : strings_asciiSet_contains ((List.range 256).map f) c = some (f c.toNat) := by
  have hc := c.toNat_lt
  unfold strings_asciiSet_contains idxA
  rw [if_pos (by simp), idx_nat, List.getElem?_map, List.getElem?_range (by omega)]
  rfl
theorem blB_nat (c : UInt8) : (decide (c.toNat = 32) || decide (c.toNat = 9)) = blB c := by
  unfold blB
  rw [show decide (c.toNat = 32) = decide (c = 32) from decide_eq_decide.2 (u8_lit c 32).symm, show decide (c.toNat = 9) = decide (c = 9) from decide_eq_decide.2 (u8_lit c 9).symm]
theorem trimLA_eq : ∀ (k m : Nat) (l : List UInt8), l.length ≤ k → k < m → Big l → strings_trimLeftASCII_L1 ((List.range 256).map (fun n => decide (n = 32) || decide (n = 9))) m l = some (tl l)
  | k, m, l, h1, h2, h3 => by
    obtain ⟨m, rfl⟩ : ∃ k, m = k + 1 := ⟨m - 1, by omega⟩
    unfold tl
    cases l with
    | nil => rw [strings_trimLeftASCII_L1, if_neg (by simp)]; rfl
    | cons c r =>
      rw [strings_trimLeftASCII_L1, if_pos (by simp only [List.length_cons]; omega), show (0 : Int) = ((0 : Nat) : Int) from rfl, idx_nat]
      simp only [bsome, List.getElem?_cons_zero, contains_at, blB_nat]
      cases hc : blB c with
      | true =>
        rw [if_pos rfl, cut_from (i := 1) (a := 1) rfl (by simp)]
        simp only [bsome, List.drop_succ_cons, List.drop_zero]
        cases k with
        | zero => simp at h1
        | succ k => rw [trimLA_eq k m r (by simpa using h1) (by omega) (by simp only [Big, List.length_cons] at h3 ⊢; omega), List.dropWhile_cons_of_pos hc]; rfl
      | false => rw [if_neg (by simp), List.dropWhile_cons_of_neg (by simp [hc])]
theorem blanks_eq (t : List UInt8) (ht : Big t) : media_reader_blanks t = some (tl t) := by
  unfold media_reader_blanks strings_TrimLeft
  by_cases h : t = []
  · subst h; rfl
  · rw [if_neg h]
    simp only [bsome, show (decide (([32, 9] : List UInt8) = [])) = false from rfl, Bool.false_eq_true, if_false]
    rw [if_neg (by decide), bsome, if_neg (by decide), set_blank, bsome]
    dsimp only
    rw [chkA_ok List.length_replicate, bsome, chkA_ok (by rw [List.length_map, List.length_range]), bsome, if_pos rfl]
    unfold strings_trimLeftASCII
    rw [trimLA_eq t.length FU t (Nat.le_refl _) (FU_gt (by unfold Big at ht; omega)) ht, bsome, bsome]
    rfl
def pN (more : List UInt8) (c : UInt8) : Bool := tkB c || more.any (fun x => decide (x = c))
theorem read_1_eq (c : UInt8) : media_reader_read_1 c = some (pN [42] c) := by
  refine allB (p := fun c => media_reader_read_1 c = some (pN [42] c)) ?_ c
  decide +kernel
theorem value_1_eq (c : UInt8) : media_reader_value_1 c = some (pN [37, 39, 42] c) := by
  refine allB (p := fun c => media_reader_value_1 c = some (pN [37, 39, 42] c)) ?_ c
  decide +kernel
theorem take_eq (t : List UInt8) (ht : Big t) (f : UInt8 → Option Bool) (p : UInt8 → Bool) (hf : ∀ c, f c = some (p c)) : media_reader_take t f = some ((tl t).takeWhile p, (tl t).dropWhile p) := by
  unfold media_reader_take
  have hl := tl_len t
  have hw := tw_len p (tl t)
  unfold Big at ht
  rw [blanks_eq t ht, bsome]
  have := scanW (L := fun m i => media_reader_take_L1 f (tl t) m i) (tl t) p (fun m => by rw [media_reader_take_L1, if_neg (by omega), bsome, if_neg (by decide)]) (fun m i h => by
    rw [media_reader_take_L1, if_pos (by omega), idx_nat, List.getElem?_eq_getElem h, bsome, hf, bsome, bsome, chk_succ (by omega), bsome]) (tl t).length 0 FU (by omega) (FU_gt (by omega)) (by omega)
  rw [Int.natCast_zero, List.drop_zero, Nat.zero_add] at this
  rw [this, bsome, cut_to rfl hw, bsome, cut_from rfl hw, bsome, tw_take, tw_drop]
def sgn (c : UInt8) (t : List UInt8) : Option (List UInt8) := match tl t with | x :: r => if x = c then some r else none | [] => none
theorem sgn_len {c : UInt8} {t r : List UInt8} (h : sgn c t = some r) : r.length < t.length := by
  unfold sgn at h
  have := tl_len t
  cases ht : tl t with
  | nil => rw [ht] at h; cases h
  | cons x q =>
    rw [ht] at h this
    dsimp only at h
    split at h
    · cases h; rw [List.length_cons] at this; omega
    · cases h
theorem sign_eq (t : List UInt8) (ht : Big t) (c : UInt8) : media_reader_sign t c = some (match sgn c t with | some r => (true, r) | none => (false, tl t)) := by
  unfold media_reader_sign sgn
  rw [blanks_eq t ht, bsome]
  cases h : tl t with
  | nil => rfl
  | cons x r =>
    rw [if_neg (by simp), show (0 : Int) = ((0 : Nat) : Int) from rfl, idx_nat, List.getElem?_cons_zero, bsome, bsome]
    dsimp only
    by_cases hx : x = c
    · rw [decide_eq_true hx, if_neg (by decide), if_pos hx, cut_from (i := 1) (a := 1) rfl (by simp), bsome]; rfl
    · rw [decide_eq_false hx, if_pos (by decide), if_neg hx]
def qv : List UInt8 → Option (List UInt8 × List UInt8)
  | [] => none
  | c :: r => if c = 34 then some ([], r) else if c = 92 then (match r with | [] => none | d :: r2 => (qv r2).map fun p => (d :: p.1, p.2)) else (qv r).map fun p => (c :: p.1, p.2)
theorem qv_cons (c : UInt8) (r : List UInt8) : qv (c :: r) = if c = 34 then some ([], r) else if c = 92 then (match r with | [] => none | d :: r2 => (qv r2).map fun p => (d :: p.1, p.2)) else (qv r).map fun p => (c :: p.1, p.2) := by
  cases r with
  | nil => (conv => lhs; rw [qv]) <;> rfl
  | cons d r => rw [qv]
theorem qv_rest : ∀ (n : Nat) (t : List UInt8) (v r : List UInt8), t.length ≤ n → qv t = some (v, r) → r.length < t.length ∧ v.length ≤ t.length
  | n, [], v, r, hn, h => by cases h
  | 0, c :: t, v, r, hn, h => by simp at hn
  | n + 1, c :: t, v, r, hn, h => by
    rw [qv_cons] at h
    rw [List.length_cons] at hn ⊢
    by_cases h1 : c = 34
    · rw [if_pos h1] at h; cases h; exact ⟨by omega, by simp⟩
    · rw [if_neg h1] at h
      by_cases h2 : c = 92
      · rw [if_pos h2] at h
        cases t with
        | nil => cases h
        | cons d t =>
          obtain ⟨⟨v', r'⟩, h3, h4⟩ := Option.map_eq_some_iff.1 h
          dsimp only at h4
          cases h4
          have := qv_rest n t v' _ (by rw [List.length_cons] at hn; omega) h3
          rw [List.length_cons, List.length_cons]; omega
      · rw [if_neg h2] at h
        obtain ⟨⟨v', r'⟩, h3, h4⟩ := Option.map_eq_some_iff.1 h
        dsimp only at h4
        cases h4
        have := qv_rest n t v' _ (by omega) h3
        rw [List.length_cons]; omega
theorem value_L1 (s : List UInt8) (hs : s.length ≤ 1000000) : ∀ (d i m : Nat) (acc : List UInt8), s.length - i ≤ d → d < m → i ≤ s.length → acc.length ≤ i →
    ∃ o, media_reader_value_L1 m s acc (i : Int) = some o ∧ (match qv (s.drop i) with | some (v, r) => o = .inr (acc ++ v, true, r) | none => o = .inl s ∨ o = .inr ([], false, s)) := by
  intro d
  induction d using Nat.strongRecOn with
  | ind d ih =>
    intro i m acc h1 h2 h3 h4
    obtain ⟨m, rfl⟩ : ∃ k, m = k + 1 := ⟨m - 1, by omega⟩
    rw [media_reader_value_L1]
    by_cases hi : i < s.length
    · rw [if_pos (by omega), idx_nat, List.getElem?_eq_getElem hi, bsome, List.drop_eq_getElem_cons hi, qv_cons]
      by_cases c1 : s[i] = 34
      · rw [if_pos c1, if_pos c1, chk_succ (by omega), bsome, cut_from rfl (by omega), bsome]
        exact ⟨_, rfl, by simp⟩
      · rw [if_neg c1, if_neg c1]
        by_cases c2 : s[i] = 92
        · rw [if_pos c2, if_pos c2, chk_succ (by omega), bsome]
          by_cases he : i + 1 = s.length
          · rw [if_pos (by omega), List.drop_eq_nil_of_le (by omega)]
            exact ⟨_, rfl, .inr rfl⟩
          · have hi1 : i + 1 < s.length := by omega
            rw [if_neg (by omega), idx_nat, List.getElem?_eq_getElem hi1, bsome, app_ok (by simp; omega), bsome, chk_succ (by omega), bsome, List.drop_eq_getElem_cons hi1]
            dsimp only
            obtain ⟨o, ho, hq⟩ := ih (d - 2) (by omega) (i + 1 + 1) m (acc ++ [s[i + 1]]) (by omega) (by omega) (by omega) (by simp; omega)
            refine ⟨o, ho, ?_⟩
            cases hz : qv (s.drop (i + 1 + 1)) with
            | none => rw [hz] at hq; exact hq
            | some p => rw [hz] at hq; dsimp only [Option.map_some]; dsimp only at hq; rw [hq, List.append_assoc]; rfl
        · rw [if_neg c2, if_neg c2, app_ok (by simp; omega), bsome, chk_succ (by omega), bsome]
          obtain ⟨o, ho, hq⟩ := ih (d - 1) (by omega) (i + 1) m (acc ++ [s[i]]) (by omega) (by omega) (by omega) (by simp; omega)
          refine ⟨o, ho, ?_⟩
          cases hz : qv (s.drop (i + 1)) with
          | none => rw [hz] at hq; exact hq
          | some p => rw [hz] at hq; dsimp only [Option.map_some]; dsimp only at hq; rw [hq, List.append_assoc]; rfl
    · rw [if_neg (by omega), List.drop_eq_nil_of_le (by omega)]
      exact ⟨_, rfl, .inl rfl⟩
def vl (t : List UInt8) : Option (List UInt8 × List UInt8) := match sgn 34 t with | some r => qv r | none => some ((tl t).takeWhile (pN [37, 39, 42]), (tl t).dropWhile (pN [37, 39, 42]))
theorem vl_len {t v r : List UInt8} (h : vl t = some (v, r)) : r.length ≤ t.length ∧ v.length ≤ t.length := by
  unfold vl at h
  cases hs : sgn 34 t with
  | some q =>
    rw [hs] at h
    have h1 := sgn_len hs
    have h2 := qv_rest _ _ _ _ (Nat.le_refl _) h
    omega
  | none =>
    rw [hs] at h
    cases h
    have h1 := tl_len t
    have h2 := tw_len (pN [37, 39, 42]) (tl t)
    have h3 := dw_len (pN [37, 39, 42]) (tl t)
    omega
theorem value_eq (t : List UInt8) (ht : t.length ≤ 1000000) : (∃ v r, vl t = some (v, r) ∧ media_reader_value t = some (v, true, r)) ∨ (vl t = none ∧ ∃ r, media_reader_value t = some ([], false, r)) := by
  unfold media_reader_value vl
  rw [sign_eq t (by unfold Big; omega)]
  cases hs : sgn 34 t with
  | some q =>
    have h1 := sgn_len hs
    dsimp only
    rw [bsome]
    dsimp only
    rw [if_pos rfl]
    obtain ⟨o, ho, hq⟩ := value_L1 q (by omega) q.length 0 FU [] (by omega) (FU_gt (by omega)) (by omega) (by simp)
    rw [Int.natCast_zero] at ho
    rw [List.drop_zero] at hq
    rw [ho, bsome]
    cases hz : qv q with
    | some p =>
      obtain ⟨v, r⟩ := p
      rw [hz] at hq
      dsimp only at hq
      subst hq
      exact .inl ⟨v, r, rfl, rfl⟩
    | none =>
      rw [hz] at hq
      rcases hq with rfl | rfl
      · exact .inr ⟨rfl, _, rfl⟩
      · exact .inr ⟨rfl, _, rfl⟩
  | none =>
    dsimp only
    rw [bsome]
    dsimp only
    have := tl_len t
    rw [if_neg (by decide), take_eq (tl t) (by unfold Big; omega) _ _ value_1_eq, bsome, tl_tl]
    exact .inl ⟨_, _, rfl, rfl⟩
end Go.Ph.Md
end
section
namespace Go.Ph.Md
open Go.Ph.Pl Go.Ph.Pf
open Go.Ph.Chs (vld lower)
abbrev dg (c : UInt8) : Bool := decide (48 ≤ c.toNat ∧ c.toNat ≤ 57)
abbrev digs (s : List UInt8) : Bool := s.all dg
@[irreducible] def dgt (c : UInt8) : Nat := c.toNat - 48
theorem dgt_eq (c : UInt8) : dgt c = c.toNat - 48 := by unfold dgt; rfl
@[irreducible] def mad (n d : Nat) : Nat := n * 10 + d
theorem mad_eq (n d : Nat) : mad n d = n * 10 + d := by unfold mad; rfl
def dvA : Nat → List UInt8 → Nat
  | n, [] => n
  | n, c :: r => dvA (mad n (dgt c)) r
theorem dvA_nil (n : Nat) : dvA n [] = n := by rw [dvA]
theorem dvA_cons (n : Nat) (c : UInt8) (r : List UInt8) : dvA n (c :: r) = dvA (n * 10 + (c.toNat - 48)) r := by rw [dvA, mad_eq, dgt_eq]
abbrev dv (s : List UInt8) : Int := (dvA 0 s : Nat)
theorem dvA_lt : ∀ (s : List UInt8) (n : Nat), digs s = true → dvA n s < (n + 1) * 10 ^ s.length
  | [], n, h => by simp [dvA_nil]
  | c :: r, n, h => by
    simp only [digs, List.all_cons, Bool.and_eq_true, dg, decide_eq_true_eq] at h
    have := dvA_lt r (n * 10 + (c.toNat - 48)) h.2
    rw [dvA_cons, List.length_cons, Nat.pow_succ]
    refine Nat.lt_of_lt_of_le this ?_
    rw [Nat.mul_comm (10 ^ r.length) 10, ← Nat.mul_assoc]
    exact Nat.mul_le_mul_right _ (by omega)
theorem parse_dig : ∀ (s : List UInt8) (n k : Nat), digs s = true → n < 10 ^ k → k + s.length ≤ 9 → Lib.parseUint10 n s = .ok (dvA n s)
  | [], n, k, h, hn, hk => by rw [dvA_nil]; rfl
  | c :: r, n, k, h, hn, hk => by
    simp only [digs, List.all_cons, Bool.and_eq_true, dg, decide_eq_true_eq] at h
    simp only [List.length_cons] at hk
    have hp : (10 : Nat) ^ k ≤ 10 ^ 8 := Nat.pow_le_pow_right (by omega) (by omega)
    have h8 : (10 : Nat) ^ 8 = 100000000 := rfl
    rw [Lib.parseUint10, if_pos h.1, if_neg (by omega), if_neg (by omega), dvA_cons]
    exact parse_dig r _ (k + 1) h.2 (by rw [Nat.pow_succ]; omega) (by omega)
theorem dv_lt {s : List UInt8} (h : digs s = true) (h9 : s.length ≤ 9) : dv s < 1000000000 := by
  have hlt := dvA_lt s 0 h
  have hp : (10 : Nat) ^ s.length ≤ 10 ^ 9 := Nat.pow_le_pow_right (by omega) h9
  have h10 : (10 : Nat) ^ 9 = 1000000000 := rfl
  unfold dv
  omega
theorem atoi_dig {s : List UInt8} (h : digs s = true) (h0 : s ≠ []) (h9 : s.length ≤ 9) : atoiP s = (dv s, true) := by
  have hlt := dv_lt h h9
  unfold dv at hlt
  obtain ⟨c, r, rfl⟩ : ∃ c r, s = c :: r := by cases s with | nil => exact absurd rfl h0 | cons c r => exact ⟨c, r, rfl⟩
  have hc : 48 ≤ c.toNat ∧ c.toNat ≤ 57 := by
    simp only [digs, List.all_cons, Bool.and_eq_true, dg, decide_eq_true_eq] at h; exact h.1
  have h1 : Lib.parseMag (c :: r) = .ok (dvA 0 (c :: r)) := by
    unfold Lib.parseMag
    rw [if_neg (by simp), parse_dig (c :: r) 0 0 h (by simp) (by simpa using h9)]
  have h2 : Lib.atoiAll (c :: r) = .ok (dv (c :: r)) := by
    simp only [Lib.atoiAll]
    rw [if_neg (by omega), h1]
    simp only
    rw [if_neg (by omega), if_neg (by omega), if_neg (by omega)]
  unfold atoiP
  rw [h2]
theorem atoiAll_range {s : List UInt8} {v : Int} (h : Lib.atoiAll s = .ok v) : -9223372036854775808 ≤ v ∧ v ≤ 9223372036854775807 := by
  unfold Lib.atoiAll at h
  split at h
  · cases h
  · dsimp only at h
    split at h
    · cases h
    · cases h
    · split at h
      · cases h
      · split at h
        · cases h
        · rename_i h1 h2
          cases h
          split <;> omega
theorem atoi_range {s : List UInt8} (h : (atoiP s).2 = true) : -9223372036854775808 ≤ (atoiP s).1 ∧ (atoiP s).1 ≤ 9223372036854775807 := by
  unfold atoiP at h ⊢
  split at h
  · rename_i v hv
    exact atoiAll_range hv
  · cases h
  · cases h
def numP (s : List UInt8) : Option Int := if (atoiP s).2 = true ∧ itoaP (atoiP s).1 = s ∧ 0 ≤ (atoiP s).1 ∧ (atoiP s).1 ≤ 1099511627776 then some (atoiP s).1 else none
def numR (s : List UInt8) : Option Int := if (digs s = true ∧ 1 ≤ s.length ∧ s.length ≤ 9) ∧ itoaP (dv s) = s then some (dv s) else none
theorem bnumber_eq (s : List UInt8) (hs : s.length ≤ 1000000) : basic_Number s 1099511627776 = some (match numP s with | some n => (n, true) | none => (0, false)) := by
  unfold basic_Number strconv_Atoi numP
  rw [if_pos (by omega), bsome]
  have hr := @atoi_range s
  obtain ⟨⟨n, b⟩, he⟩ : ∃ p, atoiP s = p := ⟨_, rfl⟩
  rw [he] at hr ⊢
  dsimp only at hr ⊢
  cases b with
  | false => rw [if_neg (by decide), bsome, if_pos rfl, if_neg (fun h => by cases h.1)]
  | true =>
    have hr' := hr rfl
    unfold strconv_Itoa
    rw [if_pos rfl, if_pos hr', bsome]
    by_cases h1 : itoaP n = s
    · rw [if_pos h1]
      by_cases h2 : n < 0
      · rw [if_pos h2, bsome, if_pos rfl, if_neg (fun h => by omega)]
      · rw [if_neg h2, bsome]
        by_cases h3 : 1099511627776 < n
        · rw [decide_eq_true h3, if_pos rfl, if_neg (fun h => by omega)]
        · rw [decide_eq_false h3, if_neg (by decide), if_pos ⟨rfl, h1, by omega, by omega⟩]
    · rw [if_neg h1, bsome, if_pos rfl, if_neg (fun h => h1 h.2.1)]
theorem dgF_dig : ∀ (m n : Nat), digs (dgF m n) = true
  | 0, n => rfl
  | m + 1, n => by
    have h0 : ∀ p, p < 10 → dg (UInt8.ofNat (48 + p)) = true := by decide
    rw [dgF]
    split
    · rename_i h
      unfold digs
      rw [List.all_cons, h0 n h]; rfl
    · have := dgF_dig m (n / 10)
      unfold digs at this ⊢
      rw [List.all_append, this, List.all_cons, h0 (n % 10) (Nat.mod_lt _ (by omega))]; rfl
theorem dgF_ne (m n : Nat) : dgF (m + 1) n ≠ [] := by
  rw [dgF]; split <;> simp
theorem itoa_small {n : Nat} (h : n < 1000000000) : digs (itoaP n) = true ∧ itoaP n ≠ [] ∧ (itoaP n).length ≤ 9 := by
  unfold itoaP
  rw [if_neg (by omega), Int.toNat_natCast]
  refine ⟨dgF_dig _ _, dgF_ne 19 n, ?_⟩
  rw [dgF_eq 19 n (by omega), ← dgF_eq 8 n (by omega)]
  exact dgF_len 9 n
theorem numR_P {s : List UInt8} {n : Int} (h : numR s = some n) : numP s = some n ∧ 0 ≤ n ∧ n < 1000000000 := by
  unfold numR at h
  split at h
  · rename_i hc
    obtain ⟨⟨h1, h2, h3⟩, h4⟩ := hc
    cases h
    have hz := dv_lt h1 h3
    have ha := atoi_dig h1 (by intro e; subst e; simp at h2) h3
    refine ⟨?_, by unfold dv; omega, hz⟩
    unfold numP
    rw [ha, if_pos ⟨rfl, h4, by unfold dv; omega, by dsimp only; omega⟩]
  · cases h
theorem dvA_snoc : ∀ (x : List UInt8) (n : Nat) (c : UInt8), dvA n (x ++ [c]) = dvA n x * 10 + (c.toNat - 48)
  | [], n, c => by rw [List.nil_append, dvA_cons, dvA_nil, dvA_nil]
  | a :: x, n, c => by rw [List.cons_append, dvA_cons, dvA_cons, dvA_snoc x]
theorem dvA_dgF : ∀ (m n : Nat), n < 10 ^ m → dvA 0 (dgF m n) = n
  | 0, n, h => by
    have : n = 0 := by simpa using h
    subst this
    rw [dgF, dvA_nil]
  | m + 1, n, h => by
    have h0 : ∀ p, p < 10 → (UInt8.ofNat (48 + p)).toNat - 48 = p := by decide
    rw [dgF]
    split
    · rename_i h1
      rw [dvA_cons, dvA_nil, h0 n h1]; omega
    · rw [dvA_snoc, dvA_dgF m (n / 10) (by rw [Nat.div_lt_iff_lt_mul (by omega), ← Nat.pow_succ]; exact h), h0 _ (Nat.mod_lt _ (by omega))]; omega
theorem numP_of (n : Nat) (h : n < 1000000000) : numP (itoaP n) = some (n : Int) ∧ numR (itoaP n) = some (n : Int) := by
  have hs := itoa_small h
  have hl : 1 ≤ (itoaP n).length := List.length_pos_iff.2 hs.2.1
  have hd : dv (itoaP n) = n := by
    unfold dv itoaP
    rw [if_neg (by omega), Int.toNat_natCast, dvA_dgF 20 n (by omega)]
  have hR : numR (itoaP n) = some (n : Int) := by
    unfold numR
    rw [hd, if_pos ⟨⟨hs.1, hl, hs.2.2⟩, rfl⟩]
  exact ⟨(numR_P hR).1, hR⟩
end Go.Ph.Md
end
section
namespace Go.Ph.Md
open Go.Ph.Pl Go.Ph.Pf
open Go.Ph.Chs (vld lower)
def ns (c : UInt8) : Bool := !decide (c = 42)
theorem ns_star : ns 42 = false := rfl
theorem star_len : ∀ (l : List UInt8), (42 ∈ l ↔ (l.takeWhile ns).length < l.length)
  | [] => by simp
  | c :: l => by
    by_cases h : c = 42
    · subst h; simp [ns_star]
    · have hn : ns c = true := by unfold ns; rw [decide_eq_false h]; rfl
      rw [List.takeWhile_cons_of_pos hn, List.length_cons, List.length_cons, List.mem_cons]
      have := star_len l
      constructor
      · rintro (e | e)
        · exact absurd e.symm h
        · have := this.1 e; omega
      · intro e
        exact .inr (this.2 (by omega))
theorem index_star : ∀ (l : List UInt8), Lib.index l [42] = if 42 ∈ l then ((l.takeWhile ns).length : Int) else -1
  | [] => rfl
  | c :: l => by
    rw [Lib.index]
    by_cases h : c = 42
    · subst h
      rw [if_pos (by simp [List.isPrefixOf]), if_pos (by simp), List.takeWhile_cons_of_neg (by simp [ns_star])]; rfl
    · have hn : ns c = true := by unfold ns; rw [decide_eq_false h]; rfl
      have h' : ¬ (42 : UInt8) = c := fun e => h e.symm
      rw [if_neg (by simp [List.isPrefixOf, h']), index_star l, List.takeWhile_cons_of_pos hn]
      by_cases hm : 42 ∈ l
      · rw [if_pos hm, if_neg (by first | (simp; done) | (simp; omega)), if_pos (by simp [hm]), List.length_cons]; omega
      · rw [if_neg hm, if_pos (by decide), if_neg (by simp [hm, h'])]
def cutB (name : List UInt8) : List UInt8 := name.takeWhile ns
def cutR (name : List UInt8) : List UInt8 := (name.dropWhile ns).drop 1
theorem cut_eq (name : List UInt8) (hs : name.length ≤ 1000000) : strings_Cut name [42] = some (if 42 ∈ name then (cutB name, cutR name, true) else (name, [], false)) := by
  have hl := tw_len ns name
  unfold strings_Cut stringslite_Cut stringslite_Index cutB cutR
  rw [if_pos (by omega), bsome, index_star]
  by_cases h : 42 ∈ name
  · have h1 := (star_len name).1 h
    rw [if_pos h, if_pos h, if_pos (by omega), cut_to rfl hl, bsome, show (([42] : List UInt8).length : Int) = ((1 : Nat) : Int) from rfl, chk_addN 1 (by omega), bsome, cut_from rfl (by omega), bsome, bsome, tw_take, ← List.drop_drop, tw_drop]
  · rw [if_neg h, if_neg h, if_neg (by decide), bsome]
theorem snoc_cases {α : Type} (l : List α) : l = [] ∨ ∃ a c, l = a ++ [c] := by
  rcases List.eq_nil_or_concat l with h | ⟨a, c, h⟩
  · exact .inl h
  · exact .inr ⟨a, c, by rw [h]; simp⟩
def cutS (r : List UInt8) : List UInt8 × Bool := if r.getLast? = some 42 then (r.dropLast, true) else (r, false)
theorem cutS_len (r : List UInt8) : (cutS r).1.length ≤ r.length := by
  unfold cutS
  split
  · rw [List.length_dropLast]; omega
  · exact Nat.le_refl _
theorem suffix_eq (r : List UInt8) (hs : r.length ≤ 1000000) : strings_CutSuffix r [42] = some (cutS r) := by
  unfold strings_CutSuffix stringslite_CutSuffix stringslite_HasSuffix cutS
  rcases snoc_cases r with rfl | ⟨a, c, rfl⟩
  · rfl
  · have e1 : ((a ++ [c]).length : Int) - (([42] : List UInt8).length : Int) = (a.length : Int) := by simp
    rw [if_pos (by simp; omega), e1, chk_ok (by omega) (by simp at hs; omega), bsome, cut_from rfl (by simp), bsome, bsome, bsome, List.drop_left, List.getLast?_concat, List.dropLast_concat]
    by_cases h : c = 42
    · subst h
      rw [decide_eq_true rfl, if_pos rfl, bsome, cut_to rfl (by simp), bsome, List.take_left, if_pos rfl]
      rfl
    · rw [decide_eq_false (by simpa using h), if_neg (by decide), if_neg (by simpa using h)]
      rfl
def mkP (num : List UInt8 → Option Int) (name v : List UInt8) : Option Pce :=
  if 42 ∈ name then (if cutB name = [] then none else (num (cutS (cutR name)).1).map fun n => (cutB name, n, (cutS (cutR name)).2, v))
  else (if name = [] then none else some (name, -1, false, v))
def rdP (num : List UInt8 → Option Int) (t : List UInt8) : Option (Pce × List UInt8) :=
  (sgn 61 ((tl t).dropWhile (pN [42]))).bind fun t2 => (vl t2).bind fun q => (mkP num ((tl t).takeWhile (pN [42])) q.1).map fun p => (p, q.2)
theorem cutR_len (name : List UInt8) : (cutR name).length ≤ name.length := by
  unfold cutR
  have := dw_len ns name
  rw [List.length_drop]; omega
theorem mkP_some {num : List UInt8 → Option Int} {name v : List UInt8} {p : Pce} (h : mkP num name v = some p) : p.1.length ≤ name.length ∧ p.2.2.2 = v ∧ p.1 ≠ [] ∧ (p.2.1 = -1 ∨ ∃ s, num s = some p.2.1) := by
  unfold mkP at h
  split at h
  · split at h
    · cases h
    · rename_i hb
      obtain ⟨n, h1, h2⟩ := Option.map_eq_some_iff.1 h
      cases h2
      exact ⟨tw_len _ _, rfl, hb, .inr ⟨_, h1⟩⟩
  · split at h
    · cases h
    · rename_i hb
      cases h
      exact ⟨Nat.le_refl _, rfl, hb, .inl rfl⟩
theorem rdP_some {num : List UInt8 → Option Int} {t r : List UInt8} {p : Pce} (h : rdP num t = some (p, r)) : r.length < t.length ∧ p.1.length ≤ t.length ∧ p.2.2.2.length ≤ t.length ∧ p.1 ≠ [] ∧ (p.2.1 = -1 ∨ ∃ s, num s = some p.2.1) := by
  unfold rdP at h
  obtain ⟨t2, h1, h⟩ := bnd h
  obtain ⟨⟨v, r'⟩, h2, h⟩ := bnd h
  obtain ⟨p', h3, h4⟩ := Option.map_eq_some_iff.1 h
  dsimp only at h4
  cases h4
  have a1 := sgn_len h1
  have a2 := dw_len (pN [42]) (tl t)
  have a3 := tl_len t
  have a4 := vl_len h2
  have a5 := tw_len (pN [42]) (tl t)
  obtain ⟨b1, b2, b3, b4⟩ := mkP_some h3
  dsimp only at b2
  exact ⟨by omega, by omega, by rw [b2]; omega, b3, b4⟩
theorem read_eq (t : List UInt8) (ht : t.length ≤ 1000000) : ∃ p b r, media_reader_read t = some (p, b, r) ∧ rdP numP t = if b = true then some (p, r) else none := by
  have a1 := tl_len t
  have a2 := dw_len (pN [42]) (tl t)
  have a5 := tw_len (pN [42]) (tl t)
  unfold media_reader_read
  rw [take_eq t (by unfold Big; omega) _ _ read_1_eq, bsome]
  dsimp only
  rw [sign_eq _ (by unfold Big; omega), bsome]
  cases hs : sgn 61 ((tl t).dropWhile (pN [42])) with
  | none => exact ⟨_, _, _, rfl, by unfold rdP; rw [hs]; rfl⟩
  | some t2 =>
    have a6 := sgn_len hs
    have hR : rdP numP t = (vl t2).bind fun q => (mkP numP ((tl t).takeWhile (pN [42])) q.1).map fun p => (p, q.2) := by unfold rdP; rw [hs, bsome]
    rw [hR]
    dsimp only
    rw [if_pos rfl]
    have hlen : ((tl t).takeWhile (pN [42])).length ≤ 1000000 := by omega
    clear hR
    generalize (tl t).takeWhile (pN [42]) = name at *
    have hcr := cutR_len name
    have hcs := cutS_len (cutR name)
    unfold mkP
    rcases value_eq t2 (by omega) with ⟨v, r, hv, hm⟩ | ⟨hv, r, hm⟩
    · rw [hm, hv, bsome, cut_eq name hlen]
      by_cases h42 : 42 ∈ name
      · rw [if_pos h42, bsome]
        dsimp only
        rw [if_pos rfl, suffix_eq _ (by omega), bsome, bnumber_eq _ (by omega), bsome]
        cases hn : numP (cutS (cutR name)).1 with
        | none =>
          dsimp only
          refine ⟨_, _, _, rfl, ?_⟩
          rw [bsome, if_pos h42]
          split <;> rfl
        | some n =>
          dsimp only
          refine ⟨_, _, _, rfl, ?_⟩
          rw [bsome, if_pos h42]
          dsimp only
          by_cases hb : cutB name = []
          · rw [if_pos hb, decide_eq_true hb]; rfl
          · rw [if_neg hb, decide_eq_false hb]; rfl
      · rw [if_neg h42, bsome]
        dsimp only
        refine ⟨_, _, _, rfl, ?_⟩
        rw [bsome, if_neg h42]
        dsimp only
        by_cases hb : name = []
        · rw [if_pos hb, decide_eq_true hb]; rfl
        · rw [if_neg hb, decide_eq_false hb]; rfl
    · rw [hm, hv, bsome, cut_eq name hlen]
      by_cases h42 : 42 ∈ name
      · rw [if_pos h42, bsome]
        dsimp only
        rw [if_pos rfl, suffix_eq _ (by omega), bsome, bnumber_eq _ (by omega), bsome]
        exact ⟨_, _, _, rfl, rfl⟩
      · rw [if_neg h42, bsome]
        exact ⟨_, _, _, rfl, rfl⟩
def pcs (num : List UInt8 → Option Int) : Nat → List UInt8 → Option (List Pce × List UInt8)
  | 0, _ => none
  | m + 1, t => match sgn 59 t with | some r => (rdP num r).bind fun p => (pcs num m p.2).map fun q => (p.1 :: q.1, q.2) | none => some ([], tl t)
theorem parse_L1 (s1 s7 : List UInt8) (a b : List UInt8) (c : List Par) : ∀ (d m : Nat) (t : List UInt8) (l : List Pce), t.length ≤ d → d < m → l.length + t.length ≤ 100000 →
    media_parse_L1 s1 s7 m a b c t l = some (match pcs numP m t with | some (q, r) => .inl (a, b, c, r, l ++ q) | none => .inr ((s1, s7, []), false)) := by
  intro d
  induction d with
  | zero =>
    intro m t l hd hm hl
    obtain ⟨m, rfl⟩ : ∃ k, m = k + 1 := ⟨m - 1, by omega⟩
    have : t = [] := List.eq_nil_of_length_eq_zero (by omega)
    subst this
    rw [media_parse_L1, sign_eq _ (by unfold Big; simp), bsome, pcs, show sgn 59 [] = none from rfl]
    dsimp only
    rw [if_neg (by decide), List.append_nil]
  | succ d ih =>
    intro m t l hd hm hl
    obtain ⟨m, rfl⟩ : ∃ k, m = k + 1 := ⟨m - 1, by omega⟩
    rw [media_parse_L1, sign_eq _ (by unfold Big; omega), bsome, pcs]
    cases hs : sgn 59 t with
    | none =>
      dsimp only
      rw [if_neg (by decide), List.append_nil]
    | some r =>
      have h1 := sgn_len hs
      dsimp only
      rw [if_pos rfl]
      obtain ⟨p, bb, r2, he, hr⟩ := read_eq r (by omega)
      rw [he, bsome, hr]
      dsimp only
      cases bb with
      | false => rfl
      | true =>
        rw [if_pos rfl] at hr
        have h2 := (rdP_some hr).1
        rw [if_pos rfl, if_pos rfl, app_ok (by simp; omega), bsome, ih m r2 _ (by omega) (by omega) (by simp; omega), bsome]
        dsimp only
        cases hq : pcs numP m r2 with
        | none => rfl
        | some q => obtain ⟨q, x⟩ := q; simp
end Go.Ph.Md
end
section
namespace Go.Ph.Md
open Go.Ph.Pl Go.Ph.Pf
open Go.Ph.Chs (vld lower utf8)
open Go.Ph.Utf (rune dr)
def hexv (c : UInt8) : Option Nat := if 48 ≤ c.toNat ∧ c.toNat ≤ 57 then some (c.toNat - 48) else if 65 ≤ c.toNat ∧ c.toNat ≤ 70 then some (c.toNat - 55) else if 97 ≤ c.toNat ∧ c.toNat ≤ 102 then some (c.toNat - 87) else none
theorem hexv_lt {c : UInt8} {x : Nat} (h : hexv c = some x) : x < 16 := by
  unfold hexv at h
  split at h
  · cases h; omega
  · split at h
    · cases h; omega
    · split at h
      · cases h; omega
      · cases h
theorem hex_eq (c : UInt8) : basic_Hex c = some ((match hexv c with | some x => UInt8.ofNat x | none => 0), (hexv c).isSome) := by
  refine allB (p := fun c => basic_Hex c = some ((match hexv c with | some x => UInt8.ofNat x | none => 0), (hexv c).isSome)) ?_ c
  decide +kernel
theorem two16 : ∀ x, x < 16 → ∀ y, y < 16 → (UInt8.ofNat ((UInt8.ofNat x).toNat * 2 ^ 4)) ||| UInt8.ofNat y = UInt8.ofNat (16 * x + y) := by decide +kernel
def hex2 (a b : UInt8) : Option UInt8 := match hexv a, hexv b with | some x, some y => some (UInt8.ofNat (16 * x + y)) | _, _ => none
theorem pair_short {s : List UInt8} (h : s.length < 2) : basic_Pair s = some (0, false) := by
  unfold basic_Pair; rw [if_pos (by omega)]
theorem pair_eq (a b : UInt8) (t : List UInt8) : ∃ c, basic_Pair (a :: b :: t) = some (c, (hex2 a b).isSome) ∧ ∀ z, hex2 a b = some z → c = z := by
  unfold basic_Pair
  rw [if_neg (by simp; omega), show (0 : Int) = ((0 : Nat) : Int) from rfl, idx_nat, show (1 : Int) = ((1 : Nat) : Int) from rfl, idx_nat]
  simp only [List.getElem?_cons_zero, List.getElem?_cons_succ, bsome, hex_eq]
  unfold hex2
  cases ha : hexv a with
  | none => exact ⟨_, by rfl, fun z hz => by cases hz⟩
  | some x =>
    cases hb : hexv b with
    | none => exact ⟨_, by rfl, fun z hz => by cases hz⟩
    | some y => exact ⟨_, by rfl, fun z hz => by cases hz; exact two16 x (hexv_lt ha) y (hexv_lt hb)⟩
def hexd2 : List UInt8 → Option (UInt8 × List UInt8)
  | a :: b :: t => (hex2 a b).map fun z => (z, t)
  | _ => none
theorem hexd2_len {t : List UInt8} {p : UInt8 × List UInt8} (h : hexd2 t = some p) : p.2 = t.drop 2 ∧ 2 ≤ t.length := by
  rcases t with _ | ⟨a, _ | ⟨b, t⟩⟩
  · cases h
  · cases h
  · obtain ⟨z, _, rfl⟩ := Option.map_eq_some_iff.1 h
    exact ⟨rfl, by simp⟩
theorem pair_hexd2 (t : List UInt8) : ∃ c b, basic_Pair t = some (c, b) ∧ match hexd2 t with | some p => b = true ∧ c = p.1 | none => b = false := by
  rcases t with _ | ⟨a, _ | ⟨b, t⟩⟩
  · exact ⟨_, _, pair_short (by simp), rfl⟩
  · exact ⟨_, _, pair_short (by simp), rfl⟩
  · obtain ⟨c, h1, h2⟩ := pair_eq a b t
    refine ⟨_, _, h1, ?_⟩
    have e : hexd2 (a :: b :: t) = (hex2 a b).map fun z => (z, t) := rfl
    rw [e]
    cases h : hex2 a b with
    | none => rfl
    | some z => exact ⟨rfl, h2 z h⟩
def unpF : Nat → List UInt8 → List UInt8
  | 0, _ => []
  | n + 1, [] => []
  | n + 1, c :: t => if c = 37 then (match hexd2 t with | some p => p.1 :: unpF n p.2 | none => c :: unpF n t) else c :: unpF n t
theorem unpF_more : ∀ (n m : Nat) (l : List UInt8), l.length < n → l.length < m → unpF n l = unpF m l
  | n + 1, m + 1, [], _, _ => rfl
  | n + 1, m + 1, c :: t, h1, h2 => by
    simp only [List.length_cons] at h1 h2
    rw [unpF, unpF]
    have h0 := unpF_more n m t (by omega) (by omega)
    rw [h0]
    cases hp : hexd2 t with
    | none => rfl
    | some p =>
      obtain ⟨h3, h4⟩ := hexd2_len hp
      dsimp only
      rw [unpF_more n m p.2 (by rw [h3, List.length_drop]; omega) (by rw [h3, List.length_drop]; omega)]
def unp (l : List UInt8) : List UInt8 := unpF (l.length + 1) l
theorem unp_nil : unp [] = [] := rfl
theorem unp_cons (c : UInt8) (t : List UInt8) : unp (c :: t) = if c = 37 then (match hexd2 t with | some p => p.1 :: unp p.2 | none => c :: unp t) else c :: unp t := by
  unfold unp
  rw [List.length_cons, unpF]
  cases hp : hexd2 t with
  | none => rfl
  | some p =>
    obtain ⟨h3, h4⟩ := hexd2_len hp
    dsimp only
    rw [unpF_more (t.length + 1) (p.2.length + 1) p.2 (by rw [h3, List.length_drop]; omega) (by omega)]
theorem unp_len : ∀ (n : Nat) (l : List UInt8), l.length ≤ n → (unp l).length ≤ l.length
  | n, [], _ => Nat.le_refl _
  | 0, c :: t, h => by simp at h
  | n + 1, c :: t, h => by
    simp only [List.length_cons] at h ⊢
    rw [unp_cons]
    have h1 := unp_len n t (by omega)
    split
    · cases hp : hexd2 t with
      | none => dsimp only; rw [List.length_cons]; omega
      | some p =>
        obtain ⟨h3, h4⟩ := hexd2_len hp
        have h5 := unp_len n p.2 (by rw [h3, List.length_drop]; omega)
        rw [h3, List.length_drop] at h5
        dsimp only
        rw [List.length_cons, h3]; omega
    · rw [List.length_cons]; omega
theorem text_L1 (s : List UInt8) (hs : s.length ≤ 1000000) : ∀ (d i m : Nat) (acc : List UInt8), s.length - i ≤ d → d < m → i ≤ s.length → acc.length ≤ i →
    media_piece_text_L1 s m acc (i : Int) = some (acc ++ unp (s.drop i)) := by
  intro d
  induction d using Nat.strongRecOn with
  | ind d ih =>
    intro i m acc h1 h2 h3 h4
    obtain ⟨m, rfl⟩ : ∃ k, m = k + 1 := ⟨m - 1, by omega⟩
    rw [media_piece_text_L1]
    by_cases hi : i < s.length
    · rw [if_pos (by omega), idx_nat, List.getElem?_eq_getElem hi, bsome, List.drop_eq_getElem_cons hi, unp_cons]
      have hplain : ∀ (o : Option ((List UInt8 × Int) ⊕ (List UInt8 × Int))), o = some (.inl (acc, (i : Int))) → (o.bind fun o55 => (match o55 with | .inl (l33, n35) => (idx s n35).bind fun c50 => (app 1 l33 ([c50] : List UInt8)).bind fun l51 => (chk (n35 + 1)).bind fun n52 => media_piece_text_L1 s m l51 n52 | .inr (l37, n39) => (chk (n39 + 1)).bind fun n54 => media_piece_text_L1 s m l37 n54)) = some (acc ++ (s[i] :: unp (s.drop (i + 1)))) := by
        rintro o rfl
        rw [bsome]
        dsimp only
        rw [idx_nat, List.getElem?_eq_getElem hi, bsome, app_ok (by simp; omega), bsome, chk_succ (by omega), bsome, ih (d - 1) (by omega) (i + 1) m _ (by omega) (by omega) (by omega) (by simp; omega), List.append_assoc]; rfl
      by_cases h37 : s[i] = 37
      · rw [if_pos h37, if_pos h37, chk_succ (by omega), bsome, cut_from rfl (by omega), bsome]
        obtain ⟨c, b, hp, hq⟩ := pair_hexd2 (s.drop (i + 1))
        rw [hp, bsome]
        dsimp only
        cases hz : hexd2 (s.drop (i + 1)) with
        | none =>
          rw [hz] at hq
          dsimp only at hq
          subst hq
          exact hplain _ (by rw [if_neg (by decide)])
        | some p =>
          rw [hz] at hq
          obtain ⟨rfl, rfl⟩ := hq
          obtain ⟨e1, e2⟩ := hexd2_len hz
          rw [List.length_drop] at e2
          rw [if_pos rfl, app_ok (by simp; omega), bsome, show ((i : Int) + 2) = ((i + 2 : Nat) : Int) by omega, chk_ok (by omega) (by omega), bsome, bsome]
          dsimp only
          rw [chk_succ (by omega), bsome, ih (d - 3) (by omega) (i + 2 + 1) m _ (by omega) (by omega) (by omega) (by simp; omega), e1, List.drop_drop, List.append_assoc, show i + 1 + 2 = i + 2 + 1 by omega]; rfl
      · rw [if_neg h37, if_neg h37]
        exact hplain _ rfl
    · rw [if_neg (by omega), List.drop_eq_nil_of_le (by omega), unp_nil, List.append_nil]
def bare (p : Pce) : List UInt8 := if p.2.1 = 0 ∧ 6 ≤ p.2.2.2.length ∧ lower (p.2.2.2.take 6) = pre8 then p.2.2.2.drop 6 else p.2.2.2
def txt (p : Pce) : List UInt8 := if p.2.2.1 = true then unp (bare p) else p.2.2.2
theorem bare_len (p : Pce) : (bare p).length ≤ p.2.2.2.length := by
  unfold bare
  split
  · rw [List.length_drop]; omega
  · exact Nat.le_refl _
theorem txt_len (p : Pce) : (txt p).length ≤ p.2.2.2.length := by
  unfold txt
  have := bare_len p
  have := unp_len _ (bare p) (Nat.le_refl _)
  split <;> omega
theorem lower_pre : lower pre8 = pre8 := by decide
theorem text_eq (p : Pce) (hp : p.2.2.2.length ≤ 1000000) : media_piece_text p = some (txt p) := by
  obtain ⟨nm, n, st, v⟩ := p
  unfold media_piece_text txt bare
  dsimp only at hp ⊢
  cases st with
  | false => rw [if_neg (by decide), if_neg (by decide)]
  | true =>
    rw [if_pos rfl, if_pos rfl]
    have e : (if n = (0 : Int) then (if (6 : Int) ≤ (v.length : Int) then (cut v 0 6).bind fun s7 => (basic_Same s7 [117, 116, 102, 56, 39, 39]).bind fun b8 => some b8 else some false) else some false) = some (decide (n = 0 ∧ 6 ≤ v.length ∧ lower (v.take 6) = pre8)) := by
      by_cases h0 : n = 0
      · rw [if_pos h0]
        by_cases h6 : 6 ≤ v.length
        · rw [if_pos (by omega), cut_to (j := 6) (b := 6) rfl h6, bsome, same_eq (by unfold Big; rw [List.length_take]; omega) (by unfold Big; simp), bsome, show lower [117, 116, 102, 56, 39, 39] = pre8 from lower_pre]
          congr 1
          simp [h0, h6]
        · rw [if_neg (by omega), decide_eq_false (fun h => h6 h.2.1)]
      · rw [if_neg h0, decide_eq_false (fun h => h0 h.1)]
    rw [e, bsome]
    by_cases hc : n = 0 ∧ 6 ≤ v.length ∧ lower (v.take 6) = pre8
    · rw [decide_eq_true hc, if_pos rfl, if_pos hc, cut_from (i := 6) (a := 6) rfl hc.2.1, bsome, bsome]
      have := text_L1 (v.drop 6) (by rw [List.length_drop]; omega) (v.drop 6).length 0 FU [] (by omega) (FU_gt (by rw [List.length_drop]; omega)) (by omega) (by simp)
      rw [Int.natCast_zero, List.drop_zero, List.nil_append] at this
      rw [this, bsome]
    · rw [decide_eq_false hc, if_neg (by decide), if_neg hc, bsome]
      have := text_L1 v hp v.length 0 FU [] (by omega) (FU_gt (by omega)) (by omega) (by simp)
      rw [Int.natCast_zero, List.drop_zero, List.nil_append] at this
      rw [this, bsome]
def fixF : Nat → Bool → List UInt8 → List UInt8
  | 0, _, _ => []
  | n + 1, b, t => if t = [] then [] else if 0 ≤ (rune t).1 then t.take (rune t).2 ++ fixF n false (t.drop (rune t).2) else (if b = true then [] else [239, 191, 189]) ++ fixF n true (t.drop 1)
theorem fixF_more : ∀ (n m : Nat) (b : Bool) (l : List UInt8), l.length < n → l.length < m → fixF n b l = fixF m b l
  | n + 1, m + 1, b, l, h1, h2 => by
    rw [fixF, fixF]
    by_cases hl : l = []
    · rw [if_pos hl, if_pos hl]
    · obtain ⟨r1, _, r2⟩ := Utf.rune_size l
      have hp := List.length_pos_iff.2 hl
      rw [if_neg hl, if_neg hl, fixF_more n m false (l.drop (rune l).2) (by rw [List.length_drop]; omega) (by rw [List.length_drop]; omega), fixF_more n m true (l.drop 1) (by rw [List.length_drop]; omega) (by rw [List.length_drop]; omega)]
def fix (b : Bool) (t : List UInt8) : List UInt8 := fixF (t.length + 1) b t
theorem fix_nil (b : Bool) : fix b [] = [] := rfl
theorem fix_ok {t : List UInt8} (b : Bool) (hl : t ≠ []) (h : 0 ≤ (rune t).1) : fix b t = t.take (rune t).2 ++ fix false (t.drop (rune t).2) := by
  obtain ⟨r1, _, r2⟩ := Utf.rune_size t
  have hp := List.length_pos_iff.2 hl
  unfold fix
  rw [fixF, if_neg hl, if_pos h, fixF_more t.length ((t.drop (rune t).2).length + 1) false _ (by rw [List.length_drop]; omega) (by omega)]
theorem fix_bad {t : List UInt8} (b : Bool) (hl : t ≠ []) (h : (rune t).1 < 0) : fix b t = (if b = true then [] else [239, 191, 189]) ++ fix true (t.drop 1) := by
  have hp := List.length_pos_iff.2 hl
  unfold fix
  rw [fixF, if_neg hl, if_neg (by omega), fixF_more t.length ((t.drop 1).length + 1) true _ (by rw [List.length_drop]; omega) (by omega)]
theorem fix_vld : ∀ (n : Nat) (t : List UInt8) (b : Bool), t.length ≤ n → vld t = true → fix b t = t
  | n, [], b, _, _ => rfl
  | 0, c :: t, b, h, _ => by simp at h
  | n + 1, c :: t, b, h, hv => by
    have hl : (c :: t) ≠ [] := by simp
    obtain ⟨r1, _, r2⟩ := Utf.rune_size (c :: t)
    rw [Chs.vld_cons hl, Bool.and_eq_true, decide_eq_true_eq] at hv
    rw [fix_ok b hl hv.1, fix_vld n _ false (by rw [List.length_drop]; simp only [List.length_cons] at h ⊢; omega) hv.2, List.take_append_drop]
theorem tv_L1 (s : List UInt8) : ∀ (d i m : Nat), s.length - i ≤ d → d < m → i ≤ s.length →
    ∃ o, tvL1 s m i = some o ∧ match o with | none => fix false (s.drop i) = s.drop i | some j => i ≤ j ∧ j < s.length ∧ fix false (s.drop i) = (s.drop i).take (j - i) ++ fix false (s.drop j) := by
  intro d
  induction d using Nat.strongRecOn with
  | ind d ih =>
    intro i m h1 h2 h3
    obtain ⟨m, rfl⟩ : ∃ k, m = k + 1 := ⟨m - 1, by omega⟩
    rw [tvL1]
    by_cases hi : i < s.length
    · have hl : s.drop i ≠ [] := by rw [Ne, List.drop_eq_nil_iff]; omega
      obtain ⟨r1, r3, r2⟩ := Utf.rune_size (s.drop i)
      have r2' := r2 hl
      rw [List.length_drop] at r2'
      rw [if_pos hi]
      have hgo : ¬ (((dr (s.drop i)).1 : Int) = 65533 ∧ ((dr (s.drop i)).2 : Int) = 1) → ∃ o, tvL1 s m (i + (dr (s.drop i)).2) = some o ∧ match o with | none => fix false (s.drop i) = s.drop i | some j => i ≤ j ∧ j < s.length ∧ fix false (s.drop i) = (s.drop i).take (j - i) ++ fix false (s.drop j) := by
        intro hok
        obtain ⟨k1, _, k2⟩ := Utf.first_ok _ hok
        rw [k2]
        obtain ⟨o, ho, hm⟩ := ih (d - (rune (s.drop i)).2) (by omega) (i + (rune (s.drop i)).2) m (by omega) (by omega) (by omega)
        refine ⟨o, ho, ?_⟩
        cases o with
        | none =>
          dsimp only at hm ⊢
          rw [fix_ok false hl k1, List.drop_drop, hm, ← List.drop_drop, List.take_append_drop]
        | some j =>
          dsimp only at hm ⊢
          obtain ⟨m1, m2, m3⟩ := hm
          refine ⟨by omega, m2, ?_⟩
          rw [fix_ok false hl k1, List.drop_drop, m3, ← List.append_assoc]
          congr 1
          rw [← List.drop_drop, show j - i = (rune (s.drop i)).2 + (j - (i + (rune (s.drop i)).2)) by omega, List.take_add]
      by_cases c1 : ((dr (s.drop i)).1 : Int) = (65533 : Int)
      · rw [if_pos c1]
        by_cases c2 : ((dr (s.drop i)).2 : Int) = (1 : Int)
        · rw [if_pos c2]
          exact ⟨_, rfl, Nat.le_refl _, hi, by rw [Nat.sub_self]; rfl⟩
        · rw [if_neg c2]
          exact hgo (fun h => c2 h.2)
      · rw [if_neg c1]
        exact hgo (fun h => c1 h.1)
    · rw [if_neg hi]
      refine ⟨_, rfl, ?_⟩
      dsimp only
      rw [List.drop_eq_nil_of_le (by omega), fix_nil]
theorem rune_big {t : List UInt8} (hl : t ≠ []) (h : 128 ≤ Utf.nat t 0) (h0 : 0 ≤ (rune t).1) : (rune t).2 ≠ 1 := by
  intro h1
  have hu := Chs.utf8_rune t hl h0
  have hp := List.length_pos_iff.2 hl
  rw [h1, Chs.take_utf8_1 hp] at hu
  have hm : utf8 (rune t).1 = Chs.utf8M (rune t).1 := by
    obtain ⟨a, b⟩ := Chs.rune_valid t h0
    unfold Chs.utf8
    rw [Chs.fixN_id h0 a b]
  rw [hm] at hu
  unfold Chs.utf8M at hu
  split at hu
  · rename_i hlt
    have e := (List.cons.inj hu).1
    have h2 := Chs.ub_nat h0 (by omega)
    have h3 := Chs.ub_nat (a := (Utf.nat t 0 : Int)) (by omega) (by have := Utf.nat_lt t 0; omega)
    rw [e, h3] at h2
    omega
  · split at hu
    · simp at hu
    · split at hu <;> simp at hu
theorem write_eq (l s : List UInt8) (h : l.length + s.length ≤ 100000000) : strings_Builder_WriteString l s = some ((s.length : Int), true, l ++ s) := by
  unfold strings_Builder_WriteString
  rw [app_ok (by omega), bsome]
theorem writeB_eq (l : List UInt8) (c : UInt8) (h : l.length ≤ 10000000) : strings_Builder_WriteByte l c = some (true, l ++ [c]) := by
  unfold strings_Builder_WriteByte
  rw [app_ok (by simp; omega), bsome]
theorem tv_L2 (s : List UInt8) (hs : s.length ≤ 1000000) : ∀ (d i m : Nat) (b : Bool) (acc : List UInt8), s.length - i ≤ d → d < m → i ≤ s.length → acc.length ≤ 1000000 + 4 * i →
    strings_ToValidUTF8_L2 [239, 191, 189] s m acc b (i : Int) = some (acc ++ fix b (s.drop i)) := by
  intro d
  induction d using Nat.strongRecOn with
  | ind d ih =>
    intro i m b acc h1 h2 h3 h4
    obtain ⟨m, rfl⟩ : ∃ k, m = k + 1 := ⟨m - 1, by omega⟩
    rw [strings_ToValidUTF8_L2]
    by_cases hi : i < s.length
    · have hl : s.drop i ≠ [] := by rw [Ne, List.drop_eq_nil_iff]; omega
      obtain ⟨r1, r3, r2⟩ := Utf.rune_size (s.drop i)
      have r2' := r2 hl
      rw [List.length_drop] at r2'
      have hdi := List.drop_eq_getElem_cons hi
      have hnat : Utf.nat (s.drop i) 0 = s[i].toNat := by rw [hdi]; exact Chs.nat_head _ _
      rw [if_pos (by omega), idx_nat, List.getElem?_eq_getElem hi, bsome]
      by_cases h128 : s[i].toNat < 128
      · have hr := Utf.rune_ascii (l := s.drop i) (by omega)
        rw [if_pos h128, chk_succ (by omega), bsome, writeB_eq _ _ (by omega), bsome]
        dsimp only
        rw [ih (d - 1) (by omega) (i + 1) m false _ (by omega) (by omega) (by omega) (by simp; omega), fix_ok b hl (by rw [hr]; dsimp only; omega), hr]
        dsimp only
        rw [List.drop_drop, List.append_assoc]
        congr 2
        rw [hdi]; rfl
      · rw [if_neg h128, cut_from rfl (by omega), bsome]
        unfold utf8_DecodeRuneInString
        rw [if_pos hl, bsome]
        dsimp only
        by_cases h1s : ((dr (s.drop i)).2 : Int) = 1
        · have hbad : (rune (s.drop i)).1 < 0 := by
            by_cases h0 : 0 ≤ (rune (s.drop i)).1
            · exfalso
              have := rune_big hl (by omega) h0
              have hd := Utf.rune_dr (s.drop i)
              rw [if_neg (by omega)] at hd
              rw [hd] at h1s
              dsimp only at h1s
              omega
            · omega
          rw [if_pos h1s, chk_succ (by omega), bsome, fix_bad b hl hbad, List.drop_drop]
          have e : ((if b = true then some (acc, true) else (strings_Builder_WriteString acc [239, 191, 189]).bind fun (n76, b77, l78) => some (l78, true)) : Option (List UInt8 × Bool)) = some (acc ++ (if b = true then [] else [239, 191, 189]), true) := by
            cases b with
            | true => rw [if_pos rfl, if_pos rfl, List.append_nil]
            | false => rw [if_neg (by decide), write_eq _ _ (by simp; omega), bsome]; rfl
          rw [e, bsome]
          dsimp only
          rw [ih (d - 1) (by omega) (i + 1) m true _ (by omega) (by omega) (by omega) (by cases b <;> simp <;> omega), List.append_assoc]
        · obtain ⟨k1, _, k2⟩ := Utf.first_ok (s.drop i) (fun h => h1s h.2)
          rw [if_neg h1s, k2, ← Int.natCast_add, chk_ok (by omega) (by omega), bsome, cut_of rfl rfl (by omega) (by omega), bsome, List.drop_take, Nat.add_sub_cancel_left, write_eq _ _ (by rw [List.length_take]; omega), bsome]
          dsimp only
          rw [bsome, ih (d - (rune (s.drop i)).2) (by omega) (i + (rune (s.drop i)).2) m false _ (by omega) (by omega) (by omega) (by rw [List.length_append, List.length_take]; omega), fix_ok b hl k1, List.drop_drop, List.append_assoc]
    · rw [if_neg (by omega), List.drop_eq_nil_of_le (by omega), fix_nil, List.append_nil]
theorem toValid_eq (s : List UInt8) (hs : s.length ≤ 1000000) : strings_ToValidUTF8 s [239, 191, 189] = some (fix false s) := by
  unfold strings_ToValidUTF8
  rw [if_pos ⟨hs, by simp, by simp⟩]
  obtain ⟨o, ho, hm⟩ := tv_L1 s s.length 0 FU (by omega) (FU_gt (by omega)) (by omega)
  rw [ho, bsome]
  cases o with
  | none =>
    dsimp only at hm ⊢
    rw [List.drop_zero] at hm
    rw [hm]
  | some j =>
    dsimp only at hm ⊢
    obtain ⟨m1, m2, m3⟩ := hm
    rw [List.drop_zero, Nat.sub_zero] at m3
    have := tv_L2 (s.drop j) (by rw [List.length_drop]; omega) (s.drop j).length 0 FU false (s.take j) (by omega) (FU_gt (by rw [List.length_drop]; omega)) (by omega) (by rw [List.length_take]; omega)
    rw [Int.natCast_zero, List.drop_zero] at this
    unfold strings_Builder_String
    rw [this, bsome, bsome, m3]
end Go.Ph.Md
end
section
namespace Go.Ph.Md
open Go.Ph.Pl Go.Ph.Pf
open Go.Ph.Chs (vld lower)
def tot (l : List Pce) : Nat := (l.map fun p => p.2.2.2.length).sum
theorem tot_cons (p : Pce) (l : List Pce) : tot (p :: l) = p.2.2.2.length + tot l := by unfold tot; rw [List.map_cons, List.sum_cons]
theorem tot_filter (f : Pce → Bool) : ∀ l : List Pce, tot (l.filter f) ≤ tot l
  | [] => Nat.le_refl _
  | p :: l => by
    have := tot_filter f l
    rw [tot_cons, List.filter_cons]
    split
    · rw [tot_cons]; omega
    · omega
theorem tot_perm {a b : List Pce} (h : a.Perm b) : tot a = tot b := by
  induction h with
  | nil => rfl
  | cons x _ ih => rw [tot_cons, tot_cons, ih]
  | swap x y l => rw [tot_cons, tot_cons, tot_cons, tot_cons]; omega
  | trans _ _ h1 h2 => rw [h1, h2]
theorem tot_txt : ∀ l : List Pce, (l.flatMap txt).length ≤ tot l
  | [] => Nat.le_refl _
  | p :: l => by
    have := tot_txt l
    have := txt_len p
    rw [List.flatMap_cons, List.length_append, tot_cons]; omega
theorem tot_mem {l : List Pce} {p : Pce} (h : p ∈ l) : p.2.2.2.length ≤ tot l := by
  induction l with
  | nil => cases h
  | cons q l ih =>
    rw [tot_cons]
    rcases List.mem_cons.1 h with rfl | h
    · omega
    · have := ih h; omega
structure Fit (l : List Pce) : Prop where
  len : l.length ≤ 4000
  tot : tot l ≤ 4000
  ok : ∀ p ∈ l, pcOk p ∧ p.1.length ≤ 4000
def smQ (p x : Pce) : Bool := decide (lower x.1 = lower p.1)
def grp (l : List Pce) (p : Pce) : List Pce := l.filter (smQ p)
theorem params_1_eq {x p : Pce} (hx : x.1.length ≤ 4000) (hp : p.1.length ≤ 4000) : media_params_1 x p = some (smQ p x) := by
  unfold media_params_1
  rw [same_eq (by unfold Big; omega) (by unfold Big; omega), bsome]; rfl
theorem indexQ (l : List Pce) (hl : l.length ≤ 4000) (f : Pce → Option Bool) (p : Pce → Bool) (hf : ∀ x ∈ l, f x = some (p x)) : slices_ContainsFunc_piece l f = some (l.any p) := by
  unfold slices_ContainsFunc_piece slices_IndexFunc_piece
  rcases scanP (fun m i => slices_IndexFunc_piece_L1 l f m i) l (fun i x => if p x = true then some (.inr (i : Int)) else none) (.inl ()) (fun m => by rw [slices_IndexFunc_piece_L1, if_neg (by omega)]) (fun m i h => by
    rw [slices_IndexFunc_piece_L1, if_pos (by omega), idx_nat, List.getElem?_eq_getElem h, bsome]
    have e : f (l[i].1, l[i].2.1, l[i].2.2.1, l[i].2.2.2) = some (p l[i]) := hf _ (List.getElem_mem h)
    rw [e, bsome, chk_succ (by omega), bsome]
    cases p l[i] <;> rfl) l.length 0 FU (by omega) (FU_gt (by omega)) (by omega) with ⟨j, hj, r, a1, a2, a3, a4⟩ | ⟨a1, a2⟩
  · rw [Int.natCast_zero] at a4
    have hp : p l[j] = true := by
      cases h : p l[j] with
      | true => rfl
      | false => rw [h, if_neg (by decide)] at a2; cases a2
    rw [hp, if_pos rfl] at a2
    cases a2
    rw [a4, bsome, bsome]
    rw [show l.any p = true from List.any_eq_true.2 ⟨_, List.getElem_mem hj, hp⟩, decide_eq_true (by omega)]
  · rw [Int.natCast_zero] at a2
    rw [a2, bsome, bsome]
    have : l.any p = false := by
      rw [List.any_eq_false]
      intro x hx hp
      obtain ⟨i, hi, rfl⟩ := List.getElem_of_mem hx
      have := a1 i hi (by omega)
      rw [hp, if_pos rfl] at this
      cases this
    rw [this]; rfl
theorem foldl_filt {α : Type} (p : α → Bool) : ∀ (l : List α) (o : List α), l.foldl (fun o x => if p x = true then o ++ [x] else o) o = o ++ l.filter p
  | [], o => by simp
  | x :: l, o => by
    rw [List.foldl_cons, foldl_filt p l]
    by_cases h : p x = true
    · rw [if_pos h, List.filter_cons_of_pos h]; simp
    · rw [if_neg h, List.filter_cons_of_neg h]
theorem group_eq (l : List Pce) (hl : Fit l) (p : Pce) (hp : p.1.length ≤ 4000) : media_params_L2 l p FU [] 0 = some (grp l p) := by
  have hlen := hl.len
  rw [foldI0 (L := fun m s i => media_params_L2 l p m s i) l (fun o x => if smQ p x = true then o ++ [x] else o) id (fun i s => s.length ≤ i) (by omega) ?_ ?_ [] (by simp), foldl_filt]
  · rfl
  · intro m s hs
    rw [media_params_L2, if_neg (by omega)]; rfl
  · intro m s i x hx hs
    have hi := (List.getElem?_eq_some_iff.1 hx).1
    have hxo := (hl.ok x (List.mem_of_getElem? hx)).2
    refine ⟨by split <;> (try rw [List.length_append, List.length_singleton]) <;> omega, ?_⟩
    rw [media_params_L2, if_pos (by omega), idx_nat, hx, bsome, show media_params_1 (x.1, x.2.1, x.2.2.1, x.2.2.2) (p.1, p.2.1, p.2.2.1, p.2.2.2) = some (smQ p x) from params_1_eq hxo hp, bsome]
    by_cases h : smQ p x = true
    · rw [if_pos h, if_pos h, app_ok (by simp; omega), bsome, chk_succ (by omega), bsome]
    · rw [if_neg h, if_neg h, chk_succ (by omega), bsome]
def upF (lo : Int) : Nat → List Int
  | 0 => []
  | k + 1 => lo :: upF (lo + 1) k
theorem up_mem : ∀ (k : Nat) (lo n : Int), n ∈ upF lo k ↔ lo ≤ n ∧ n < lo + k
  | 0, lo, n => by simp [upF]
  | k + 1, lo, n => by
    rw [upF, List.mem_cons, up_mem k (lo + 1) n]; omega
theorem up_nodup : ∀ (k : Nat) (lo : Int), (upF lo k).Nodup
  | 0, lo => List.nodup_nil
  | k + 1, lo => by
    rw [upF, List.nodup_cons]
    exact ⟨fun h => by rw [up_mem] at h; omega, up_nodup k (lo + 1)⟩
abbrev nums (l : List Pce) : List Int := l.map fun p => p.2.1
def okG (g : List Pce) : Prop := nums (sortP g) = upF 0 g.length
instance (g : List Pce) : Decidable (okG g) := by unfold okG; infer_instance
theorem sort_ex {g : List Pce} (h : ∀ p ∈ g, pcOk p) (hl : g.length ≤ 1000000) (hne : g ≠ []) : slices_SortFunc_piece g = some (sortP g) := by
  cases hs : slices_SortFunc_piece g with
  | none =>
    unfold slices_SortFunc_piece at hs
    rw [if_pos ⟨h, hl, hne⟩] at hs
    split at hs <;> cases hs
  | some r => rw [(sort_some hs).2.2.2]
def jnV (g : List Pce) : Option (List UInt8) :=
  match g with
  | [] => none
  | p :: r => if p.2.1 < 0 then (if r = [] then some p.2.2.2 else none) else if okG (p :: r) then some (fix false ((sortP (p :: r)).flatMap txt)) else none
theorem joined_L1 (l : List Pce) (hl : l.length ≤ 4000) (ht : tot l ≤ 4000) (s13 s14 s15 : List UInt8) : ∀ (d i m : Nat) (acc : List UInt8), l.length - i ≤ d → d < m → i ≤ l.length → acc.length + tot (l.drop i) ≤ 4000 →
    ∃ o, media_joined_L1 l m s13 s14 s15 acc (i : Int) = some o ∧ (nums (l.drop i) = upF (i : Int) (l.length - i) → o = .inl (s13, s14, s15, acc ++ (l.drop i).flatMap txt)) ∧ (¬ nums (l.drop i) = upF (i : Int) (l.length - i) → ∃ x, o = .inr (x, false)) := by
  intro d
  induction d with
  | zero =>
    intro i m acc h1 h2 h3 h4
    obtain ⟨m, rfl⟩ : ∃ k, m = k + 1 := ⟨m - 1, by omega⟩
    rw [media_joined_L1, if_neg (by omega), List.drop_eq_nil_of_le (by omega), show l.length - i = 0 by omega]
    exact ⟨_, rfl, fun _ => by rw [List.flatMap_nil, List.append_nil], fun h => absurd rfl h⟩
  | succ d ih =>
    intro i m acc h1 h2 h3 h4
    obtain ⟨m, rfl⟩ : ∃ k, m = k + 1 := ⟨m - 1, by omega⟩
    by_cases hi : i < l.length
    · have hd := List.drop_eq_getElem_cons hi
      rw [hd, tot_cons] at h4
      have hx := txt_len l[i]
      rw [media_joined_L1, if_pos (by omega), idx_nat, List.getElem?_eq_getElem hi, bsome, hd, show l.length - i = (l.length - (i + 1)) + 1 by omega, upF]
      by_cases hn : l[i].2.1 = (i : Int)
      · rw [if_pos hn, show ((l[i].1, l[i].2.1, l[i].2.2.1, l[i].2.2.2) : Pce) = l[i] from rfl, text_eq _ (by omega), bsome, cat_ok (by omega), bsome, chk_succ (by omega), bsome]
        obtain ⟨o, ho, hq⟩ := ih (i + 1) m (acc ++ txt l[i]) (by omega) (by omega) (by omega) (by rw [List.length_append]; omega)
        have he : nums (l[i] :: l.drop (i + 1)) = l[i].2.1 :: nums (l.drop (i + 1)) := rfl
        rw [he, hn, List.flatMap_cons, ← List.append_assoc]
        exact ⟨o, ho, fun e => hq.1 (List.cons.inj e).2, fun e => hq.2 (fun e' => e (by rw [e']; rfl))⟩
      · rw [if_neg hn]
        exact ⟨_, rfl, fun e => absurd (List.cons.inj (show l[i].2.1 :: nums (l.drop (i + 1)) = _ from e)).1 hn, fun _ => ⟨_, rfl⟩⟩
    · rw [media_joined_L1, if_neg (by omega), List.drop_eq_nil_of_le (by omega), show l.length - i = 0 by omega]
      exact ⟨_, rfl, fun _ => by rw [List.flatMap_nil, List.append_nil], fun h => absurd rfl h⟩
theorem joined_eq (g : List Pce) (hne : g ≠ []) (hg : Fit g) : ∃ x v b, media_joined g = some ((x, v), b) ∧ jnV g = if b = true then some v else none := by
  obtain ⟨p, r, rfl⟩ : ∃ p r, g = p :: r := by cases g with | nil => exact absurd rfl hne | cons p r => exact ⟨p, r, rfl⟩
  have hok : ∀ q ∈ p :: r, pcOk q := fun q hq => (hg.ok q hq).1
  have hp := sortP_perm hok
  have hl := hg.len
  have ht := hg.tot
  unfold media_joined jnV
  rw [show idx (p :: r) 0 = some p from rfl, bsome, bsome, bsome]
  dsimp only
  by_cases h0 : p.2.1 < 0
  · rw [if_pos h0, if_pos h0]
    refine ⟨_, _, _, rfl, ?_⟩
    by_cases hr : r = []
    · subst hr; rfl
    · rw [if_neg hr, decide_eq_false (by have := List.length_pos_iff.2 hr; simp; omega), if_neg (by decide)]
  · rw [if_neg h0, if_neg h0, sort_ex hok (by omega) (by simp), bsome]
    obtain ⟨o, ho, hq⟩ := joined_L1 (sortP (p :: r)) (by rw [hp.length_eq]; exact hl) (by rw [tot_perm hp]; exact ht) [] [] p.1 (sortP (p :: r)).length 0 FU [] (by omega) (FU_gt (by rw [hp.length_eq]; omega)) (by omega) (by rw [List.drop_zero, tot_perm hp, List.length_nil]; omega)
    rw [Int.natCast_zero, List.drop_zero, Nat.sub_zero, List.nil_append, hp.length_eq] at hq
    rw [Int.natCast_zero] at ho
    rw [ho, bsome]
    have hx := tot_txt (sortP (p :: r))
    rw [tot_perm hp] at hx
    by_cases hk : okG (p :: r)
    · rw [if_pos hk]
      have hq := hq.1 hk
      subst hq
      dsimp only
      rw [toValid_eq _ (by omega), bsome]
      exact ⟨_, _, _, rfl, by rw [if_pos rfl]⟩
    · rw [if_neg hk]
      obtain ⟨⟨x, y⟩, rfl⟩ := hq.2 hk
      exact ⟨_, _, _, rfl, by rw [if_neg (by decide)]⟩
def parI (l : List Pce) (pre : List Pce) : List Pce → Option (List Par)
  | [] => some []
  | p :: r => if pre.any (smQ p) = true then parI l (pre ++ [p]) r else (jnV (grp l p)).bind fun v => (parI l (pre ++ [p]) r).map fun q => (p.1, v) :: q
theorem grp_fit {l : List Pce} (h : Fit l) (p : Pce) : Fit (grp l p) := by
  refine ⟨Nat.le_trans (List.length_filter_le _ _) h.len, Nat.le_trans (tot_filter _ _) h.tot, fun q hq => h.ok q (List.mem_filter.1 hq).1⟩
theorem grp_mem {l : List Pce} {p : Pce} (h : p ∈ l) : p ∈ grp l p := List.mem_filter.2 ⟨h, by unfold smQ; exact decide_eq_true rfl⟩
theorem params_L1 (l : List Pce) (hl : Fit l) : ∀ (d i m : Nat) (out : List Par), l.length - i ≤ d → d < m → i ≤ l.length → out.length ≤ i →
    media_params_L1 l m out (i : Int) = some (match parI l (l.take i) (l.drop i) with | some q => .inl (out ++ q) | none => .inr ([], false)) := by
  have hlen := hl.len
  intro d
  induction d with
  | zero =>
    intro i m out h1 h2 h3 h4
    obtain ⟨m, rfl⟩ : ∃ k, m = k + 1 := ⟨m - 1, by omega⟩
    rw [media_params_L1, if_neg (by omega), List.drop_eq_nil_of_le (by omega), parI]
    dsimp only
    rw [List.append_nil]
  | succ d ih =>
    intro i m out h1 h2 h3 h4
    obtain ⟨m, rfl⟩ : ∃ k, m = k + 1 := ⟨m - 1, by omega⟩
    by_cases hi : i < l.length
    · have hmem := List.getElem_mem hi
      have hpo := (hl.ok _ hmem).2
      rw [media_params_L1, if_pos (by omega), idx_nat, List.getElem?_eq_getElem hi, bsome, cut_to rfl (by omega), bsome, List.drop_eq_getElem_cons hi, parI, ← take_drop_cons hi,
        indexQ (l.take i) (by rw [List.length_take]; omega) _ (smQ l[i]) (fun x hx => params_1_eq (hl.ok x (List.mem_of_mem_take hx)).2 hpo), bsome]
      by_cases ha : (l.take i).any (smQ l[i]) = true
      · rw [if_pos ha, if_pos ha, chk_succ (by omega), bsome, ih (i + 1) m out (by omega) (by omega) (by omega) (by omega)]
      · rw [if_neg ha, if_neg ha, group_eq l hl _ hpo, bsome]
        obtain ⟨x, v, b, hj, hv⟩ := joined_eq (grp l l[i]) (List.ne_nil_of_mem (grp_mem hmem)) (grp_fit hl _)
        rw [hj, bsome, hv]
        dsimp only
        cases b with
        | false => rfl
        | true =>
          rw [if_pos rfl, if_pos rfl, app_ok (by simp; omega), bsome, chk_succ (by omega), bsome, ih (i + 1) m _ (by omega) (by omega) (by omega) (by simp; omega), bsome]
          cases parI l (l.take (i + 1)) (l.drop (i + 1)) with
          | none => rfl
          | some q => simp
    · rw [media_params_L1, if_neg (by omega), List.drop_eq_nil_of_le (by omega), parI]
      dsimp only
      rw [List.append_nil]
theorem params_eq (l : List Pce) (hl : Fit l) : media_params l = some (match parI l [] l with | some q => (q, true) | none => ([], false)) := by
  have hlen := hl.len
  unfold media_params
  have := params_L1 l hl l.length 0 FU [] (by omega) (FU_gt (by omega)) (by omega) (by simp)
  rw [Int.natCast_zero, List.drop_zero, List.take_zero] at this
  rw [this, bsome]
  cases parI l [] l with
  | none => rfl
  | some q => rfl
end Go.Ph.Md
end
section
namespace Go.Ph.Md
open Go.Ph.Pl Go.Ph.Pf
open Go.Ph.Chs (vld lower)
theorem tw_dw (p : UInt8 → Bool) (l : List UInt8) : (l.takeWhile p).length + (l.dropWhile p).length = l.length := by
  have := tw_len p l
  rw [← tw_drop, List.length_drop]; omega
theorem qv_sum : ∀ (n : Nat) (t : List UInt8) (v r : List UInt8), t.length ≤ n → qv t = some (v, r) → v.length + r.length < t.length
  | n, [], v, r, hn, h => by cases h
  | 0, c :: t, v, r, hn, h => by simp at hn
  | n + 1, c :: t, v, r, hn, h => by
    rw [qv_cons] at h
    rw [List.length_cons] at hn ⊢
    by_cases h1 : c = 34
    · rw [if_pos h1] at h; cases h; simp
    · rw [if_neg h1] at h
      by_cases h2 : c = 92
      · rw [if_pos h2] at h
        cases t with
        | nil => cases h
        | cons d t =>
          obtain ⟨⟨v', r'⟩, h3, h4⟩ := Option.map_eq_some_iff.1 h
          dsimp only at h4
          cases h4
          have := qv_sum n t v' _ (by rw [List.length_cons] at hn; omega) h3
          rw [List.length_cons, List.length_cons]; omega
      · rw [if_neg h2] at h
        obtain ⟨⟨v', r'⟩, h3, h4⟩ := Option.map_eq_some_iff.1 h
        dsimp only at h4
        cases h4
        have := qv_sum n t v' _ (by omega) h3
        rw [List.length_cons]; omega
theorem vl_sum {t v r : List UInt8} (h : vl t = some (v, r)) : v.length + r.length ≤ t.length := by
  unfold vl at h
  cases hs : sgn 34 t with
  | some q =>
    rw [hs] at h
    have h1 := sgn_len hs
    have h2 := qv_sum _ _ _ _ (Nat.le_refl _) h
    omega
  | none =>
    rw [hs] at h
    cases h
    have h1 := tl_len t
    have h2 := tw_dw (pN [37, 39, 42]) (tl t)
    omega
theorem rdP_sum {num : List UInt8 → Option Int} {t r : List UInt8} {p : Pce} (h : rdP num t = some (p, r)) : p.2.2.2.length + r.length < t.length := by
  unfold rdP at h
  obtain ⟨t2, h1, h⟩ := bnd h
  obtain ⟨⟨v, r'⟩, h2, h⟩ := bnd h
  obtain ⟨p', h3, h4⟩ := Option.map_eq_some_iff.1 h
  dsimp only at h4
  cases h4
  have a1 := sgn_len h1
  have a2 := dw_len (pN [42]) (tl t)
  have a3 := tl_len t
  have a4 := vl_sum h2
  obtain ⟨b1, b2, b3, b4⟩ := mkP_some h3
  dsimp only at b2
  rw [b2]; omega
def numOk (num : List UInt8 → Option Int) : Prop := ∀ s n, num s = some n → 0 ≤ n ∧ n ≤ 1099511627776
theorem numP_ok : numOk numP := fun s n h => by
  unfold numP at h
  split at h
  · rename_i hc
    cases h
    exact ⟨hc.2.2.1, hc.2.2.2⟩
  · cases h
theorem pcs_fit {num : List UInt8 → Option Int} (hn : numOk num) : ∀ (m : Nat) (t : List UInt8) (q : List Pce) (r : List UInt8), pcs num m t = some (q, r) → tl r = r ∧ q.length + r.length ≤ t.length ∧ tot q + r.length ≤ t.length ∧ ∀ p ∈ q, pcOk p ∧ p.1.length ≤ t.length
  | 0, t, q, r, h => by cases h
  | m + 1, t, q, r, h => by
    rw [pcs] at h
    cases hs : sgn 59 t with
    | none =>
      rw [hs] at h
      cases h
      have := tl_len t
      exact ⟨tl_tl t, by simpa using this, by unfold tot; simpa using this, fun p hp => by cases hp⟩
    | some t2 =>
      rw [hs] at h
      dsimp only at h
      have h1 := sgn_len hs
      obtain ⟨⟨p, t3⟩, h2, h⟩ := bnd h
      obtain ⟨⟨q', r'⟩, h3, h4⟩ := Option.map_eq_some_iff.1 h
      dsimp only at h3 h4
      cases h4
      have h5 := rdP_sum h2
      obtain ⟨k1, k2, k3, k4, k5⟩ := rdP_some h2
      obtain ⟨i1, i2, i3, i4⟩ := pcs_fit hn m t3 q' _ h3
      refine ⟨i1, by rw [List.length_cons]; omega, by rw [tot_cons]; omega, fun x hx => ?_⟩
      rcases List.mem_cons.1 hx with rfl | hx
      · refine ⟨?_, by omega⟩
        unfold pcOk
        rcases k5 with k5 | ⟨s, k5⟩
        · omega
        · have := hn s _ k5; omega
      · have := i4 x hx
        exact ⟨this.1, by omega⟩
theorem fit_of {num : List UInt8 → Option Int} (hn : numOk num) {m : Nat} {t : List UInt8} {q : List Pce} {r : List UInt8} (h : pcs num m t = some (q, r)) (ht : t.length ≤ 4000) : Fit q := by
  obtain ⟨a, b, c, d⟩ := pcs_fit hn m t q r h
  exact ⟨by omega, by omega, fun p hp => ⟨(d p hp).1, by have := (d p hp).2; omega⟩⟩
def readM (num : List UInt8 → Option Int) (t : List UInt8) : Option Med :=
  (sgn 47 ((tl t).dropWhile tkB)).bind fun t2 => if (tl t).takeWhile tkB = [] ∨ (tl t2).takeWhile tkB = [] then none else
    (pcs num FU ((tl t2).dropWhile tkB)).bind fun q => if q.2 = [] then (parI q.1 [] q.1).map fun ps => ((tl t).takeWhile tkB, (tl t2).takeWhile tkB, ps) else none
theorem parse_eq (t : List UInt8) (ht : t.length ≤ 4000) : ∃ m b, media_parse t = some (m, b) ∧ readM numP t = if b = true then some m else none := by
  unfold media_parse readM
  have a1 := tl_len t
  have a2 := dw_len tkB (tl t)
  rw [take_eq t (by unfold Big; omega) _ _ tokenByte_eq, bsome]
  dsimp only
  rw [sign_eq _ (by unfold Big; omega)]
  cases hs : sgn 47 ((tl t).dropWhile tkB) with
  | none =>
    dsimp only
    have a3 := tl_len ((tl t).dropWhile tkB)
    rw [bsome]
    dsimp only
    rw [take_eq _ (by unfold Big; omega) _ _ tokenByte_eq, bsome]
    dsimp only
    have e : ∀ c : Bool, (if (tl t).takeWhile tkB = [] then some true else (if false = true then some c else some true)) = some true := fun c => by split <;> rfl
    rw [e, bsome, if_pos rfl]
    exact ⟨_, _, rfl, rfl⟩
  | some t2 =>
    have a3 := sgn_len hs
    have a4 := tl_len t2
    have a5 := dw_len tkB (tl t2)
    dsimp only
    rw [bsome]
    dsimp only
    rw [take_eq t2 (by unfold Big; omega) _ _ tokenByte_eq, bsome, bsome]
    dsimp only
    by_cases he : (tl t).takeWhile tkB = [] ∨ (tl t2).takeWhile tkB = []
    · have e : (if (tl t).takeWhile tkB = [] then some true else (if true = true then some (decide ((tl t2).takeWhile tkB = [])) else some true)) = some true := by
        rcases he with h | h
        · rw [if_pos h]
        · rw [decide_eq_true h]; split <;> rfl
      rw [e, bsome, if_pos rfl, if_pos he]
      exact ⟨_, _, rfl, rfl⟩
    · have e : (if (tl t).takeWhile tkB = [] then some true else (if true = true then some (decide ((tl t2).takeWhile tkB = [])) else some true)) = some false := by
        rw [if_neg (fun h => he (.inl h)), if_pos rfl, decide_eq_false (fun h => he (.inr h))]
      rw [e, bsome, if_neg Bool.false_ne_true, if_neg he, parse_L1 _ _ [] [] [] 4000 FU _ [] (by omega) (FU_gt (by omega)) (by simp; omega)]
      cases hp : pcs numP FU ((tl t2).dropWhile tkB) with
      | none => exact ⟨_, _, rfl, rfl⟩
      | some q =>
        obtain ⟨q, r⟩ := q
        have hf := fit_of numP_ok hp (by omega)
        obtain ⟨hr, hrl, _⟩ := pcs_fit numP_ok _ _ _ _ hp
        dsimp only
        rw [bsome, bsome]
        dsimp only
        rw [blanks_eq r (by unfold Big; omega), bsome, List.nil_append, params_eq q hf, hr, bsome]
        cases hj : parI q [] q with
        | none =>
          refine ⟨_, _, rfl, ?_⟩
          split <;> rfl
        | some ps =>
          refine ⟨_, _, rfl, ?_⟩
          dsimp only
          by_cases h0 : r = []
          · rw [if_pos h0, decide_eq_true h0]; rfl
          · rw [if_neg h0, decide_eq_false h0]; rfl
theorem fix_len : ∀ (n : Nat) (t : List UInt8) (b : Bool), t.length ≤ n → (fix b t).length ≤ 4 * t.length
  | n, [], b, _ => Nat.le_refl _
  | 0, c :: t, b, h => by simp at h
  | n + 1, c :: t, b, h => by
    have hl : (c :: t) ≠ [] := by simp
    obtain ⟨r1, _, r2⟩ := Utf.rune_size (c :: t)
    have r2' := r2 hl
    by_cases h0 : 0 ≤ (Utf.rune (c :: t)).1
    · have := fix_len n ((c :: t).drop (Utf.rune (c :: t)).2) false (by rw [List.length_drop]; omega)
      rw [List.length_drop] at this
      rw [fix_ok b hl h0, List.length_append, List.length_take]; omega
    · have := fix_len n ((c :: t).drop 1) true (by rw [List.length_drop]; omega)
      rw [List.length_drop] at this
      rw [fix_bad b hl (by omega), List.length_append]
      have hh : (if b = true then [] else [239, 191, 189] : List UInt8).length ≤ 3 := by split <;> simp
      rw [List.length_cons] at *
      omega
theorem jnV_len {g : List Pce} (hg : Fit g) {v : List UInt8} (h : jnV g = some v) : v.length ≤ 16000 := by
  cases g with
  | nil => cases h
  | cons p r =>
    unfold jnV at h
    dsimp only at h
    split at h
    · split at h
      · cases h
        have := tot_mem (l := p :: r) List.mem_cons_self
        have := hg.tot
        omega
      · cases h
    · split at h
      · cases h
        have hok : ∀ q ∈ p :: r, pcOk q := fun q hq => (hg.ok q hq).1
        have h1 := tot_txt (sortP (p :: r))
        rw [tot_perm (sortP_perm hok)] at h1
        have h2 := hg.tot
        have h3 := fix_len _ ((sortP (p :: r)).flatMap txt) false (Nat.le_refl _)
        omega
      · cases h
theorem parI_big {l : List Pce} (hl : Fit l) : ∀ (r pre : List Pce) (q : List Par), (∀ p ∈ r, p ∈ l) → parI l pre r = some q → q.length ≤ r.length ∧ BigP q
  | [], pre, q, _, h => by cases h; exact ⟨Nat.le_refl _, fun x hx => by cases hx⟩
  | p :: r, pre, q, hm, h => by
    have hm' : ∀ x ∈ r, x ∈ l := fun x hx => hm x (List.mem_cons_of_mem _ hx)
    rw [parI] at h
    split at h
    · have := parI_big hl r _ q hm' h
      exact ⟨by rw [List.length_cons]; omega, this.2⟩
    · obtain ⟨v, h1, h⟩ := bnd h
      obtain ⟨q', h2, h3⟩ := Option.map_eq_some_iff.1 h
      cases h3
      have := parI_big hl r _ q' hm' h2
      refine ⟨by rw [List.length_cons, List.length_cons]; omega, fun x hx => ?_⟩
      rcases List.mem_cons.1 hx with rfl | hx
      · have h4 := jnV_len (grp_fit hl p) h1
        have h5 := (hl.ok p (hm p List.mem_cons_self)).2
        exact ⟨by unfold Big; dsimp only; omega, by unfold Big; dsimp only; omega⟩
      · exact this.2 x hx
theorem readM_big {t : List UInt8} (ht : t.length ≤ 4000) {m : Med} (h : readM numP t = some m) : BigM m ∧ m.2.2.length ≤ 4000 := by
  unfold readM at h
  obtain ⟨t2, h1, h⟩ := bnd h
  split at h
  · cases h
  · obtain ⟨q, h2, h⟩ := bnd h
    split at h
    · obtain ⟨ps, h3, h4⟩ := Option.map_eq_some_iff.1 h
      cases h4
      have a1 := tl_len t
      have a2 := dw_len tkB (tl t)
      have a3 := sgn_len h1
      have a4 := tl_len t2
      have a5 := dw_len tkB (tl t2)
      have a6 := tw_len tkB (tl t)
      have a7 := tw_len tkB (tl t2)
      have hf := fit_of numP_ok (q := q.1) (r := q.2) h2 (by omega)
      have hP := parI_big hf q.1 [] ps (fun p hp => hp) h3
      have := hf.len
      exact ⟨⟨by unfold Big; dsimp only; omega, by unfold Big; dsimp only; omega, hP.2⟩, by dsimp only; omega⟩
    · cases h
theorem same_media (a b : Med) (hl : a.2.2.length ≤ 1000000) : R_SameMedia a b = some (decide (a = b)) := by
  obtain ⟨a1, a2, a3⟩ := a
  obtain ⟨b1, b2, b3⟩ := b
  unfold R_SameMedia
  dsimp only at hl ⊢
  by_cases h1 : a1 = b1
  · rw [if_pos h1]
    by_cases h2 : a2 = b2
    · rw [if_pos h2, bsome]
      by_cases h3 : a3.length = b3.length
      · rw [decide_eq_true (by omega), if_neg (show ¬ (!true) = true by decide)]
        rcases scanP (fun m i => R_SameMedia_L1 (a1, a2, a3) (b1, b2, b3) m i) a3 (fun i x => if b3[i]? = some x then none else some (.inr false)) (.inl ()) (fun m => by rw [R_SameMedia_L1, if_neg (by dsimp only; omega)]) (fun m i h => by
          rw [R_SameMedia_L1]
          dsimp only
          rw [if_pos (by omega), idx_nat, List.getElem?_eq_getElem h, bsome, idx_nat, List.getElem?_eq_getElem (by omega : i < b3.length), bsome, chk_succ (by omega), bsome]
          by_cases he : a3[i] = b3[i]'(by omega)
          · rw [if_pos ⟨by rw [he], by rw [he]⟩, if_pos (by rw [he])]
          · rw [if_neg (fun h => he (Prod.ext h.1 h.2)), if_neg (fun h => he (Option.some.inj h).symm)]) a3.length 0 FU (by omega) (FU_gt (by omega)) (by omega) with ⟨j, hj, r, q1, q2, q3, q4⟩ | ⟨q1, q2⟩
        · rw [Int.natCast_zero] at q4
          have hne : b3[j]? ≠ some a3[j] := fun e => by rw [if_pos e] at q2; cases q2
          rw [if_neg hne] at q2
          cases q2
          rw [q4, bsome]
          dsimp only
          rw [decide_eq_false (fun e => hne (by
            have : a3 = b3 := (Prod.mk.inj (Prod.mk.inj e).2).2
            subst this
            exact List.getElem?_eq_getElem hj))]
        · rw [Int.natCast_zero] at q2
          have : a3 = b3 := by
            apply List.ext_getElem?
            intro i
            by_cases hi : i < a3.length
            · have := q1 i hi (by omega)
              by_cases he : b3[i]? = some a3[i]
              · rw [he, List.getElem?_eq_getElem hi]
              · rw [if_neg he] at this; cases this
            · rw [List.getElem?_eq_none (by omega), List.getElem?_eq_none (by omega)]
          rw [q2, bsome]
          dsimp only
          rw [decide_eq_true (by rw [h1, h2, this])]
      · rw [decide_eq_false (by omega), if_pos (show (!false) = true by decide), decide_eq_false (fun e => h3 (by rw [(Prod.mk.inj (Prod.mk.inj e).2).2]))]
    · rw [if_neg h2, bsome, if_pos rfl, decide_eq_false (fun e => h2 (Prod.mk.inj (Prod.mk.inj e).2).1)]
  · rw [if_neg h1, bsome, if_pos rfl, decide_eq_false (fun e => h1 (Prod.mk.inj e).1)]
def prsR (t : List UInt8) : Med × (Int × Int) :=
  if 4000 < t.length then (([], [], []), (1, -1)) else match readM numP t with
    | none => (([], [], []), (11, -5))
    | some m => if (valM m).1 = 0 then (m, (0, 0)) else (([], [], []), ((valM m).1, -6))
theorem Parse_eq (t : List UInt8) : media_Parse t = some (prsR t) := by
  unfold media_Parse prsR
  by_cases h : 4000 < t.length
  · rw [if_pos (by omega), if_pos h, fault_eq, bsome]
  · rw [if_neg (by omega), if_neg h]
    obtain ⟨m, b, hp, hr⟩ := parse_eq t (by omega)
    rw [hp, bsome, hr]
    dsimp only
    cases b with
    | false => rw [if_neg Bool.false_ne_true, fault_eq, bsome]; rfl
    | true =>
      rw [if_pos rfl] at hr
      have hb := (readM_big (by omega) hr).1
      rw [if_pos rfl, show (m.1, m.2.1, m.2.2) = m from rfl, validate_eq m hb, bsome]
      rw [failed_eq, bsome]
      obtain ⟨⟨x, y⟩, hv⟩ : ∃ p, valM m = p := ⟨_, rfl⟩
      rw [hv]
      dsimp only
      rw [if_pos rfl]
      dsimp only
      by_cases hx : x = 0
      · rw [decide_eq_true hx, if_neg (show ¬ (!true) = true by decide), none_eq, bsome, hv, if_pos hx]
      · rw [decide_eq_false hx, if_pos (show (!false) = true by decide), fault_eq, bsome, hv, if_neg hx]
end Go.Ph.Md
end
section
namespace Go.Ph.Md
open Go.Ph.Pl Go.Ph.Pf
open Go.Ph.Chs (vld lower)
theorem tw_app {p : UInt8 → Bool} : ∀ {a r : List UInt8}, a.all p = true → (∀ c s, r = c :: s → p c = false) → (a ++ r).takeWhile p = a ∧ (a ++ r).dropWhile p = r
  | [], r, _, hr => by
    rw [List.nil_append]
    cases r with
    | nil => exact ⟨rfl, rfl⟩
    | cons c s =>
      rw [List.takeWhile_cons, List.dropWhile_cons, hr c s rfl]
      exact ⟨rfl, rfl⟩
  | x :: a, r, ha, hr => by
    rw [List.all_cons, Bool.and_eq_true] at ha
    obtain ⟨h1, h2⟩ := tw_app ha.2 hr
    rw [List.cons_append, List.takeWhile_cons, List.dropWhile_cons, ha.1, h1, h2]
    exact ⟨rfl, rfl⟩
theorem tl_head {l : List UInt8} (h : ∀ c r, l = c :: r → blB c = false) : tl l = l := dw_id h
theorem tl_32 (l : List UInt8) : tl (32 :: l) = tl l := by
  unfold tl
  rw [List.dropWhile_cons, show blB 32 = true from rfl]; rfl
theorem sgn_hit {c : UInt8} (h : blB c = false) (r : List UInt8) : sgn c (c :: r) = some r := by
  unfold sgn
  rw [tl_head (fun x s e => by cases e; exact h)]
  dsimp only
  rw [if_pos rfl]
theorem sgn_miss {c : UInt8} {l : List UInt8} (h : ∀ x r, l = x :: r → blB x = false ∧ x ≠ c) : sgn c l = none := by
  unfold sgn
  rw [tl_head fun x r e => (h x r e).1]
  cases l with
  | nil => rfl
  | cons x r =>
    dsimp only
    rw [if_neg (h x r rfl).2]
theorem tk_bl (c : UInt8) : tkB c = true → blB c = false := allB (p := fun c => tkB c = true → blB c = false) (by decide +kernel) c
theorem p42_bl (c : UInt8) : pN [42] c = true → blB c = false := allB (p := fun c => pN [42] c = true → blB c = false) (by decide +kernel) c
theorem pv_bl (c : UInt8) : pN [37, 39, 42] c = true → blB c = false ∧ c ≠ 34 := allB (p := fun c => pN [37, 39, 42] c = true → blB c = false ∧ c ≠ 34) (by decide +kernel) c
theorem tk_p (more : List UInt8) (c : UInt8) (h : tkB c = true) : pN more c = true := by unfold pN; rw [h, Bool.true_or]
theorem tk_ns (c : UInt8) : tkB c = true → ns c = true := allB (p := fun c => tkB c = true → ns c = true) (by decide +kernel) c
theorem all_mono {p q : UInt8 → Bool} (h : ∀ c, p c = true → q c = true) {l : List UInt8} (hl : l.all p = true) : l.all q = true := List.all_eq_true.2 fun c hc => h c (List.all_eq_true.1 hl c hc)
theorem app_head {p q : UInt8 → Bool} (hpq : ∀ c, p c = true → q c = false) {a r : List UInt8} (ha : a.all p = true) (hr : ∀ c s, r = c :: s → q c = false) : ∀ c s, a ++ r = c :: s → q c = false := by
  intro c s e
  cases a with
  | nil => exact hr c s e
  | cons x a =>
    cases e
    rw [List.all_cons, Bool.and_eq_true] at ha
    exact hpq _ ha.1
def semi (R : List UInt8) : Prop := ∀ c s, R = c :: s → c = 59
theorem semi_nil : semi [] := fun c s e => by cases e
theorem semi_cons (l : List UInt8) : semi (59 :: l) := fun c s e => by cases e; rfl
theorem vl_tok {v R : List UInt8} (hv : v.all (pN [37, 39, 42]) = true) (hR : semi R) : vl (v ++ R) = some (v, R) := by
  have hb : ∀ c s, v ++ R = c :: s → blB c = false ∧ c ≠ 34 := fun c s e => by
    cases v with
    | nil => cases hR c s e; exact ⟨rfl, by decide⟩
    | cons x v =>
      cases e
      rw [List.all_cons, Bool.and_eq_true] at hv
      exact pv_bl _ hv.1
  obtain ⟨h1, h2⟩ := tw_app hv (r := R) (fun c s e => by cases hR c s e; rfl)
  unfold vl
  rw [sgn_miss hb]
  dsimp only
  rw [tl_head fun c s e => (hb c s e).1, h1, h2]
theorem mkP_num {num : List UInt8 → Option Int} {n s : List UInt8} {i : Int} (h : n.all tkB = true) (hn : n ≠ []) (v : List UInt8) (hs : num (cutS s).1 = some i) : mkP num (n ++ 42 :: s) v = some (n, i, (cutS s).2, v) := by
  obtain ⟨h1, h2⟩ := tw_app (all_mono tk_ns h) (r := 42 :: s) (fun c r e => by cases e; rfl)
  have e1 : cutB (n ++ 42 :: s) = n := h1
  have e2 : cutR (n ++ 42 :: s) = s := by unfold cutR; rw [h2]; rfl
  unfold mkP
  rw [if_pos (by simp), e1, e2, if_neg hn, hs]; rfl
theorem pcs_one {num : List UInt8 → Option Int} {nm v w R : List UInt8} {p : Pce} (m : Nat) (hn : nm.all (pN [42]) = true) (hv : vl (v ++ R) = some (w, R)) (hm : mkP num nm w = some p) :
    pcs num (m + 1) ([59, 32] ++ nm ++ [61] ++ v ++ R) = (pcs num m R).map fun q => (p :: q.1, q.2) := by
  have e : [59, 32] ++ nm ++ [61] ++ v ++ R = 59 :: 32 :: (nm ++ 61 :: (v ++ R)) := by simp
  obtain ⟨h1, h2⟩ := tw_app hn (r := 61 :: (v ++ R)) (fun c s e => by cases e; rfl)
  have h3 : tl (32 :: (nm ++ 61 :: (v ++ R))) = nm ++ 61 :: (v ++ R) := by
    rw [tl_32]
    exact tl_head (app_head p42_bl hn (fun c s e => by cases e; rfl))
  have h4 : rdP num (32 :: (nm ++ 61 :: (v ++ R))) = some (p, R) := by
    unfold rdP
    rw [h3, h1, h2, sgn_hit rfl, bsome, hv, bsome, hm]; rfl
  rw [e, pcs, sgn_hit rfl]
  dsimp only
  rw [h4, bsome]
structure PV (x : Par) : Prop where
  tok : tkT x.1 = true
  len : x.2.length ≤ 500
  val : vld x.2 = true
theorem PV.all {x : Par} (h : PV x) : x.1.all tkB = true := List.all_eq_true.2 (tkT_all h.tok)
theorem up_le : ∀ (k : Nat) (lo : Int), (upF lo k).Pairwise (· ≤ ·)
  | 0, lo => List.Pairwise.nil
  | k + 1, lo => by
    rw [upF]
    exact List.pairwise_cons.2 ⟨fun n hn => by rw [up_mem] at hn; omega, up_le k (lo + 1)⟩
theorem sort_id {g : List Pce} (h : ∀ p ∈ g, pcOk p) {lo : Int} (hg : nums g = upF lo g.length) : sortP g = g := by
  have hp := sortP_perm h
  refine uniqP hp (sortP_sorted h) ?_ ?_
  · have := up_le g.length lo
    rw [← hg, List.pairwise_map] at this
    exact this
  · have : (nums g).Nodup := by rw [hg]; exact up_nodup _ _
    exact ((hp.map _).nodup_iff).2 this
theorem jnV_of {g : List Pce} {p : Pce} {r : List Pce} (he : g = p :: r) (h0 : 0 ≤ p.2.1) (ho : okG g) : jnV g = some (fix false ((sortP g).flatMap txt)) := by
  subst he
  unfold jnV
  dsimp only
  rw [if_neg (by omega), if_pos ho]
theorem tok_ne {t : List UInt8} (h : tkT t = true) : t ≠ [] := fun e => by
  have := (tkT_len h).1
  rw [e] at this
  simp at this
theorem readM_of {ty sb R : List UInt8} {q : List Pce} {ps : List Par} (h1 : tkT ty = true) (h2 : tkT sb = true) (hR : semi R) (hp : pcs numP FU R = some (q, [])) (hi : parI q [] q = some ps) : readM numP (ty ++ [47] ++ sb ++ R) = some (ty, sb, ps) := by
  have a1 : ty.all tkB = true := List.all_eq_true.2 (tkT_all h1)
  have a2 : sb.all tkB = true := List.all_eq_true.2 (tkT_all h2)
  have e : ty ++ [47] ++ sb ++ R = ty ++ 47 :: (sb ++ R) := by simp
  have hR' : ∀ (f : UInt8 → Bool), f 59 = false → ∀ c s, R = c :: s → f c = false := fun f hf c s e => by rw [hR c s e]; exact hf
  have t1 : tl (ty ++ 47 :: (sb ++ R)) = ty ++ 47 :: (sb ++ R) := tl_head (app_head tk_bl a1 (fun c s e => by cases e; rfl))
  have t2 : tl (sb ++ R) = sb ++ R := tl_head (app_head tk_bl a2 (hR' blB rfl))
  obtain ⟨b1, b2⟩ := tw_app a1 (r := 47 :: (sb ++ R)) (fun c s e => by cases e; rfl)
  obtain ⟨b3, b4⟩ := tw_app a2 (r := R) (hR' tkB rfl)
  unfold readM
  rw [e, t1, b1, b2, sgn_hit rfl, bsome, t2, b3, b4, if_neg (by simp [tok_ne h1, tok_ne h2]), hp, bsome]
  dsimp only
  rw [if_pos rfl, hi]; rfl
end Go.Ph.Md
end
section
namespace Go.Ph.Md
open Go.Ph.Pl Go.Ph.Pf
open Go.Ph.Chs (vld lower)
theorem tk_128 (c : UInt8) : tkB c = true → c.toNat < 128 := allB (p := fun c => tkB c = true → c.toNat < 128) (by decide +kernel) c
theorem vld_tok : ∀ (l : List UInt8), l.all tkB = true → vld l = true
  | [], _ => rfl
  | c :: l, h => by
    rw [List.all_cons, Bool.and_eq_true] at h
    rw [Chs.vld_ascii (by simp) (show Utf.nat (c :: l) 0 < 128 from tk_128 c h.1)]
    exact vld_tok l h.2
def two (a b : List UInt8) : Med := ([116], [115], [([110], a ++ b)])
def p0 (a : List UInt8) : Pce := ([110], 0, false, a)
def p1 (b : List UInt8) : Pce := ([110], 1, false, b)
theorem mk0 (v : List UInt8) : mkP numP [110, 42, 48] v = some (p0 v) := mkP_num (n := [110]) (s := [48]) (i := 0) (by decide) (by decide) v (numP_of 0 (by decide)).1
theorem mk1 (v : List UInt8) : mkP numP [110, 42, 49] v = some (p1 v) := mkP_num (n := [110]) (s := [49]) (i := 1) (by decide) (by decide) v (numP_of 1 (by decide)).1
theorem pcs_two {x y u w : List UInt8} {p q : Pce} (hx : x.all (pN [42]) = true) (hy : y.all (pN [42]) = true) (hu : u.all tkB = true) (hw : w.all tkB = true) (hp : mkP numP x u = some p) (hq : mkP numP y w = some q) :
    pcs numP FU ([59, 32] ++ x ++ [61] ++ u ++ ([59, 32] ++ y ++ [61] ++ w ++ [])) = some ([p, q], []) := by
  have hF : 3 < FU := FU_gt (by omega)
  obtain ⟨d, hd⟩ : ∃ d, FU = ((d + 1) + 1) + 1 := ⟨FU - 3, by omega⟩
  rw [hd, pcs_one _ hx (vl_tok (R := [59, 32] ++ y ++ [61] ++ w ++ []) (all_mono (tk_p _) hu) (fun c s e => by cases e; rfl)) hp, pcs_one _ hy (vl_tok (all_mono (tk_p _) hw) semi_nil) hq, pcs]
  rfl
theorem sort_two (a b : List UInt8) : sortP [p0 a, p1 b] = [p0 a, p1 b] ∧ sortP [p1 b, p0 a] = [p0 a, p1 b] := by
  have ok0 : pcOk (p0 a) := ⟨show (-1 : Int) ≤ 0 by decide, show (0 : Int) ≤ 1099511627776 by decide⟩
  have ok1 : pcOk (p1 b) := ⟨show (-1 : Int) ≤ 1 by decide, show (1 : Int) ≤ 1099511627776 by decide⟩
  have h0 : ∀ p ∈ [p0 a, p1 b], pcOk p := by
    intro p hp
    rcases List.mem_cons.1 hp with rfl | hp
    · exact ok0
    · rcases List.mem_cons.1 hp with rfl | hp
      · exact ok1
      · cases hp
  have hsw : [p1 b, p0 a].Perm [p0 a, p1 b] := List.Perm.swap _ _ _
  have h1 : ∀ p ∈ [p1 b, p0 a], pcOk p := fun p hp => h0 p (hsw.mem_iff.1 hp)
  have hpw : [p0 a, p1 b].Pairwise leP := by
    refine List.pairwise_cons.2 ⟨fun z hz => ?_, List.pairwise_singleton _ _⟩
    rcases List.mem_cons.1 hz with rfl | hz
    · exact show (0 : Int) ≤ 1 by decide
    · cases hz
  have hn : (nums [p0 a, p1 b]).Nodup := by
    show ([0, 1] : List Int).Nodup
    decide
  refine ⟨sort_id h0 (lo := 0) rfl, uniqP ((sortP_perm h1).trans hsw) (sortP_sorted h1) hpw ?_⟩
  exact ((((sortP_perm h1).trans hsw).map _).nodup_iff).2 hn
theorem par_two {a b : List UInt8} (ha : a.all tkB = true) (hb : b.all tkB = true) {x y : Pce} (hxy : (x = p0 a ∧ y = p1 b) ∨ (x = p1 b ∧ y = p0 a)) : parI [x, y] [] [x, y] = some [([110], a ++ b)] := by
  have hs : sortP [x, y] = [p0 a, p1 b] := by
    rcases hxy with ⟨rfl, rfl⟩ | ⟨rfl, rfl⟩
    · exact (sort_two a b).1
    · exact (sort_two a b).2
  have hx1 : x.1 = [110] := by rcases hxy with ⟨rfl, rfl⟩ | ⟨rfl, rfl⟩ <;> rfl
  have hy1 : y.1 = [110] := by rcases hxy with ⟨rfl, rfl⟩ | ⟨rfl, rfl⟩ <;> rfl
  have hx2 : 0 ≤ x.2.1 := by 
    rcases hxy with ⟨rfl, rfl⟩ | ⟨rfl, rfl⟩
    · exact show (0 : Int) ≤ 0 by decide
    · exact show (0 : Int) ≤ 1 by decide
  have hg : grp [x, y] x = [x, y] := by
    unfold grp
    rw [List.filter_eq_self]
    intro q hq
    unfold smQ
    rcases List.mem_cons.1 hq with rfl | hq
    · simp
    · rcases List.mem_cons.1 hq with rfl | hq
      · rw [hx1, hy1]; simp
      · cases hq
  have ho : okG [x, y] := by
    unfold okG
    rw [hs]; rfl
  have ht : ([p0 a, p1 b] : List Pce).flatMap txt = a ++ b := by
    simp [txt, p0, p1]
  have hv : vld (a ++ b) = true := vld_tok _ (by rw [List.all_append, ha, hb]; rfl)
  have hsm : smQ y x = true := by unfold smQ; rw [hx1, hy1]; simp
  rw [parI, List.any_nil, if_neg Bool.false_ne_true, hg, jnV_of rfl hx2 ho, bsome, hs, ht, fix_vld _ _ _ (Nat.le_refl _) hv, parI, if_pos (by rw [List.nil_append, List.any_cons, hsm]; rfl), parI, hx1]
  rfl
theorem val_two {a b : List UInt8} (ha : tkT a = true) (hb : tkT b = true) : (valM (two a b)).1 = 0 := by
  have la := tkT_len ha
  have lb := tkT_len hb
  have hv : vld (a ++ b) = true := vld_tok _ (by rw [List.all_append, List.all_eq_true.2 (tkT_all ha), List.all_eq_true.2 (tkT_all hb)]; rfl)
  have h1 : pf1 [] ([110], a ++ b) = 0 := by
    unfold pf1
    rw [if_pos (show tkT [110] = true ∧ ([110] : List UInt8).length ≤ 20 by decide), List.any_nil, if_neg Bool.false_ne_true, if_neg (by dsimp only; rw [List.length_append]; omega), if_pos hv]
  unfold valM two
  rw [if_pos (show tkT [116] = true ∧ tkT [115] = true by decide), if_neg (show ¬ 60 < [(([110] : List UInt8), a ++ b)].length by rw [List.length_singleton]; decide)]
  dsimp only
  rw [pfz, if_pos h1, pfz]
theorem prs_two {a b t R : List UInt8} (ha : tkT a = true) (hb : tkT b = true) {x y : Pce} (hxy : (x = p0 a ∧ y = p1 b) ∨ (x = p1 b ∧ y = p0 a)) (hp : pcs numP FU R = some ([x, y], [])) (hR : semi R) (ht : t = [116] ++ [47] ++ [115] ++ R) (hl : t.length ≤ 4000) : media_Parse t = some (two a b, (0, 0)) := by
  rw [Parse_eq]
  unfold prsR
  rw [if_neg (by omega), ht, readM_of (by decide) (by decide) hR hp (par_two (List.all_eq_true.2 (tkT_all ha)) (List.all_eq_true.2 (tkT_all hb)) hxy)]
  dsimp only
  rw [show (([116], [115], [([110], a ++ b)]) : Med) = two a b from rfl, if_pos (val_two ha hb)]
theorem order_law (ex : L_mediaExample = some true) (a b : List UInt8) (hA : Big a) (hB : Big b) : L_MediaPieceOrder a b = some true := by
  unfold L_MediaPieceOrder
  rw [example_any ex, rtoken_eq a hA, bsome]
  by_cases ha : tkT a = true
  · rw [if_pos ha, rtoken_eq b hB, bsome, bsome]
    by_cases hb : tkT b = true
    · have la := tkT_len ha
      have lb := tkT_len hb
      have ta : a.all tkB = true := List.all_eq_true.2 (tkT_all ha)
      have tb : b.all tkB = true := List.all_eq_true.2 (tkT_all hb)
      have e1 := prs_two (t := [116, 47, 115, 59, 32, 110, 42, 48, 61] ++ a ++ [59, 32, 110, 42, 49, 61] ++ b) ha hb (.inl ⟨rfl, rfl⟩) (pcs_two (x := [110, 42, 48]) (y := [110, 42, 49]) (by decide) (by decide) ta tb (mk0 a) (mk1 b)) (semi_cons _) (by simp) (by simp only [List.length_append, List.length_cons, List.length_nil]; omega)
      have e2 := prs_two (t := [116, 47, 115, 59, 32, 110, 42, 49, 61] ++ b ++ [59, 32, 110, 42, 48, 61] ++ a) ha hb (.inr ⟨rfl, rfl⟩) (pcs_two (x := [110, 42, 49]) (y := [110, 42, 48]) (by decide) (by decide) tb ta (mk1 b) (mk0 a)) (semi_cons _) (by simp) (by simp only [List.length_append, List.length_cons, List.length_nil]; omega)
      rw [hb, if_neg (by decide), cat_ok (by simp only [List.length_append, List.length_cons, List.length_nil]; omega), bsome, cat_ok (by simp only [List.length_append, List.length_cons, List.length_nil]; omega), bsome, cat_ok (by simp only [List.length_append, List.length_cons, List.length_nil]; omega), bsome, e1, bsome]
      unfold two
      dsimp only
      rw [cat_ok (by simp only [List.length_append, List.length_cons, List.length_nil]; omega), bsome, cat_ok (by simp only [List.length_append, List.length_cons, List.length_nil]; omega), bsome, cat_ok (by simp only [List.length_append, List.length_cons, List.length_nil]; omega), bsome, e2, bsome]
      unfold two
      dsimp only
      rw [if_pos rfl, if_pos rfl, same_media _ _ (by simp), bsome, if_pos (decide_eq_true rfl), if_pos (show (([(([110] : List UInt8), a ++ b)].length : Nat) : Int) = 1 from rfl), show idx [(([110] : List UInt8), a ++ b)] 0 = some ([110], a ++ b) from rfl, bsome, cat_ok (by omega), bsome, bsome]
      simp
    · rw [Bool.not_eq_true] at hb
      rw [hb, if_pos (show (!false) = true from rfl)]
  · rw [if_neg ha, bsome, if_pos rfl]
end Go.Ph.Md
end
