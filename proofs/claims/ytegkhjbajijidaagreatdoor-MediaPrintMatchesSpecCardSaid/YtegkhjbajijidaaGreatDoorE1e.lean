/-
  Mct3, Mct4, Mct5, Mct6, Na, Nb, Nc, Nl: own texts of this repository (wip/tpl, wip/plans), merged and shaken by wip/tools/pack.py.
-/
import Derived.KernelRfl
import Derived.Test.YtegkhjbajijidaaGreatDoorE1d
set_option maxRecDepth 100000
section
set_option maxRecDepth 100000
set_option linter.unusedVariables false
set_option linter.unusedSimpArgs false
namespace Go.Proofs.YtegkhjbajijidaaGreatDoor
open Go Go.RowKit Go.Ph Go.Ph.Pl Go.Ph.Pf
set_option maxHeartbeats 4000000 in
theorem media_joined_ct {p0 : List (List UInt8 × Int × Bool × List UInt8)} {vp0 : Value} {r : ((List UInt8 × List UInt8) × Bool)} (h : media_joined p0 = some r) : CtX Tryz.prog 81 [vp0] [RowS 85 4 xenc85 vp0 p0] (fun M => Tabs M) (fun v M its => v = Value.tuple #[Value.agg #[S r.1.1, S r.1.2], Value.bool r.2] ∧ its = []) := by
  refine CtX.of Tryz.func81 (enters Tryz.func81 (by kernel_rfl) rfl) rfl rfl rfl ?_
  intro w0 M0 H hp
  have hg_tabs := hp
  unfold media_joined at h
  refine SQ (RG (WR.alloc [_, _] H Tryz.zeroValue47 rfl (Wn.none rfl) rfl ?_))
  intro bk2 w H
  refine AS rfl rfl (NL (TN (SQ ?_)))
  obtain ⟨a1, hxa1, h⟩ := bnd h
  obtain ⟨a2, hxa2, h⟩ := bnd h
  refine WC.cutP (fun e w => ∃ (b3 : Nat) (M : Mem), e = [(0, vp0), (2, ptr bk2 0), (4, ptr b3 0)] ∧ StX (feet [RowS 85 4 xenc85 vp0 p0]) w0 M0 M [RowS 85 4 xenc85 vp0 p0, .blk bk2 (.cells #[S [], S []] 47), .blk b3 (.cells #[S a1.1, S a2.2.2.2] 47)] w ∧ Tabs M) ?_ ?_
  ·
   refine WC.draw (m := 11) rfl rfl H ?_
   intro w H
   refine WA.take (i := 0) rfl (by kernel_rfl) (by kernel_rfl) (by kernel_rfl) (fun _ => Ex.move rfl) (Wn.none rfl) rfl rfl (fun _ _ => rfl) (WA.take (i := 4) rfl (by kernel_rfl) (by kernel_rfl) (by kernel_rfl) (fun _ => Ex.move rfl) (Wn.none rfl) rfl rfl (fun _ _ => rfl) ?_)
   refine WA.three (i := 1) (j := 5) (k := 9) (by kernel_rfl) rfl rfl rfl ?_ ?_ ?_
   ·
    refine WR.idxRowSC (l := p0) H Tryz.underlying83 Tryz.sizeOf85 (by repeat (first | exact List.Mem.head _ | apply List.Mem.tail)) rfl rfl hxa1 (Wn.none rfl) rfl ?_
    intro g8 hg8
    refine NA (WA.take (i := 2) rfl (by kernel_rfl) (by kernel_rfl) (by kernel_rfl) (fun _ => Ex.fieldAddr Tryz.underlying85 rfl Tryz.sizeOf9 (by decide) rfl) (Wn.none rfl) rfl rfl (fun _ _ => rfl) ?_)
    refine WA.three (i := 3) (j := 5) (k := 9) (by kernel_rfl) rfl rfl rfl ?_ ?_ ?_
    ·
     refine ST (Ex.loadRowF (j := 0) H rfl hg8 (by repeat (first | exact List.Mem.head _ | apply List.Mem.tail)) (fun _ => rfl) hxa1 rfl Tryz.isAgg9) rfl ?_
     refine NA ?_
     refine WA.two (i := 5) (j := 9) (by kernel_rfl) rfl rfl ?_ ?_
     ·
      refine WR.idxRowSC (l := p0) H Tryz.underlying83 Tryz.sizeOf85 (by repeat (first | exact List.Mem.head _ | apply List.Mem.tail)) rfl rfl hxa2 (Wn.none rfl) rfl ?_
      intro g12 hg12
      refine NA (WA.take (i := 6) rfl (by kernel_rfl) (by kernel_rfl) (by kernel_rfl) (fun _ => Ex.fieldAddr Tryz.underlying85 rfl Tryz.sizeOf9 (by decide) rfl) (Wn.none rfl) rfl rfl (fun _ _ => rfl) ?_)
      refine WA.two (i := 7) (j := 9) (by kernel_rfl) rfl rfl ?_ ?_
      ·
       refine ST (Ex.loadRowF (j := 3) H rfl hg12 (by repeat (first | exact List.Mem.head _ | apply List.Mem.tail)) (fun _ => rfl) hxa2 rfl Tryz.isAgg9) rfl ?_
       refine NA (WA.take (i := 8) rfl (by kernel_rfl) (by kernel_rfl) (by kernel_rfl) (fun _ => Ex.build [S a1.1, S a2.2.2.2] Tryz.underlying47 Tryz.zeroValue47 (xplaces47 Tryz.underlying47) rfl rfl) (Wn.none rfl) rfl rfl (fun _ _ => rfl) (WA.seq (fuel := 0) [9, 10] rfl (by kernel_rfl) (WR.alloc [_, _] H Tryz.zeroValue47 rfl (Wn.none rfl) rfl ?_)))
       intro bk4 w H
       refine WR.store [_, _] H rfl rfl rfl (by repeat first | exact .head | apply Upd.tail) Tryz.sizeOf47 rfl (by rfl) (by rfl) (Wn.none rfl) ?_
       intro w H
       refine NA (WA.done (by kernel_rfl) ?_)
       exact WQ.meetP [(0, _), (2, _), (4, _)] ⟨rfl, rfl, rfl, trivial⟩ ⟨_, _, rfl, (H.pick (L' := [RowS 85 4 xenc85 vp0 p0, .blk bk2 (.cells #[S [], S []] 47), .blk bk4 (.cells #[S a1.1, S a2.2.2.2] 47)]) (by repeat (first | exact Pick.nil | refine Pick.cons (by repeat first | exact .head | apply Rem.tail) ?_))), hg_tabs⟩
      ·
       refine WR.alloc [_, _] H Tryz.zeroValue47 rfl (Wn.none rfl) rfl ?_
       intro bk4 w H
       refine NA (WA.seq (fuel := 0) [7, 8, 10] rfl (by kernel_rfl) (ST (Ex.loadRowF (j := 3) H rfl hg12 (by repeat (first | exact List.Mem.head _ | apply List.Mem.tail)) (fun _ => rfl) hxa2 rfl Tryz.isAgg9) rfl ?_))
       refine ST (Ex.build [S a1.1, S a2.2.2.2] Tryz.underlying47 Tryz.zeroValue47 (xplaces47 Tryz.underlying47) rfl rfl) rfl (WR.store [_, _] H rfl rfl rfl (by repeat first | exact .head | apply Upd.tail) Tryz.sizeOf47 rfl (by rfl) (by rfl) (Wn.none rfl) ?_)
       intro w H
       refine NA (WA.done (by kernel_rfl) ?_)
       exact WQ.meetP [(0, _), (2, _), (4, _)] ⟨rfl, rfl, rfl, trivial⟩ ⟨_, _, rfl, (H.pick (L' := [RowS 85 4 xenc85 vp0 p0, .blk bk2 (.cells #[S [], S []] 47), .blk bk4 (.cells #[S a1.1, S a2.2.2.2] 47)]) (by repeat (first | exact Pick.nil | refine Pick.cons (by repeat first | exact .head | apply Rem.tail) ?_))), hg_tabs⟩
     ·
      refine WR.alloc [_, _] H Tryz.zeroValue47 rfl (Wn.none rfl) rfl ?_
      intro bk4 w H
      refine NA (WA.seq (fuel := 0) [5, 6, 7, 8, 10] rfl (by kernel_rfl) (WR.idxRowSC (l := p0) H Tryz.underlying83 Tryz.sizeOf85 (by repeat (first | exact List.Mem.head _ | apply List.Mem.tail)) rfl rfl hxa2 (Wn.none rfl) rfl ?_))
      intro g12 hg12
      refine ST (Ex.fieldAddr Tryz.underlying85 rfl Tryz.sizeOf9 (by decide) rfl) rfl (ST (Ex.loadRowF (j := 3) H rfl hg12 (by repeat (first | exact List.Mem.head _ | apply List.Mem.tail)) (fun _ => rfl) hxa2 rfl Tryz.isAgg9) rfl ?_)
      refine ST (Ex.build [S a1.1, S a2.2.2.2] Tryz.underlying47 Tryz.zeroValue47 (xplaces47 Tryz.underlying47) rfl rfl) rfl (WR.store [_, _] H rfl rfl rfl (by repeat first | exact .head | apply Upd.tail) Tryz.sizeOf47 rfl (by rfl) (by rfl) (Wn.none rfl) ?_)
      intro w H
      refine NA (WA.done (by kernel_rfl) ?_)
      exact WQ.meetP [(0, _), (2, _), (4, _)] ⟨rfl, rfl, rfl, trivial⟩ ⟨_, _, rfl, (H.pick (L' := [RowS 85 4 xenc85 vp0 p0, .blk bk2 (.cells #[S [], S []] 47), .blk bk4 (.cells #[S a1.1, S a2.2.2.2] 47)]) (by repeat (first | exact Pick.nil | refine Pick.cons (by repeat first | exact .head | apply Rem.tail) ?_))), hg_tabs⟩
    ·
     refine WR.idxRowSC (l := p0) H Tryz.underlying83 Tryz.sizeOf85 (by repeat (first | exact List.Mem.head _ | apply List.Mem.tail)) rfl rfl hxa2 (Wn.none rfl) rfl ?_
     intro g12 hg12
     refine NA (WA.take (i := 6) rfl (by kernel_rfl) (by kernel_rfl) (by kernel_rfl) (fun _ => Ex.fieldAddr Tryz.underlying85 rfl Tryz.sizeOf9 (by decide) rfl) (Wn.none rfl) rfl rfl (fun _ _ => rfl) ?_)
     refine WA.three (i := 3) (j := 7) (k := 9) (by kernel_rfl) rfl rfl rfl ?_ ?_ ?_
     ·
      refine ST (Ex.loadRowF (j := 0) H rfl hg8 (by repeat (first | exact List.Mem.head _ | apply List.Mem.tail)) (fun _ => rfl) hxa1 rfl Tryz.isAgg9) rfl ?_
      refine NA ?_
      refine WA.two (i := 7) (j := 9) (by kernel_rfl) rfl rfl ?_ ?_
      ·
       refine ST (Ex.loadRowF (j := 3) H rfl hg12 (by repeat (first | exact List.Mem.head _ | apply List.Mem.tail)) (fun _ => rfl) hxa2 rfl Tryz.isAgg9) rfl ?_
       refine NA (WA.take (i := 8) rfl (by kernel_rfl) (by kernel_rfl) (by kernel_rfl) (fun _ => Ex.build [S a1.1, S a2.2.2.2] Tryz.underlying47 Tryz.zeroValue47 (xplaces47 Tryz.underlying47) rfl rfl) (Wn.none rfl) rfl rfl (fun _ _ => rfl) (WA.seq (fuel := 0) [9, 10] rfl (by kernel_rfl) (WR.alloc [_, _] H Tryz.zeroValue47 rfl (Wn.none rfl) rfl ?_)))
       intro bk4 w H
       refine WR.store [_, _] H rfl rfl rfl (by repeat first | exact .head | apply Upd.tail) Tryz.sizeOf47 rfl (by rfl) (by rfl) (Wn.none rfl) ?_
       intro w H
       refine NA (WA.done (by kernel_rfl) ?_)
       exact WQ.meetP [(0, _), (2, _), (4, _)] ⟨rfl, rfl, rfl, trivial⟩ ⟨_, _, rfl, (H.pick (L' := [RowS 85 4 xenc85 vp0 p0, .blk bk2 (.cells #[S [], S []] 47), .blk bk4 (.cells #[S a1.1, S a2.2.2.2] 47)]) (by repeat (first | exact Pick.nil | refine Pick.cons (by repeat first | exact .head | apply Rem.tail) ?_))), hg_tabs⟩
      ·
       refine WR.alloc [_, _] H Tryz.zeroValue47 rfl (Wn.none rfl) rfl ?_
       intro bk4 w H
       refine NA (WA.seq (fuel := 0) [7, 8, 10] rfl (by kernel_rfl) (ST (Ex.loadRowF (j := 3) H rfl hg12 (by repeat (first | exact List.Mem.head _ | apply List.Mem.tail)) (fun _ => rfl) hxa2 rfl Tryz.isAgg9) rfl ?_))
       refine ST (Ex.build [S a1.1, S a2.2.2.2] Tryz.underlying47 Tryz.zeroValue47 (xplaces47 Tryz.underlying47) rfl rfl) rfl (WR.store [_, _] H rfl rfl rfl (by repeat first | exact .head | apply Upd.tail) Tryz.sizeOf47 rfl (by rfl) (by rfl) (Wn.none rfl) ?_)
       intro w H
       refine NA (WA.done (by kernel_rfl) ?_)
       exact WQ.meetP [(0, _), (2, _), (4, _)] ⟨rfl, rfl, rfl, trivial⟩ ⟨_, _, rfl, (H.pick (L' := [RowS 85 4 xenc85 vp0 p0, .blk bk2 (.cells #[S [], S []] 47), .blk bk4 (.cells #[S a1.1, S a2.2.2.2] 47)]) (by repeat (first | exact Pick.nil | refine Pick.cons (by repeat first | exact .head | apply Rem.tail) ?_))), hg_tabs⟩
     ·
      refine ST (Ex.loadRowF (j := 3) H rfl hg12 (by repeat (first | exact List.Mem.head _ | apply List.Mem.tail)) (fun _ => rfl) hxa2 rfl Tryz.isAgg9) rfl ?_
      refine NA ?_
      refine WA.two (i := 3) (j := 9) (by kernel_rfl) rfl rfl ?_ ?_
      ·
       refine ST (Ex.loadRowF (j := 0) H rfl hg8 (by repeat (first | exact List.Mem.head _ | apply List.Mem.tail)) (fun _ => rfl) hxa1 rfl Tryz.isAgg9) rfl ?_
       refine NA (WA.take (i := 8) rfl (by kernel_rfl) (by kernel_rfl) (by kernel_rfl) (fun _ => Ex.build [S a1.1, S a2.2.2.2] Tryz.underlying47 Tryz.zeroValue47 (xplaces47 Tryz.underlying47) rfl rfl) (Wn.none rfl) rfl rfl (fun _ _ => rfl) (WA.seq (fuel := 0) [9, 10] rfl (by kernel_rfl) (WR.alloc [_, _] H Tryz.zeroValue47 rfl (Wn.none rfl) rfl ?_)))
       intro bk4 w H
       refine WR.store [_, _] H rfl rfl rfl (by repeat first | exact .head | apply Upd.tail) Tryz.sizeOf47 rfl (by rfl) (by rfl) (Wn.none rfl) ?_
       intro w H
       refine NA (WA.done (by kernel_rfl) ?_)
       exact WQ.meetP [(0, _), (2, _), (4, _)] ⟨rfl, rfl, rfl, trivial⟩ ⟨_, _, rfl, (H.pick (L' := [RowS 85 4 xenc85 vp0 p0, .blk bk2 (.cells #[S [], S []] 47), .blk bk4 (.cells #[S a1.1, S a2.2.2.2] 47)]) (by repeat (first | exact Pick.nil | refine Pick.cons (by repeat first | exact .head | apply Rem.tail) ?_))), hg_tabs⟩
      ·
       refine WR.alloc [_, _] H Tryz.zeroValue47 rfl (Wn.none rfl) rfl ?_
       intro bk4 w H
       refine NA (WA.seq (fuel := 0) [3, 8, 10] rfl (by kernel_rfl) (ST (Ex.loadRowF (j := 0) H rfl hg8 (by repeat (first | exact List.Mem.head _ | apply List.Mem.tail)) (fun _ => rfl) hxa1 rfl Tryz.isAgg9) rfl ?_))
       refine ST (Ex.build [S a1.1, S a2.2.2.2] Tryz.underlying47 Tryz.zeroValue47 (xplaces47 Tryz.underlying47) rfl rfl) rfl (WR.store [_, _] H rfl rfl rfl (by repeat first | exact .head | apply Upd.tail) Tryz.sizeOf47 rfl (by rfl) (by rfl) (Wn.none rfl) ?_)
       intro w H
       refine NA (WA.done (by kernel_rfl) ?_)
       exact WQ.meetP [(0, _), (2, _), (4, _)] ⟨rfl, rfl, rfl, trivial⟩ ⟨_, _, rfl, (H.pick (L' := [RowS 85 4 xenc85 vp0 p0, .blk bk2 (.cells #[S [], S []] 47), .blk bk4 (.cells #[S a1.1, S a2.2.2.2] 47)]) (by repeat (first | exact Pick.nil | refine Pick.cons (by repeat first | exact .head | apply Rem.tail) ?_))), hg_tabs⟩
     ·
      refine WR.alloc [_, _] H Tryz.zeroValue47 rfl (Wn.none rfl) rfl ?_
      intro bk4 w H
      refine NA (WA.takeM (i := 3) [7] rfl (by kernel_rfl) (by kernel_rfl) (by kernel_rfl) (Ex.loadRowF (j := 0) H rfl hg8 (by repeat (first | exact List.Mem.head _ | apply List.Mem.tail)) (fun _ => rfl) hxa1 rfl Tryz.isAgg9) (Wn.none rfl) rfl rfl (fun _ _ => rfl) ?_)
      refine WA.seq (fuel := 0) [7, 8, 10] rfl (by kernel_rfl) (ST (Ex.loadRowF (j := 3) H rfl hg12 (by repeat (first | exact List.Mem.head _ | apply List.Mem.tail)) (fun _ => rfl) hxa2 rfl Tryz.isAgg9) rfl ?_)
      refine ST (Ex.build [S a1.1, S a2.2.2.2] Tryz.underlying47 Tryz.zeroValue47 (xplaces47 Tryz.underlying47) rfl rfl) rfl (WR.store [_, _] H rfl rfl rfl (by repeat first | exact .head | apply Upd.tail) Tryz.sizeOf47 rfl (by rfl) (by rfl) (Wn.none rfl) ?_)
      intro w H
      refine NA (WA.done (by kernel_rfl) ?_)
      exact WQ.meetP [(0, _), (2, _), (4, _)] ⟨rfl, rfl, rfl, trivial⟩ ⟨_, _, rfl, (H.pick (L' := [RowS 85 4 xenc85 vp0 p0, .blk bk2 (.cells #[S [], S []] 47), .blk bk4 (.cells #[S a1.1, S a2.2.2.2] 47)]) (by repeat (first | exact Pick.nil | refine Pick.cons (by repeat first | exact .head | apply Rem.tail) ?_))), hg_tabs⟩
    ·
     refine WR.alloc [_, _] H Tryz.zeroValue47 rfl (Wn.none rfl) rfl ?_
     intro bk4 w H
     refine NA ?_
     refine WA.two (i := 3) (j := 5) (by kernel_rfl) rfl rfl ?_ ?_
     ·
      refine ST (Ex.loadRowF (j := 0) H rfl hg8 (by repeat (first | exact List.Mem.head _ | apply List.Mem.tail)) (fun _ => rfl) hxa1 rfl Tryz.isAgg9) rfl ?_
      refine NA (WA.seq (fuel := 0) [5, 6, 7, 8, 10] rfl (by kernel_rfl) (WR.idxRowSC (l := p0) H Tryz.underlying83 Tryz.sizeOf85 (by repeat (first | exact List.Mem.head _ | apply List.Mem.tail)) rfl rfl hxa2 (Wn.none rfl) rfl ?_))
      intro g12 hg12
      refine ST (Ex.fieldAddr Tryz.underlying85 rfl Tryz.sizeOf9 (by decide) rfl) rfl (ST (Ex.loadRowF (j := 3) H rfl hg12 (by repeat (first | exact List.Mem.head _ | apply List.Mem.tail)) (fun _ => rfl) hxa2 rfl Tryz.isAgg9) rfl ?_)
      refine ST (Ex.build [S a1.1, S a2.2.2.2] Tryz.underlying47 Tryz.zeroValue47 (xplaces47 Tryz.underlying47) rfl rfl) rfl (WR.store [_, _] H rfl rfl rfl (by repeat first | exact .head | apply Upd.tail) Tryz.sizeOf47 rfl (by rfl) (by rfl) (Wn.none rfl) ?_)
      intro w H
      refine NA (WA.done (by kernel_rfl) ?_)
      exact WQ.meetP [(0, _), (2, _), (4, _)] ⟨rfl, rfl, rfl, trivial⟩ ⟨_, _, rfl, (H.pick (L' := [RowS 85 4 xenc85 vp0 p0, .blk bk2 (.cells #[S [], S []] 47), .blk bk4 (.cells #[S a1.1, S a2.2.2.2] 47)]) (by repeat (first | exact Pick.nil | refine Pick.cons (by repeat first | exact .head | apply Rem.tail) ?_))), hg_tabs⟩
     ·
      refine WR.idxRowSC (l := p0) H Tryz.underlying83 Tryz.sizeOf85 (by repeat (first | exact List.Mem.head _ | apply List.Mem.tail)) rfl rfl hxa2 (Wn.none rfl) rfl ?_
      intro g12 hg12
      refine NA (WA.take (i := 6) rfl (by kernel_rfl) (by kernel_rfl) (by kernel_rfl) (fun _ => Ex.fieldAddr Tryz.underlying85 rfl Tryz.sizeOf9 (by decide) rfl) (Wn.none rfl) rfl rfl (fun _ _ => rfl) (WA.takeM (i := 3) [7] rfl (by kernel_rfl) (by kernel_rfl) (by kernel_rfl) (Ex.loadRowF (j := 0) H rfl hg8 (by repeat (first | exact List.Mem.head _ | apply List.Mem.tail)) (fun _ => rfl) hxa1 rfl Tryz.isAgg9) (Wn.none rfl) rfl rfl (fun _ _ => rfl) ?_))
      refine WA.seq (fuel := 0) [7, 8, 10] rfl (by kernel_rfl) (ST (Ex.loadRowF (j := 3) H rfl hg12 (by repeat (first | exact List.Mem.head _ | apply List.Mem.tail)) (fun _ => rfl) hxa2 rfl Tryz.isAgg9) rfl ?_)
      refine ST (Ex.build [S a1.1, S a2.2.2.2] Tryz.underlying47 Tryz.zeroValue47 (xplaces47 Tryz.underlying47) rfl rfl) rfl (WR.store [_, _] H rfl rfl rfl (by repeat first | exact .head | apply Upd.tail) Tryz.sizeOf47 rfl (by rfl) (by rfl) (Wn.none rfl) ?_)
      intro w H
      refine NA (WA.done (by kernel_rfl) ?_)
      exact WQ.meetP [(0, _), (2, _), (4, _)] ⟨rfl, rfl, rfl, trivial⟩ ⟨_, _, rfl, (H.pick (L' := [RowS 85 4 xenc85 vp0 p0, .blk bk2 (.cells #[S [], S []] 47), .blk bk4 (.cells #[S a1.1, S a2.2.2.2] 47)]) (by repeat (first | exact Pick.nil | refine Pick.cons (by repeat first | exact .head | apply Rem.tail) ?_))), hg_tabs⟩
   ·
    refine WR.idxRowSC (l := p0) H Tryz.underlying83 Tryz.sizeOf85 (by repeat (first | exact List.Mem.head _ | apply List.Mem.tail)) rfl rfl hxa2 (Wn.none rfl) rfl ?_
    intro g12 hg12
    refine NA (WA.take (i := 6) rfl (by kernel_rfl) (by kernel_rfl) (by kernel_rfl) (fun _ => Ex.fieldAddr Tryz.underlying85 rfl Tryz.sizeOf9 (by decide) rfl) (Wn.none rfl) rfl rfl (fun _ _ => rfl) ?_)
    refine WA.three (i := 1) (j := 7) (k := 9) (by kernel_rfl) rfl rfl rfl ?_ ?_ ?_
    ·
     refine WR.idxRowSC (l := p0) H Tryz.underlying83 Tryz.sizeOf85 (by repeat (first | exact List.Mem.head _ | apply List.Mem.tail)) rfl rfl hxa1 (Wn.none rfl) rfl ?_
     intro g8 hg8
     refine NA (WA.take (i := 2) rfl (by kernel_rfl) (by kernel_rfl) (by kernel_rfl) (fun _ => Ex.fieldAddr Tryz.underlying85 rfl Tryz.sizeOf9 (by decide) rfl) (Wn.none rfl) rfl rfl (fun _ _ => rfl) ?_)
     refine WA.three (i := 3) (j := 7) (k := 9) (by kernel_rfl) rfl rfl rfl ?_ ?_ ?_
     ·
      refine ST (Ex.loadRowF (j := 0) H rfl hg8 (by repeat (first | exact List.Mem.head _ | apply List.Mem.tail)) (fun _ => rfl) hxa1 rfl Tryz.isAgg9) rfl ?_
      refine NA ?_
      refine WA.two (i := 7) (j := 9) (by kernel_rfl) rfl rfl ?_ ?_
      ·
       refine ST (Ex.loadRowF (j := 3) H rfl hg12 (by repeat (first | exact List.Mem.head _ | apply List.Mem.tail)) (fun _ => rfl) hxa2 rfl Tryz.isAgg9) rfl ?_
       refine NA (WA.take (i := 8) rfl (by kernel_rfl) (by kernel_rfl) (by kernel_rfl) (fun _ => Ex.build [S a1.1, S a2.2.2.2] Tryz.underlying47 Tryz.zeroValue47 (xplaces47 Tryz.underlying47) rfl rfl) (Wn.none rfl) rfl rfl (fun _ _ => rfl) (WA.seq (fuel := 0) [9, 10] rfl (by kernel_rfl) (WR.alloc [_, _] H Tryz.zeroValue47 rfl (Wn.none rfl) rfl ?_)))
       intro bk4 w H
       refine WR.store [_, _] H rfl rfl rfl (by repeat first | exact .head | apply Upd.tail) Tryz.sizeOf47 rfl (by rfl) (by rfl) (Wn.none rfl) ?_
       intro w H
       refine NA (WA.done (by kernel_rfl) ?_)
       exact WQ.meetP [(0, _), (2, _), (4, _)] ⟨rfl, rfl, rfl, trivial⟩ ⟨_, _, rfl, (H.pick (L' := [RowS 85 4 xenc85 vp0 p0, .blk bk2 (.cells #[S [], S []] 47), .blk bk4 (.cells #[S a1.1, S a2.2.2.2] 47)]) (by repeat (first | exact Pick.nil | refine Pick.cons (by repeat first | exact .head | apply Rem.tail) ?_))), hg_tabs⟩
      ·
       refine WR.alloc [_, _] H Tryz.zeroValue47 rfl (Wn.none rfl) rfl ?_
       intro bk4 w H
       refine NA (WA.seq (fuel := 0) [7, 8, 10] rfl (by kernel_rfl) (ST (Ex.loadRowF (j := 3) H rfl hg12 (by repeat (first | exact List.Mem.head _ | apply List.Mem.tail)) (fun _ => rfl) hxa2 rfl Tryz.isAgg9) rfl ?_))
       refine ST (Ex.build [S a1.1, S a2.2.2.2] Tryz.underlying47 Tryz.zeroValue47 (xplaces47 Tryz.underlying47) rfl rfl) rfl (WR.store [_, _] H rfl rfl rfl (by repeat first | exact .head | apply Upd.tail) Tryz.sizeOf47 rfl (by rfl) (by rfl) (Wn.none rfl) ?_)
       intro w H
       refine NA (WA.done (by kernel_rfl) ?_)
       exact WQ.meetP [(0, _), (2, _), (4, _)] ⟨rfl, rfl, rfl, trivial⟩ ⟨_, _, rfl, (H.pick (L' := [RowS 85 4 xenc85 vp0 p0, .blk bk2 (.cells #[S [], S []] 47), .blk bk4 (.cells #[S a1.1, S a2.2.2.2] 47)]) (by repeat (first | exact Pick.nil | refine Pick.cons (by repeat first | exact .head | apply Rem.tail) ?_))), hg_tabs⟩
     ·
      refine ST (Ex.loadRowF (j := 3) H rfl hg12 (by repeat (first | exact List.Mem.head _ | apply List.Mem.tail)) (fun _ => rfl) hxa2 rfl Tryz.isAgg9) rfl ?_
      refine NA ?_
      refine WA.two (i := 3) (j := 9) (by kernel_rfl) rfl rfl ?_ ?_
      ·
       refine ST (Ex.loadRowF (j := 0) H rfl hg8 (by repeat (first | exact List.Mem.head _ | apply List.Mem.tail)) (fun _ => rfl) hxa1 rfl Tryz.isAgg9) rfl ?_
       refine NA (WA.take (i := 8) rfl (by kernel_rfl) (by kernel_rfl) (by kernel_rfl) (fun _ => Ex.build [S a1.1, S a2.2.2.2] Tryz.underlying47 Tryz.zeroValue47 (xplaces47 Tryz.underlying47) rfl rfl) (Wn.none rfl) rfl rfl (fun _ _ => rfl) (WA.seq (fuel := 0) [9, 10] rfl (by kernel_rfl) (WR.alloc [_, _] H Tryz.zeroValue47 rfl (Wn.none rfl) rfl ?_)))
       intro bk4 w H
       refine WR.store [_, _] H rfl rfl rfl (by repeat first | exact .head | apply Upd.tail) Tryz.sizeOf47 rfl (by rfl) (by rfl) (Wn.none rfl) ?_
       intro w H
       refine NA (WA.done (by kernel_rfl) ?_)
       exact WQ.meetP [(0, _), (2, _), (4, _)] ⟨rfl, rfl, rfl, trivial⟩ ⟨_, _, rfl, (H.pick (L' := [RowS 85 4 xenc85 vp0 p0, .blk bk2 (.cells #[S [], S []] 47), .blk bk4 (.cells #[S a1.1, S a2.2.2.2] 47)]) (by repeat (first | exact Pick.nil | refine Pick.cons (by repeat first | exact .head | apply Rem.tail) ?_))), hg_tabs⟩
      ·
       refine WR.alloc [_, _] H Tryz.zeroValue47 rfl (Wn.none rfl) rfl ?_
       intro bk4 w H
       refine NA (WA.seq (fuel := 0) [3, 8, 10] rfl (by kernel_rfl) (ST (Ex.loadRowF (j := 0) H rfl hg8 (by repeat (first | exact List.Mem.head _ | apply List.Mem.tail)) (fun _ => rfl) hxa1 rfl Tryz.isAgg9) rfl ?_))
       refine ST (Ex.build [S a1.1, S a2.2.2.2] Tryz.underlying47 Tryz.zeroValue47 (xplaces47 Tryz.underlying47) rfl rfl) rfl (WR.store [_, _] H rfl rfl rfl (by repeat first | exact .head | apply Upd.tail) Tryz.sizeOf47 rfl (by rfl) (by rfl) (Wn.none rfl) ?_)
       intro w H
       refine NA (WA.done (by kernel_rfl) ?_)
       exact WQ.meetP [(0, _), (2, _), (4, _)] ⟨rfl, rfl, rfl, trivial⟩ ⟨_, _, rfl, (H.pick (L' := [RowS 85 4 xenc85 vp0 p0, .blk bk2 (.cells #[S [], S []] 47), .blk bk4 (.cells #[S a1.1, S a2.2.2.2] 47)]) (by repeat (first | exact Pick.nil | refine Pick.cons (by repeat first | exact .head | apply Rem.tail) ?_))), hg_tabs⟩
     ·
      refine WR.alloc [_, _] H Tryz.zeroValue47 rfl (Wn.none rfl) rfl ?_
      intro bk4 w H
      refine NA (WA.takeM (i := 3) [7] rfl (by kernel_rfl) (by kernel_rfl) (by kernel_rfl) (Ex.loadRowF (j := 0) H rfl hg8 (by repeat (first | exact List.Mem.head _ | apply List.Mem.tail)) (fun _ => rfl) hxa1 rfl Tryz.isAgg9) (Wn.none rfl) rfl rfl (fun _ _ => rfl) ?_)
      refine WA.seq (fuel := 0) [7, 8, 10] rfl (by kernel_rfl) (ST (Ex.loadRowF (j := 3) H rfl hg12 (by repeat (first | exact List.Mem.head _ | apply List.Mem.tail)) (fun _ => rfl) hxa2 rfl Tryz.isAgg9) rfl ?_)
      refine ST (Ex.build [S a1.1, S a2.2.2.2] Tryz.underlying47 Tryz.zeroValue47 (xplaces47 Tryz.underlying47) rfl rfl) rfl (WR.store [_, _] H rfl rfl rfl (by repeat first | exact .head | apply Upd.tail) Tryz.sizeOf47 rfl (by rfl) (by rfl) (Wn.none rfl) ?_)
      intro w H
      refine NA (WA.done (by kernel_rfl) ?_)
      exact WQ.meetP [(0, _), (2, _), (4, _)] ⟨rfl, rfl, rfl, trivial⟩ ⟨_, _, rfl, (H.pick (L' := [RowS 85 4 xenc85 vp0 p0, .blk bk2 (.cells #[S [], S []] 47), .blk bk4 (.cells #[S a1.1, S a2.2.2.2] 47)]) (by repeat (first | exact Pick.nil | refine Pick.cons (by repeat first | exact .head | apply Rem.tail) ?_))), hg_tabs⟩
    ·
     refine ST (Ex.loadRowF (j := 3) H rfl hg12 (by repeat (first | exact List.Mem.head _ | apply List.Mem.tail)) (fun _ => rfl) hxa2 rfl Tryz.isAgg9) rfl ?_
     refine NA ?_
     refine WA.two (i := 1) (j := 9) (by kernel_rfl) rfl rfl ?_ ?_
     ·
      refine WR.idxRowSC (l := p0) H Tryz.underlying83 Tryz.sizeOf85 (by repeat (first | exact List.Mem.head _ | apply List.Mem.tail)) rfl rfl hxa1 (Wn.none rfl) rfl ?_
      intro g8 hg8
      refine NA (WA.take (i := 2) rfl (by kernel_rfl) (by kernel_rfl) (by kernel_rfl) (fun _ => Ex.fieldAddr Tryz.underlying85 rfl Tryz.sizeOf9 (by decide) rfl) (Wn.none rfl) rfl rfl (fun _ _ => rfl) ?_)
      refine WA.two (i := 3) (j := 9) (by kernel_rfl) rfl rfl ?_ ?_
      ·
       refine ST (Ex.loadRowF (j := 0) H rfl hg8 (by repeat (first | exact List.Mem.head _ | apply List.Mem.tail)) (fun _ => rfl) hxa1 rfl Tryz.isAgg9) rfl ?_
       refine NA (WA.take (i := 8) rfl (by kernel_rfl) (by kernel_rfl) (by kernel_rfl) (fun _ => Ex.build [S a1.1, S a2.2.2.2] Tryz.underlying47 Tryz.zeroValue47 (xplaces47 Tryz.underlying47) rfl rfl) (Wn.none rfl) rfl rfl (fun _ _ => rfl) (WA.seq (fuel := 0) [9, 10] rfl (by kernel_rfl) (WR.alloc [_, _] H Tryz.zeroValue47 rfl (Wn.none rfl) rfl ?_)))
       intro bk4 w H
       refine WR.store [_, _] H rfl rfl rfl (by repeat first | exact .head | apply Upd.tail) Tryz.sizeOf47 rfl (by rfl) (by rfl) (Wn.none rfl) ?_
       intro w H
       refine NA (WA.done (by kernel_rfl) ?_)
       exact WQ.meetP [(0, _), (2, _), (4, _)] ⟨rfl, rfl, rfl, trivial⟩ ⟨_, _, rfl, (H.pick (L' := [RowS 85 4 xenc85 vp0 p0, .blk bk2 (.cells #[S [], S []] 47), .blk bk4 (.cells #[S a1.1, S a2.2.2.2] 47)]) (by repeat (first | exact Pick.nil | refine Pick.cons (by repeat first | exact .head | apply Rem.tail) ?_))), hg_tabs⟩
      ·
       refine WR.alloc [_, _] H Tryz.zeroValue47 rfl (Wn.none rfl) rfl ?_
       intro bk4 w H
       refine NA (WA.seq (fuel := 0) [3, 8, 10] rfl (by kernel_rfl) (ST (Ex.loadRowF (j := 0) H rfl hg8 (by repeat (first | exact List.Mem.head _ | apply List.Mem.tail)) (fun _ => rfl) hxa1 rfl Tryz.isAgg9) rfl ?_))
       refine ST (Ex.build [S a1.1, S a2.2.2.2] Tryz.underlying47 Tryz.zeroValue47 (xplaces47 Tryz.underlying47) rfl rfl) rfl (WR.store [_, _] H rfl rfl rfl (by repeat first | exact .head | apply Upd.tail) Tryz.sizeOf47 rfl (by rfl) (by rfl) (Wn.none rfl) ?_)
       intro w H
       refine NA (WA.done (by kernel_rfl) ?_)
       exact WQ.meetP [(0, _), (2, _), (4, _)] ⟨rfl, rfl, rfl, trivial⟩ ⟨_, _, rfl, (H.pick (L' := [RowS 85 4 xenc85 vp0 p0, .blk bk2 (.cells #[S [], S []] 47), .blk bk4 (.cells #[S a1.1, S a2.2.2.2] 47)]) (by repeat (first | exact Pick.nil | refine Pick.cons (by repeat first | exact .head | apply Rem.tail) ?_))), hg_tabs⟩
     ·
      refine WR.alloc [_, _] H Tryz.zeroValue47 rfl (Wn.none rfl) rfl ?_
      intro bk4 w H
      refine NA (WA.seq (fuel := 0) [1, 2, 3, 8, 10] rfl (by kernel_rfl) (WR.idxRowSC (l := p0) H Tryz.underlying83 Tryz.sizeOf85 (by repeat (first | exact List.Mem.head _ | apply List.Mem.tail)) rfl rfl hxa1 (Wn.none rfl) rfl ?_))
      intro g8 hg8
      refine ST (Ex.fieldAddr Tryz.underlying85 rfl Tryz.sizeOf9 (by decide) rfl) rfl (ST (Ex.loadRowF (j := 0) H rfl hg8 (by repeat (first | exact List.Mem.head _ | apply List.Mem.tail)) (fun _ => rfl) hxa1 rfl Tryz.isAgg9) rfl ?_)
      refine ST (Ex.build [S a1.1, S a2.2.2.2] Tryz.underlying47 Tryz.zeroValue47 (xplaces47 Tryz.underlying47) rfl rfl) rfl (WR.store [_, _] H rfl rfl rfl (by repeat first | exact .head | apply Upd.tail) Tryz.sizeOf47 rfl (by rfl) (by rfl) (Wn.none rfl) ?_)
      intro w H
      refine NA (WA.done (by kernel_rfl) ?_)
      exact WQ.meetP [(0, _), (2, _), (4, _)] ⟨rfl, rfl, rfl, trivial⟩ ⟨_, _, rfl, (H.pick (L' := [RowS 85 4 xenc85 vp0 p0, .blk bk2 (.cells #[S [], S []] 47), .blk bk4 (.cells #[S a1.1, S a2.2.2.2] 47)]) (by repeat (first | exact Pick.nil | refine Pick.cons (by repeat first | exact .head | apply Rem.tail) ?_))), hg_tabs⟩
    ·
     refine WR.alloc [_, _] H Tryz.zeroValue47 rfl (Wn.none rfl) rfl ?_
     intro bk4 w H
     refine NA ?_
     refine WA.two (i := 1) (j := 7) (by kernel_rfl) rfl rfl ?_ ?_
     ·
      refine WR.idxRowSC (l := p0) H Tryz.underlying83 Tryz.sizeOf85 (by repeat (first | exact List.Mem.head _ | apply List.Mem.tail)) rfl rfl hxa1 (Wn.none rfl) rfl ?_
      intro g8 hg8
      refine NA (WA.take (i := 2) rfl (by kernel_rfl) (by kernel_rfl) (by kernel_rfl) (fun _ => Ex.fieldAddr Tryz.underlying85 rfl Tryz.sizeOf9 (by decide) rfl) (Wn.none rfl) rfl rfl (fun _ _ => rfl) (WA.takeM (i := 3) [7] rfl (by kernel_rfl) (by kernel_rfl) (by kernel_rfl) (Ex.loadRowF (j := 0) H rfl hg8 (by repeat (first | exact List.Mem.head _ | apply List.Mem.tail)) (fun _ => rfl) hxa1 rfl Tryz.isAgg9) (Wn.none rfl) rfl rfl (fun _ _ => rfl) ?_))
      refine WA.seq (fuel := 0) [7, 8, 10] rfl (by kernel_rfl) (ST (Ex.loadRowF (j := 3) H rfl hg12 (by repeat (first | exact List.Mem.head _ | apply List.Mem.tail)) (fun _ => rfl) hxa2 rfl Tryz.isAgg9) rfl ?_)
      refine ST (Ex.build [S a1.1, S a2.2.2.2] Tryz.underlying47 Tryz.zeroValue47 (xplaces47 Tryz.underlying47) rfl rfl) rfl (WR.store [_, _] H rfl rfl rfl (by repeat first | exact .head | apply Upd.tail) Tryz.sizeOf47 rfl (by rfl) (by rfl) (Wn.none rfl) ?_)
      intro w H
      refine NA (WA.done (by kernel_rfl) ?_)
      exact WQ.meetP [(0, _), (2, _), (4, _)] ⟨rfl, rfl, rfl, trivial⟩ ⟨_, _, rfl, (H.pick (L' := [RowS 85 4 xenc85 vp0 p0, .blk bk2 (.cells #[S [], S []] 47), .blk bk4 (.cells #[S a1.1, S a2.2.2.2] 47)]) (by repeat (first | exact Pick.nil | refine Pick.cons (by repeat first | exact .head | apply Rem.tail) ?_))), hg_tabs⟩
     ·
      refine ST (Ex.loadRowF (j := 3) H rfl hg12 (by repeat (first | exact List.Mem.head _ | apply List.Mem.tail)) (fun _ => rfl) hxa2 rfl Tryz.isAgg9) rfl ?_
      refine NA (WA.seq (fuel := 0) [1, 2, 3, 8, 10] rfl (by kernel_rfl) (WR.idxRowSC (l := p0) H Tryz.underlying83 Tryz.sizeOf85 (by repeat (first | exact List.Mem.head _ | apply List.Mem.tail)) rfl rfl hxa1 (Wn.none rfl) rfl ?_))
      intro g8 hg8
      refine ST (Ex.fieldAddr Tryz.underlying85 rfl Tryz.sizeOf9 (by decide) rfl) rfl (ST (Ex.loadRowF (j := 0) H rfl hg8 (by repeat (first | exact List.Mem.head _ | apply List.Mem.tail)) (fun _ => rfl) hxa1 rfl Tryz.isAgg9) rfl ?_)
      refine ST (Ex.build [S a1.1, S a2.2.2.2] Tryz.underlying47 Tryz.zeroValue47 (xplaces47 Tryz.underlying47) rfl rfl) rfl (WR.store [_, _] H rfl rfl rfl (by repeat first | exact .head | apply Upd.tail) Tryz.sizeOf47 rfl (by rfl) (by rfl) (Wn.none rfl) ?_)
      intro w H
      refine NA (WA.done (by kernel_rfl) ?_)
      exact WQ.meetP [(0, _), (2, _), (4, _)] ⟨rfl, rfl, rfl, trivial⟩ ⟨_, _, rfl, (H.pick (L' := [RowS 85 4 xenc85 vp0 p0, .blk bk2 (.cells #[S [], S []] 47), .blk bk4 (.cells #[S a1.1, S a2.2.2.2] 47)]) (by repeat (first | exact Pick.nil | refine Pick.cons (by repeat first | exact .head | apply Rem.tail) ?_))), hg_tabs⟩
   ·
    refine WR.alloc [_, _] H Tryz.zeroValue47 rfl (Wn.none rfl) rfl ?_
    intro bk4 w H
    refine NA ?_
    refine WA.two (i := 1) (j := 5) (by kernel_rfl) rfl rfl ?_ ?_
    ·
     refine WR.idxRowSC (l := p0) H Tryz.underlying83 Tryz.sizeOf85 (by repeat (first | exact List.Mem.head _ | apply List.Mem.tail)) rfl rfl hxa1 (Wn.none rfl) rfl ?_
     intro g8 hg8
     refine NA (WA.take (i := 2) rfl (by kernel_rfl) (by kernel_rfl) (by kernel_rfl) (fun _ => Ex.fieldAddr Tryz.underlying85 rfl Tryz.sizeOf9 (by decide) rfl) (Wn.none rfl) rfl rfl (fun _ _ => rfl) ?_)
     refine WA.two (i := 3) (j := 5) (by kernel_rfl) rfl rfl ?_ ?_
     ·
      refine ST (Ex.loadRowF (j := 0) H rfl hg8 (by repeat (first | exact List.Mem.head _ | apply List.Mem.tail)) (fun _ => rfl) hxa1 rfl Tryz.isAgg9) rfl ?_
      refine NA (WA.seq (fuel := 0) [5, 6, 7, 8, 10] rfl (by kernel_rfl) (WR.idxRowSC (l := p0) H Tryz.underlying83 Tryz.sizeOf85 (by repeat (first | exact List.Mem.head _ | apply List.Mem.tail)) rfl rfl hxa2 (Wn.none rfl) rfl ?_))
      intro g12 hg12
      refine ST (Ex.fieldAddr Tryz.underlying85 rfl Tryz.sizeOf9 (by decide) rfl) rfl (ST (Ex.loadRowF (j := 3) H rfl hg12 (by repeat (first | exact List.Mem.head _ | apply List.Mem.tail)) (fun _ => rfl) hxa2 rfl Tryz.isAgg9) rfl ?_)
      refine ST (Ex.build [S a1.1, S a2.2.2.2] Tryz.underlying47 Tryz.zeroValue47 (xplaces47 Tryz.underlying47) rfl rfl) rfl (WR.store [_, _] H rfl rfl rfl (by repeat first | exact .head | apply Upd.tail) Tryz.sizeOf47 rfl (by rfl) (by rfl) (Wn.none rfl) ?_)
      intro w H
      refine NA (WA.done (by kernel_rfl) ?_)
      exact WQ.meetP [(0, _), (2, _), (4, _)] ⟨rfl, rfl, rfl, trivial⟩ ⟨_, _, rfl, (H.pick (L' := [RowS 85 4 xenc85 vp0 p0, .blk bk2 (.cells #[S [], S []] 47), .blk bk4 (.cells #[S a1.1, S a2.2.2.2] 47)]) (by repeat (first | exact Pick.nil | refine Pick.cons (by repeat first | exact .head | apply Rem.tail) ?_))), hg_tabs⟩
     ·
      refine WR.idxRowSC (l := p0) H Tryz.underlying83 Tryz.sizeOf85 (by repeat (first | exact List.Mem.head _ | apply List.Mem.tail)) rfl rfl hxa2 (Wn.none rfl) rfl ?_
      intro g12 hg12
      refine NA (WA.take (i := 6) rfl (by kernel_rfl) (by kernel_rfl) (by kernel_rfl) (fun _ => Ex.fieldAddr Tryz.underlying85 rfl Tryz.sizeOf9 (by decide) rfl) (Wn.none rfl) rfl rfl (fun _ _ => rfl) (WA.takeM (i := 3) [7] rfl (by kernel_rfl) (by kernel_rfl) (by kernel_rfl) (Ex.loadRowF (j := 0) H rfl hg8 (by repeat (first | exact List.Mem.head _ | apply List.Mem.tail)) (fun _ => rfl) hxa1 rfl Tryz.isAgg9) (Wn.none rfl) rfl rfl (fun _ _ => rfl) ?_))
      refine WA.seq (fuel := 0) [7, 8, 10] rfl (by kernel_rfl) (ST (Ex.loadRowF (j := 3) H rfl hg12 (by repeat (first | exact List.Mem.head _ | apply List.Mem.tail)) (fun _ => rfl) hxa2 rfl Tryz.isAgg9) rfl ?_)
      refine ST (Ex.build [S a1.1, S a2.2.2.2] Tryz.underlying47 Tryz.zeroValue47 (xplaces47 Tryz.underlying47) rfl rfl) rfl (WR.store [_, _] H rfl rfl rfl (by repeat first | exact .head | apply Upd.tail) Tryz.sizeOf47 rfl (by rfl) (by rfl) (Wn.none rfl) ?_)
      intro w H
      refine NA (WA.done (by kernel_rfl) ?_)
      exact WQ.meetP [(0, _), (2, _), (4, _)] ⟨rfl, rfl, rfl, trivial⟩ ⟨_, _, rfl, (H.pick (L' := [RowS 85 4 xenc85 vp0 p0, .blk bk2 (.cells #[S [], S []] 47), .blk bk4 (.cells #[S a1.1, S a2.2.2.2] 47)]) (by repeat (first | exact Pick.nil | refine Pick.cons (by repeat first | exact .head | apply Rem.tail) ?_))), hg_tabs⟩
    ·
     refine WR.idxRowSC (l := p0) H Tryz.underlying83 Tryz.sizeOf85 (by repeat (first | exact List.Mem.head _ | apply List.Mem.tail)) rfl rfl hxa2 (Wn.none rfl) rfl ?_
     intro g12 hg12
     refine NA (WA.take (i := 6) rfl (by kernel_rfl) (by kernel_rfl) (by kernel_rfl) (fun _ => Ex.fieldAddr Tryz.underlying85 rfl Tryz.sizeOf9 (by decide) rfl) (Wn.none rfl) rfl rfl (fun _ _ => rfl) ?_)
     refine WA.two (i := 1) (j := 7) (by kernel_rfl) rfl rfl ?_ ?_
     ·
      refine WR.idxRowSC (l := p0) H Tryz.underlying83 Tryz.sizeOf85 (by repeat (first | exact List.Mem.head _ | apply List.Mem.tail)) rfl rfl hxa1 (Wn.none rfl) rfl ?_
      intro g8 hg8
      refine NA (WA.take (i := 2) rfl (by kernel_rfl) (by kernel_rfl) (by kernel_rfl) (fun _ => Ex.fieldAddr Tryz.underlying85 rfl Tryz.sizeOf9 (by decide) rfl) (Wn.none rfl) rfl rfl (fun _ _ => rfl) (WA.takeM (i := 3) [7] rfl (by kernel_rfl) (by kernel_rfl) (by kernel_rfl) (Ex.loadRowF (j := 0) H rfl hg8 (by repeat (first | exact List.Mem.head _ | apply List.Mem.tail)) (fun _ => rfl) hxa1 rfl Tryz.isAgg9) (Wn.none rfl) rfl rfl (fun _ _ => rfl) ?_))
      refine WA.seq (fuel := 0) [7, 8, 10] rfl (by kernel_rfl) (ST (Ex.loadRowF (j := 3) H rfl hg12 (by repeat (first | exact List.Mem.head _ | apply List.Mem.tail)) (fun _ => rfl) hxa2 rfl Tryz.isAgg9) rfl ?_)
      refine ST (Ex.build [S a1.1, S a2.2.2.2] Tryz.underlying47 Tryz.zeroValue47 (xplaces47 Tryz.underlying47) rfl rfl) rfl (WR.store [_, _] H rfl rfl rfl (by repeat first | exact .head | apply Upd.tail) Tryz.sizeOf47 rfl (by rfl) (by rfl) (Wn.none rfl) ?_)
      intro w H
      refine NA (WA.done (by kernel_rfl) ?_)
      exact WQ.meetP [(0, _), (2, _), (4, _)] ⟨rfl, rfl, rfl, trivial⟩ ⟨_, _, rfl, (H.pick (L' := [RowS 85 4 xenc85 vp0 p0, .blk bk2 (.cells #[S [], S []] 47), .blk bk4 (.cells #[S a1.1, S a2.2.2.2] 47)]) (by repeat (first | exact Pick.nil | refine Pick.cons (by repeat first | exact .head | apply Rem.tail) ?_))), hg_tabs⟩
     ·
      refine ST (Ex.loadRowF (j := 3) H rfl hg12 (by repeat (first | exact List.Mem.head _ | apply List.Mem.tail)) (fun _ => rfl) hxa2 rfl Tryz.isAgg9) rfl ?_
      refine NA (WA.seq (fuel := 0) [1, 2, 3, 8, 10] rfl (by kernel_rfl) (WR.idxRowSC (l := p0) H Tryz.underlying83 Tryz.sizeOf85 (by repeat (first | exact List.Mem.head _ | apply List.Mem.tail)) rfl rfl hxa1 (Wn.none rfl) rfl ?_))
      intro g8 hg8
      refine ST (Ex.fieldAddr Tryz.underlying85 rfl Tryz.sizeOf9 (by decide) rfl) rfl (ST (Ex.loadRowF (j := 0) H rfl hg8 (by repeat (first | exact List.Mem.head _ | apply List.Mem.tail)) (fun _ => rfl) hxa1 rfl Tryz.isAgg9) rfl ?_)
      refine ST (Ex.build [S a1.1, S a2.2.2.2] Tryz.underlying47 Tryz.zeroValue47 (xplaces47 Tryz.underlying47) rfl rfl) rfl (WR.store [_, _] H rfl rfl rfl (by repeat first | exact .head | apply Upd.tail) Tryz.sizeOf47 rfl (by rfl) (by rfl) (Wn.none rfl) ?_)
      intro w H
      refine NA (WA.done (by kernel_rfl) ?_)
      exact WQ.meetP [(0, _), (2, _), (4, _)] ⟨rfl, rfl, rfl, trivial⟩ ⟨_, _, rfl, (H.pick (L' := [RowS 85 4 xenc85 vp0 p0, .blk bk2 (.cells #[S [], S []] 47), .blk bk4 (.cells #[S a1.1, S a2.2.2.2] 47)]) (by repeat (first | exact Pick.nil | refine Pick.cons (by repeat first | exact .head | apply Rem.tail) ?_))), hg_tabs⟩
  ·
   rintro e w ⟨b3, M, rfl, H, hg_tabs⟩
   refine TN (SQ (SQ ?_))
   obtain ⟨a4, hxa4, h⟩ := bnd h
   refine RG (MV rfl rfl (WR.idxRowSC (l := p0) H Tryz.underlying83 Tryz.sizeOf85 (by repeat (first | exact List.Mem.head _ | apply List.Mem.tail)) rfl rfl hxa4 (Wn.none rfl) rfl ?_))
   intro g17 hg17
   refine ST (Ex.fieldAddr Tryz.underlying85 rfl Tryz.sizeOf3 (by decide) rfl) rfl (ST (Ex.loadRowF (j := 1) H rfl hg17 (by repeat (first | exact List.Mem.head _ | apply List.Mem.tail)) (fun _ => rfl) hxa4 rfl Tryz.isAgg3) rfl ?_)
   refine ST (Ex.lss rfl rfl) rfl (NL (TN ?_))
   refine WC.condB rfl (fun hk5 => ?_) (fun hk5 => ?_)
   ·
    replace hk5 : a4.2.1 < (0 : Int) := of_decide_eq_true hk5
    rw [if_pos hk5] at h
    refine SQ (RG (ST (Ex.loadAgg H rfl (by repeat (first | exact List.Mem.head _ | apply List.Mem.tail)) Tryz.isAgg47 Tryz.sizeOf47 (by rfl)) rfl ?_))
    refine MV rfl rfl (ST (Ex.lenRowS (l := p0) Tryz.underlying83 H (by repeat (first | exact List.Mem.head _ | apply List.Mem.tail)) rfl) rfl ?_)
    refine ST (Ex.eql rfl rfl) rfl (WR.store [_, _] H rfl rfl rfl (by repeat first | exact .head | apply Upd.tail) Tryz.sizeOf47 rfl (by rfl) (by rfl) (Wn.none rfl) ?_)
    intro w H
    refine AS rfl rfl (NL (TN (RT ?_)))
    obtain rfl := Option.some.inj h
    exact WQ.retX2 (its := []) rfl ⟨_, rfl, H.loadAgg (by repeat (first | exact List.Mem.head _ | apply List.Mem.tail)) Tryz.isAgg47 Tryz.sizeOf47 (by rfl)⟩ rfl H (by repeat (first | exact Pick.nil | refine Pick.cons (by repeat first | exact .head | apply Rem.tail) ?_)) ⟨rfl, rfl⟩
   ·
    replace hk5 : ¬ (a4.2.1 < (0 : Int)) := of_decide_eq_false hk5
    rw [if_neg hk5] at h
    refine SK (TN (SQ ?_))
    obtain ⟨l6, hxl6, h⟩ := bnd h
    refine RG (MV rfl rfl ?_)
    refine WR.callX (A := [RowS 85 4 xenc85 vp0 p0]) (B := [.blk bk2 (.cells #[S [], S []] 47), .blk b3 (.cells #[S a1.1, S a2.2.2.2] 47)]) (H.pick (L' := [RowS 85 4 xenc85 vp0 p0, .blk bk2 (.cells #[S [], S []] 47), .blk b3 (.cells #[S a1.1, S a2.2.2.2] 47)]) (by repeat (first | exact Pick.nil | refine Pick.cons (by repeat first | exact .head | apply Rem.tail) ?_))) (slices_SortFunc_piece_ct hxl6) (.left (Spl.all _)) rfl trivial (Wn.none rfl) rfl ?_
    intro v26 M w its H hle hR
    replace hg_tabs := hg_tabs.mono hle
    obtain ⟨rfl, rfl⟩ := hR
    simp only [List.cons_append, List.nil_append] at H
    refine NL (TN (SQ (RG (ST (Ex.fieldAddr Tryz.underlying47 rfl Tryz.sizeOf9 (by decide) rfl) rfl (WR.store1 [_, _] H rfl rfl (by repeat first | exact .head | apply Upd.tail) (by rfl) Tryz.sizeOf9 (by first | decide | (simp; done) | (simp; omega)) (by rfl) (by rfl) (Wn.none rfl) ?_)))))
    intro w H
    refine NL (TN (SQ (SQ (RG (MV rfl rfl (ST (Ex.lenRowS (l := l6) Tryz.underlying83 H (by repeat (first | exact List.Mem.head _ | apply List.Mem.tail)) rfl) rfl ?_))))))
    refine MV rfl rfl (NL (TN ?_))
    obtain ⟨o7, e8, h⟩ := bnd h
    refine WC.cutX (fun e w => ∃ (s9 : List UInt8) (s10 : List UInt8) (s11 : List UInt8) (s12 : List UInt8) (M : Mem), e = [(2, ptr bk2 0), (4, ptr b3 0)] ∧ StX (feet [RowS 85 4 xenc85 vp0 p0]) w0 M0 M [.blk bk2 (.cells #[S s9, S s10] 47), .blk b3 (.cells #[S s11, S s12] 47)] w ∧ Tabs M ∧ some (.inl (s9, s10, s11, s12)) = some o7) [] ?_ ?_ (trivial)
    ·
     refine BL ?_
     refine WC.loopP (fun m e w => ∃ (s13 : List UInt8) (s14 : List UInt8) (s15 : List UInt8) (s16 : List UInt8) (n17 : Int) (M : Mem), e = [(2, ptr bk2 0), (4, ptr b3 0), (28, vp0), (29, I (l6.length : Int)), (30, I n17)] ∧ StX (feet [RowS 85 4 xenc85 vp0 p0]) w0 M0 M [.blk bk2 (.cells #[S s13, S s14] 47), .blk b3 (.cells #[S s15, S s16] 47), RowS 85 4 xenc85 vp0 l6] w ∧ Tabs M ∧ media_joined_L1 l6 m s13 s14 s15 s16 n17 = some o7) FU [(2, _), (4, _), (28, _), (29, _), (30, _)] ⟨rfl, rfl, rfl, rfl, rfl, trivial⟩ ⟨_, _, _, _, _, _, rfl, (H.pick (L' := [.blk bk2 (.cells #[S [], S []] 47), .blk b3 (.cells #[S a1.1, S []] 47), RowS 85 4 xenc85 vp0 l6]) (by repeat (first | exact Pick.nil | refine Pick.cons (by repeat first | exact .head | apply Rem.tail) ?_))), hg_tabs, e8⟩ ?_
     rintro m18 e w ⟨s13, s14, s15, s16, n17, M, rfl, H, hg_tabs, e8⟩
     rcases m18 with _ | m18
     · rw [media_joined_L1] at e8; cases e8
     rw [media_joined_L1] at e8
     refine SQ (RG (ST (Ex.lss rfl rfl) rfl (NL (TN (SQ ?_)))))
     refine WC.condB rfl (fun hk19 => ?_) (fun hk19 => ?_)
     ·
      replace hk19 : n17 < (l6.length : Int) := of_decide_eq_true hk19
      rw [if_pos hk19] at e8
      refine SK (TN (SQ (BL (SQ ?_))))
      obtain ⟨a20, hxa20, e8⟩ := bnd e8
      refine RG (MV rfl rfl (WR.idxRowSC (l := l6) H Tryz.underlying83 Tryz.sizeOf85 (by repeat (first | exact List.Mem.head _ | apply List.Mem.tail)) rfl rfl hxa20 (Wn.none rfl) rfl ?_))
      intro g33 hg33
      refine ST (Ex.loadRowA H rfl hg33 (by repeat (first | exact List.Mem.head _ | apply List.Mem.tail)) (fun _ => rfl) hxa20 Tryz.isAgg85 Tryz.sizeOf85) rfl ?_
      refine WR.alloc [_, _, _, _] H Tryz.zeroValue85 rfl (Wn.none rfl) rfl ?_
      intro bk6 w H
      refine AS rfl rfl (WR.store [_, _, _, _] H rfl rfl rfl (by repeat first | exact .head | apply Upd.tail) Tryz.sizeOf85 rfl (by rfl) (by rfl) (Wn.none rfl) ?_)
      intro w H
      refine NL (TN (SQ (SQ (RG (ST (Ex.fieldAddr Tryz.underlying85 rfl Tryz.sizeOf3 (by decide) rfl) rfl (ST (Ex.load1 H rfl (by repeat (first | exact List.Mem.head _ | apply List.Mem.tail)) Tryz.isAgg3 (by rfl)) rfl ?_))))))
      refine MV rfl rfl (ST (Ex.neqC rfl rfl) rfl (NL (TN ?_)))
      refine WC.condB rfl (fun hk21 => ?_) (fun hk21 => ?_)
      ·
       replace hk21 : ¬ (a20.2.1 = n17) := of_not_decide hk21
       rw [if_neg hk21] at e8
       refine SQ (RG (ST (Ex.loadAgg H rfl (by repeat (first | exact List.Mem.head _ | apply List.Mem.tail)) Tryz.isAgg47 Tryz.sizeOf47 (by rfl)) rfl ?_))
       refine WR.store [_, _] H rfl rfl rfl (by repeat first | exact .head | apply Upd.tail) Tryz.sizeOf47 rfl (by rfl) (by rfl) (Wn.none rfl) ?_
       intro w H
       refine AS rfl rfl (NL (TN (RT ?_)))
       obtain rfl := Option.some.inj e8
       try dsimp only at h
       obtain rfl := Option.some.inj h
       exact WQ.retX2 (its := []) rfl ⟨_, rfl, H.loadAgg (by repeat (first | exact List.Mem.head _ | apply List.Mem.tail)) Tryz.isAgg47 Tryz.sizeOf47 (by rfl)⟩ rfl H (by repeat (first | exact Pick.nil | refine Pick.cons (by repeat first | exact .head | apply Rem.tail) ?_)) ⟨rfl, rfl⟩
      ·
       replace hk21 : a20.2.1 = n17 := of_not_decide' hk21
       rw [if_pos hk21] at e8
       refine SK (TN ?_)
       obtain ⟨s22, hx23, e8⟩ := bnd e8
       obtain ⟨s24, hxs24, e8⟩ := bnd e8
       refine WC.cutP (fun e w => ∃  (M : Mem), e = [(2, ptr bk2 0), (4, ptr b3 0), (28, vp0), (29, I (l6.length : Int)), (30, I n17)] ∧ StX (feet [RowS 85 4 xenc85 vp0 p0]) w0 M0 M [.blk bk2 (.cells #[S s13, S s14] 47), .blk b3 (.cells #[S s15, S s24] 47), RowS 85 4 xenc85 vp0 l6] w ∧ Tabs M) ?_ ?_
       ·
        refine WC.draw (m := 7) rfl rfl H ?_
        intro w H
        refine WA.take (i := 0) rfl (by kernel_rfl) (by kernel_rfl) (by kernel_rfl) (fun _ => Ex.fieldAddr Tryz.underlying47 rfl Tryz.sizeOf9 (by decide) rfl) (Wn.none rfl) rfl rfl (fun _ _ => rfl) (WA.takeM (i := 2) [1] rfl (by kernel_rfl) (by kernel_rfl) (by kernel_rfl) (Ex.loadAgg H rfl (by repeat (first | exact List.Mem.head _ | apply List.Mem.tail)) Tryz.isAgg85 Tryz.sizeOf85 (by rfl)) (Wn.none rfl) rfl rfl (fun _ _ => rfl) ?_)
        refine WA.two (i := 1) (j := 3) (by kernel_rfl) rfl rfl ?_ ?_
        ·
         refine ST (Ex.load1 H rfl (by repeat (first | exact List.Mem.head _ | apply List.Mem.tail)) Tryz.isAgg9 (by rfl)) rfl ?_
         refine NA (WA.seq (fuel := 0) [3, 4, 5, 6] rfl (by kernel_rfl) (WR.call H (media_piece_text_ct hx23) rfl trivial (Wn.none rfl) rfl ?_))
         intro v43 M w H hle hR
         replace hg_tabs := hg_tabs.mono hle
         obtain rfl := hR
         refine ST (Ex.strAddC rfl rfl hxs24) rfl (ST (Ex.fieldAddr Tryz.underlying47 rfl Tryz.sizeOf9 (by decide) rfl) rfl (WR.store1 [_, _] H rfl rfl (by repeat first | exact .head | apply Upd.tail) (by rfl) Tryz.sizeOf9 (by first | decide | (simp; done) | (simp; omega)) (by rfl) (by rfl) (Wn.none rfl) ?_))
         intro w H
         refine NA (WA.done (by kernel_rfl) ?_)
         exact WQ.meetP [(2, _), (4, _), (28, _), (29, _), (30, _)] ⟨rfl, rfl, rfl, rfl, rfl, trivial⟩ ⟨_, rfl, (H.pick (L' := [.blk bk2 (.cells #[S s13, S s14] 47), .blk b3 (.cells #[S s15, S s24] 47), RowS 85 4 xenc85 vp0 l6]) (by repeat (first | exact Pick.nil | refine Pick.cons (by repeat first | exact .head | apply Rem.tail) ?_))), hg_tabs⟩
        ·
         refine WR.call H (media_piece_text_ct hx23) rfl trivial (Wn.none rfl) rfl ?_
         intro v43 M w H hle hR
         replace hg_tabs := hg_tabs.mono hle
         obtain rfl := hR
         refine NA (WA.seq (fuel := 0) [1, 4, 5, 6] rfl (by kernel_rfl) (ST (Ex.load1 H rfl (by repeat (first | exact List.Mem.head _ | apply List.Mem.tail)) Tryz.isAgg9 (by rfl)) rfl ?_))
         refine ST (Ex.strAddC rfl rfl hxs24) rfl (ST (Ex.fieldAddr Tryz.underlying47 rfl Tryz.sizeOf9 (by decide) rfl) rfl (WR.store1 [_, _] H rfl rfl (by repeat first | exact .head | apply Upd.tail) (by rfl) Tryz.sizeOf9 (by first | decide | (simp; done) | (simp; omega)) (by rfl) (by rfl) (Wn.none rfl) ?_))
         intro w H
         refine NA (WA.done (by kernel_rfl) ?_)
         exact WQ.meetP [(2, _), (4, _), (28, _), (29, _), (30, _)] ⟨rfl, rfl, rfl, rfl, rfl, trivial⟩ ⟨_, rfl, (H.pick (L' := [.blk bk2 (.cells #[S s13, S s14] 47), .blk b3 (.cells #[S s15, S s24] 47), RowS 85 4 xenc85 vp0 l6]) (by repeat (first | exact Pick.nil | refine Pick.cons (by repeat first | exact .head | apply Rem.tail) ?_))), hg_tabs⟩
       ·
        rintro e w ⟨M, rfl, H, hg_tabs⟩
        refine IB (TN ?_)
        obtain ⟨n25, hxn25, e8⟩ := bnd e8
        refine RG (ST (Ex.addC rfl rfl hxn25) rfl (MV rfl rfl (NL ?_)))
        exact WQ.againP m18 [(2, _), (4, _), (28, _), (29, _), (30, _)] ⟨rfl, rfl, rfl, rfl, rfl, trivial⟩ ⟨_, _, _, _, _, _, rfl, H, hg_tabs, e8⟩ (Nat.lt_succ_self _)
     ·
      replace hk19 : ¬ (n17 < (l6.length : Int)) := of_decide_eq_false hk19
      rw [if_neg hk19] at e8
      refine WC.exit (WQ.thenExit (WQ.thenExit (WQ.exitHere ?_)))
      exact WQ.meetN [(2, _), (4, _)] ⟨rfl, rfl, trivial⟩ ⟨_, _, _, _, _, rfl, (H.pick (L' := [.blk bk2 (.cells #[S s13, S s14] 47), .blk b3 (.cells #[S s15, S s16] 47)]) (by repeat (first | exact Pick.nil | refine Pick.cons (by repeat first | exact .head | apply Rem.tail) ?_))), hg_tabs, e8⟩
    ·
     rintro e w ⟨s9, s10, s11, s12, M, rfl, H, hg_tabs, q26⟩
     obtain rfl := Option.some.inj q26
     try dsimp only at h
     refine TN (SQ ?_)
     obtain ⟨s27, hx28, h⟩ := bnd h
     refine RG (ST (Ex.fieldAddr Tryz.underlying47 rfl Tryz.sizeOf9 (by decide) rfl) rfl (ST (Ex.load1 H rfl (by repeat (first | exact List.Mem.head _ | apply List.Mem.tail)) Tryz.isAgg9 (by rfl)) rfl ?_))
     refine WR.call H (strings_ToValidUTF8_ct hx28) rfl (hg_tabs) (Wn.none rfl) rfl ?_
     intro v49 M w H hle hR
     replace hg_tabs := hg_tabs.mono hle
     obtain rfl := hR
     refine ST (Ex.fieldAddr Tryz.underlying47 rfl Tryz.sizeOf9 (by decide) rfl) rfl (WR.store1 [_, _] H rfl rfl (by repeat first | exact .head | apply Upd.tail) (by rfl) Tryz.sizeOf9 (by first | decide | (simp; done) | (simp; omega)) (by rfl) (by rfl) (Wn.none rfl) ?_)
     intro w H
     refine NL (TN (SQ (RG (ST (Ex.loadAgg H rfl (by repeat (first | exact List.Mem.head _ | apply List.Mem.tail)) Tryz.isAgg47 Tryz.sizeOf47 (by rfl)) rfl ?_))))
     refine WR.store [_, _] H rfl rfl rfl (by repeat first | exact .head | apply Upd.tail) Tryz.sizeOf47 rfl (by rfl) (by rfl) (Wn.none rfl) ?_
     intro w H
     refine AS rfl rfl (NL (TN (RT ?_)))
     obtain rfl := Option.some.inj h
     exact WQ.retX2 (its := []) rfl ⟨_, rfl, H.loadAgg (by repeat (first | exact List.Mem.head _ | apply List.Mem.tail)) Tryz.isAgg47 Tryz.sizeOf47 (by rfl)⟩ rfl H (by repeat (first | exact Pick.nil | refine Pick.cons (by repeat first | exact .head | apply Rem.tail) ?_)) ⟨rfl, rfl⟩
theorem media_params_ct {p0 : List (List UInt8 × Int × Bool × List UInt8)} {vp0 : Value} {r : (List (List UInt8 × List UInt8) × Bool)} (h : media_params p0 = some r) : Ct Tryz.prog 60 [vp0] (fun M => Tabs M ∧ SlS M 4 xenc85 vp0 p0) (fun v M => ∃ x0, v = Value.tuple #[x0, Value.bool r.2] ∧ SlS M 2 xenc47 x0 r.1) := by
  refine Ct.of Tryz.func60 (enters Tryz.func60 (by kernel_rfl) rfl) rfl rfl rfl ?_
  intro w0 M0 H hp
  obtain ⟨hg_tabs, hp0⟩ := hp
  unfold media_params at h
  refine SQ (RG (AS rfl rfl (AS rfl rfl (NL (TN (SQ (RG (AS rfl rfl (NL (TN (SQ (SQ (RG (MV rfl rfl (ST (Ex.lenSlS Tryz.underlying83 hp0 rfl) rfl (MV rfl rfl (NL (TN ?_))))))))))))))))))
  obtain ⟨o1, e2, h⟩ := bnd h
  refine WC.cutX (fun e w => ∃ (l4 : List (List UInt8 × List UInt8)) (v5 : Value) (M : Mem), e = [(4, v5)] ∧ St w0 M0 M [RowS 47 2 xenc47 v5 l4] w ∧ Tabs M ∧ some (.inl l4) = some o1) [] ?_ ?_ (trivial)
  ·
   refine BL ?_
   replace H := H.newRowS 47 2 xenc47
   refine WC.loopP (fun m e w => ∃ (l7 : List (List UInt8 × List UInt8)) (v8 : Value) (n9 : Int) (M : Mem), e = [(0, vp0), (4, v8), (13, vp0), (14, I (p0.length : Int)), (15, I n9)] ∧ St w0 M0 M [RowS 47 2 xenc47 v8 l7] w ∧ Tabs M ∧ SlS M 4 xenc85 vp0 p0 ∧ media_params_L1 p0 m l7 n9 = some o1) FU [(0, _), (4, _), (13, _), (14, _), (15, _)] ⟨rfl, rfl, rfl, rfl, rfl, trivial⟩ ⟨_, _, _, _, rfl, H, hg_tabs, hp0, e2⟩ ?_
   rintro m10 e w ⟨l7, v8, n9, M, rfl, H, hg_tabs, hp0, e2⟩
   rcases m10 with _ | m10
   · rw [media_params_L1] at e2; cases e2
   rw [media_params_L1] at e2
   refine SQ (RG (ST (Ex.lss rfl rfl) rfl (NL (TN (SQ ?_)))))
   refine WC.condB rfl (fun hk12 => ?_) (fun hk12 => ?_)
   ·
    replace hk12 : n9 < (p0.length : Int) := of_decide_eq_true hk12
    rw [if_pos hk12] at e2
    refine SK (TN (SQ (BL (SQ ?_))))
    obtain ⟨a13, hxa13, e2⟩ := bnd e2
    obtain ⟨bk18, o18, ha18, hc18⟩ := hp0.atC hxa13
    refine RG (MV rfl rfl (ST (Ex.idxAt ha18 Tryz.underlying83 Tryz.sizeOf85 rfl rfl) rfl (ST (Ex.loadAggM H rfl hc18 Tryz.isAgg85 Tryz.sizeOf85 (by rfl)) rfl ?_)))
    refine WR.alloc [_, _, _, _] H Tryz.zeroValue85 rfl (Wn.none rfl) rfl ?_
    intro bk6 w H
    refine AS rfl rfl (WR.store [_, _, _, _] H rfl rfl rfl (by repeat first | exact .head | apply Upd.tail) Tryz.sizeOf85 rfl (by rfl) (by rfl) (Wn.none rfl) ?_)
    intro w H
    refine NL (TN (SQ (RG ?_)))
    obtain ⟨M, hle, hb14, H⟩ := H.freezeVar (b := bk6) (by repeat first | exact .head | apply Rem.tail)
    replace hg_tabs := hg_tabs.mono hle
    replace hp0 := hp0.mono hle
    replace hc18 := hc18.mono hle
    refine ST (Ex.makeFunc rfl) rfl (AS rfl rfl (NL (TN (SQ (SQ ?_)))))
    obtain ⟨l15, hxl15, e2⟩ := bnd e2
    obtain ⟨b16, hx17, e2⟩ := bnd e2
    refine RG (MV rfl rfl (MV rfl rfl (WR.sliceSSH Tryz.underlying83 Tryz.sizeOf85 (hp0) rfl rfl hxl15 (Wn.none rfl) rfl ?_)))
    intro v23 hs23
    refine MV rfl rfl (WR.call H (slices_ContainsFunc_piece_ct hx17) rfl ⟨hs23, (fun _ _ h => FnV.ofCap [ptr bk6 0] (media_params_1_ct h) (fun _ hm => hb14.mono hm))⟩ (Wn.none rfl) rfl ?_)
    intro v25 M w H hle hR
    replace hg_tabs := hg_tabs.mono hle
    replace hp0 := hp0.mono hle
    replace hc18 := hc18.mono hle
    replace hb14 := hb14.mono hle
    replace hs23 := hs23.mono hle
    obtain rfl := hR
    refine NL (TN ?_)
    refine WC.condB rfl (fun hk18 => ?_) (fun hk18 => ?_)
    ·
     subst hk18
     rw [if_pos rfl] at e2
     refine WC.exit (WQ.thenExit (WQ.exitHere (TN ?_)))
     obtain ⟨n19, hxn19, e2⟩ := bnd e2
     refine RG (ST (Ex.addC rfl rfl hxn19) rfl (MV rfl rfl (NL ?_)))
     exact WQ.againP m10 [(0, _), (4, _), (13, _), (14, _), (15, _)] ⟨rfl, rfl, rfl, rfl, rfl, trivial⟩ ⟨_, _, _, _, rfl, H, hg_tabs, hp0, e2⟩ (Nat.lt_succ_self _)
    ·
     subst hk18
     rw [if_neg Bool.false_ne_true] at e2
     refine SK (TN (SQ (RG (AS rfl rfl (NL (TN (SQ (SQ (RG (MV rfl rfl (ST (Ex.lenSlS Tryz.underlying83 hp0 rfl) rfl (MV rfl rfl (NL (TN ?_))))))))))))))
     obtain ⟨o20, e21, e2⟩ := bnd e2
     refine WC.cutX (fun e w => ∃ (l23 : List (List UInt8 × Int × Bool × List UInt8)) (v24 : Value) (M : Mem), e = [(0, vp0), (4, v8), (6, ptr bk6 0), (8, v24), (13, vp0), (14, I (p0.length : Int)), (15, I n9)] ∧ St w0 M0 M [RowS 47 2 xenc47 v8 l7, RowS 85 4 xenc85 v24 l23] w ∧ Tabs M ∧ SlS M 4 xenc85 vp0 p0 ∧ PtM M bk6 (.cells #[S a13.1, I a13.2.1, Value.bool a13.2.2.1, S a13.2.2.2] 85) ∧ some l23 = some o20) [] ?_ ?_ (trivial)
     ·
      refine BL ?_
      replace H := H.newRowS 85 4 xenc85
      refine WC.loopP (fun m e w => ∃ (l26 : List (List UInt8 × Int × Bool × List UInt8)) (v27 : Value) (n28 : Int) (M : Mem), e = [(0, vp0), (4, v8), (6, ptr bk6 0), (7, (Value.func (.func 79) #[] #[ptr bk6 0])), (8, v27), (13, vp0), (14, I (p0.length : Int)), (15, I n9), (26, vp0), (27, I (p0.length : Int)), (28, I n28)] ∧ St w0 M0 M [RowS 47 2 xenc47 v8 l7, RowS 85 4 xenc85 v27 l26] w ∧ Tabs M ∧ SlS M 4 xenc85 vp0 p0 ∧ PtM M bk6 (.cells #[S a13.1, I a13.2.1, Value.bool a13.2.2.1, S a13.2.2.2] 85) ∧ media_params_L2 p0 a13 m l26 n28 = some o20) FU [(0, _), (4, _), (6, _), (7, _), (8, _), (13, _), (14, _), (15, _), (26, _), (27, _), (28, _)] ⟨rfl, rfl, rfl, rfl, rfl, rfl, rfl, rfl, rfl, rfl, rfl, trivial⟩ ⟨_, _, _, _, rfl, (H.pick (L' := [RowS 47 2 xenc47 v8 l7, RowS 85 4 xenc85 (Value.slice none 0 0) []]) (by repeat (first | exact Pick.nil | refine Pick.cons (by repeat first | exact .head | apply Rem.tail) ?_))), hg_tabs, hp0, hb14, e21⟩ ?_
      rintro m29 e w ⟨l26, v27, n28, M, rfl, H, hg_tabs, hp0, hb14, e21⟩
      rcases m29 with _ | m29
      · rw [media_params_L2] at e21; cases e21
      rw [media_params_L2] at e21
      refine SQ (RG (ST (Ex.lss rfl rfl) rfl (NL (TN (SQ ?_)))))
      refine WC.condB rfl (fun hk31 => ?_) (fun hk31 => ?_)
      ·
       replace hk31 : n28 < (p0.length : Int) := of_decide_eq_true hk31
       rw [if_pos hk31] at e21
       refine SK (TN (SQ (BL (SQ ?_))))
       obtain ⟨a32, hxa32, e21⟩ := bnd e21
       obtain ⟨bk30, o30, ha30, hc30⟩ := hp0.atC hxa32
       refine RG (ST (Ex.idxAt ha30 Tryz.underlying83 Tryz.sizeOf85 rfl rfl) rfl (ST (Ex.loadAggM H rfl hc30 Tryz.isAgg85 Tryz.sizeOf85 (by rfl)) rfl ?_))
       refine WR.alloc [_, _, _, _] H Tryz.zeroValue85 rfl (Wn.none rfl) rfl ?_
       intro bk10 w H
       refine WR.store [_, _, _, _] H rfl rfl rfl (by repeat first | exact .head | apply Upd.tail) Tryz.sizeOf85 rfl (by rfl) (by rfl) (Wn.none rfl) ?_
       intro w H
       refine NL (TN (SQ ?_))
       obtain ⟨b33, hx34, e21⟩ := bnd e21
       refine RG (MV rfl rfl (ST (Ex.loadAgg H rfl (by repeat (first | exact List.Mem.head _ | apply List.Mem.tail)) Tryz.isAgg85 Tryz.sizeOf85 (by rfl)) rfl ?_))
       refine WR.callV (vs := [Value.agg #[S a32.1, I a32.2.1, Value.bool a32.2.2.1, S a32.2.2.2]]) (cap := [ptr bk6 0]) H (media_params_1_ct hx34) rfl rfl (hb14) (Wn.none rfl) rfl ?_
       intro v34 M w H hle hR
       replace hg_tabs := hg_tabs.mono hle
       replace hp0 := hp0.mono hle
       replace hc30 := hc30.mono hle
       replace hb14 := hb14.mono hle
       obtain rfl := hR
       refine NL (TN ?_)
       refine WC.condB rfl (fun hk35 => ?_) (fun hk35 => ?_)
       ·
        subst hk35
        rw [if_pos rfl] at e21
        obtain ⟨l36, hxl36, e21⟩ := bnd e21
        refine RG (MV rfl rfl (ST (Ex.loadAgg H rfl (by repeat (first | exact List.Mem.head _ | apply List.Mem.tail)) Tryz.isAgg85 Tryz.sizeOf85 (by rfl)) rfl ?_))
        refine WR.litS (enc := xenc85) xty83 ([(a32.1, a32.2.1, a32.2.2.1, a32.2.2.2)] : List (List UInt8 × Int × Bool × List UInt8)) H (fun _ => rfl) rfl (by kernel_rfl) rfl rfl rfl (Wn.none rfl) rfl ?_
        intro v37 M w H hle hs37
        replace hg_tabs := hg_tabs.mono hle
        replace hp0 := hp0.mono hle
        replace hc30 := hc30.mono hle
        replace hb14 := hb14.mono hle
        refine WR.appSC (l := l26) xty83 rfl xone85 H rfl (fun _ => by repeat first | exact .head | apply Upd.tail) rfl (hs37) hxl36 (Wn.none rfl) rfl ?_
        intro v38 w H
        refine AS rfl rfl (NL (IB (TN ?_)))
        obtain ⟨n37, hxn37, e21⟩ := bnd e21
        refine RG (ST (Ex.addC rfl rfl hxn37) rfl (MV rfl rfl (NL ?_)))
        exact WQ.againP m29 [(0, _), (4, _), (6, _), (7, _), (8, _), (13, _), (14, _), (15, _), (26, _), (27, _), (28, _)] ⟨rfl, rfl, rfl, rfl, rfl, rfl, rfl, rfl, rfl, rfl, rfl, trivial⟩ ⟨_, _, _, _, rfl, (H.pick (L' := [RowS 47 2 xenc47 v8 l7, RowS 85 4 xenc85 v38 l36]) (by repeat (first | exact Pick.nil | refine Pick.cons (by repeat first | exact .head | apply Rem.tail) ?_))), hg_tabs, hp0, hb14, e21⟩ (Nat.lt_succ_self _)
       ·
        subst hk35
        rw [if_neg Bool.false_ne_true] at e21
        refine SK (IB (TN ?_))
        obtain ⟨n38, hxn38, e21⟩ := bnd e21
        refine RG (ST (Ex.addC rfl rfl hxn38) rfl (MV rfl rfl (NL ?_)))
        exact WQ.againP m29 [(0, _), (4, _), (6, _), (7, _), (8, _), (13, _), (14, _), (15, _), (26, _), (27, _), (28, _)] ⟨rfl, rfl, rfl, rfl, rfl, rfl, rfl, rfl, rfl, rfl, rfl, trivial⟩ ⟨_, _, _, _, rfl, (H.pick (L' := [RowS 47 2 xenc47 v8 l7, RowS 85 4 xenc85 v27 l26]) (by repeat (first | exact Pick.nil | refine Pick.cons (by repeat first | exact .head | apply Rem.tail) ?_))), hg_tabs, hp0, hb14, e21⟩ (Nat.lt_succ_self _)
      ·
       replace hk31 : ¬ (n28 < (p0.length : Int)) := of_decide_eq_false hk31
       rw [if_neg hk31] at e21
       refine WC.exit (WQ.thenExit (WQ.thenExit (WQ.exitHere ?_)))
       exact WQ.meetN [(0, _), (4, _), (6, _), (8, _), (13, _), (14, _), (15, _)] ⟨rfl, rfl, rfl, rfl, rfl, rfl, rfl, trivial⟩ ⟨_, _, _, rfl, H, hg_tabs, hp0, hb14, e21⟩
     ·
      rintro e w ⟨l23, v24, M, rfl, H, hg_tabs, hp0, hb14, q39⟩
      obtain rfl := Option.some.inj q39
      refine TN (SQ ?_)
      obtain ⟨⟨⟨s40, s41⟩, b42⟩, hx43, e2⟩ := bnd e2
      try dsimp only at e2
      refine RG (MV rfl rfl ?_)
      refine WR.callX (A := [RowS 85 4 xenc85 v24 l23]) (B := [RowS 47 2 xenc47 v8 l7]) (H.pick (L' := [RowS 85 4 xenc85 v24 l23, RowS 47 2 xenc47 v8 l7]) (by repeat (first | exact Pick.nil | refine Pick.cons (by repeat first | exact .head | apply Rem.tail) ?_))) (media_joined_ct hx43) (.left (Spl.all _)) rfl (hg_tabs) (Wn.none rfl) rfl ?_
      intro v42 M w its H hle hR
      replace hg_tabs := hg_tabs.mono hle
      replace hp0 := hp0.mono hle
      replace hb14 := hb14.mono hle
      try dsimp only at hR
      obtain ⟨rfl, rfl⟩ := hR
      simp only [List.cons_append, List.nil_append] at H
      refine MV rfl rfl (ST (Ex.extract rfl rfl) rfl (ST (Ex.extract rfl rfl) rfl (WR.alloc [_, _] H Tryz.zeroValue47 rfl (Wn.none rfl) rfl ?_)))
      intro bk11 w H
      refine WR.store [_, _] H rfl rfl rfl (by repeat first | exact .head | apply Upd.tail) Tryz.sizeOf47 rfl (by rfl) (by rfl) (Wn.none rfl) ?_
      intro w H
      refine AS rfl rfl (NL (TN (SQ (SQ (RG (MV rfl rfl (ST (Ex.not rfl) rfl (NL (TN ?_)))))))))
      refine WC.condB rfl (fun hk44 => ?_) (fun hk44 => ?_)
      ·
       replace hk44 : b42 = false := by simpa using hk44
       subst hk44
       rw [if_neg Bool.false_ne_true] at e2
       refine SQ (RG (AS rfl rfl (AS rfl rfl (NL (TN (RT ?_))))))
       obtain rfl := Option.some.inj e2
       try dsimp only at h
       obtain rfl := Option.some.inj h
       exact WQ.ret2 rfl rfl rfl H.ext (⟨_, rfl, (SlS.nil _ _ (fun _ => rfl))⟩)
      ·
       replace hk44 : b42 = true := by simpa using hk44
       subst hk44
       rw [if_pos rfl] at e2
       refine SK (TN (SQ (RG (ST (Ex.fieldAddr Tryz.underlying85 rfl Tryz.sizeOf9 (by decide) rfl) rfl (ST (Ex.loadM H rfl (hb14.cell (j := 0) rfl) Tryz.isAgg9) rfl (ST (Ex.fieldAddr Tryz.underlying47 rfl Tryz.sizeOf9 (by decide) rfl) rfl (WR.store1 [_, _] H rfl rfl (by repeat first | exact .head | apply Upd.tail) (by rfl) Tryz.sizeOf9 (by first | decide | (simp; done) | (simp; omega)) (by rfl) (by rfl) (Wn.none rfl) ?_)))))))
       intro w H
       refine NL (TN ?_)
       obtain ⟨l45, hxl45, e2⟩ := bnd e2
       refine RG (MV rfl rfl (ST (Ex.loadAgg H rfl (by repeat (first | exact List.Mem.head _ | apply List.Mem.tail)) Tryz.isAgg47 Tryz.sizeOf47 (by rfl)) rfl ?_))
       refine WR.litS (enc := xenc47) xty22 ([(a13.1, s41)] : List (List UInt8 × List UInt8)) H (fun _ => rfl) rfl (by kernel_rfl) rfl rfl rfl (Wn.none rfl) rfl ?_
       intro v52 M w H hle hs52
       replace hg_tabs := hg_tabs.mono hle
       replace hp0 := hp0.mono hle
       replace hb14 := hb14.mono hle
       refine WR.appSC (l := l7) xty22 rfl xone47 H rfl (fun _ => by repeat first | exact .head | apply Upd.tail) rfl (hs52) hxl45 (Wn.none rfl) rfl ?_
       intro v53 w H
       refine AS rfl rfl (NL (IB (TN ?_)))
       obtain ⟨n46, hxn46, e2⟩ := bnd e2
       refine RG (ST (Ex.addC rfl rfl hxn46) rfl (MV rfl rfl (NL ?_)))
       exact WQ.againP m10 [(0, _), (4, _), (13, _), (14, _), (15, _)] ⟨rfl, rfl, rfl, rfl, rfl, trivial⟩ ⟨_, _, _, _, rfl, (H.pick (L' := [RowS 47 2 xenc47 v53 l45]) (by repeat (first | exact Pick.nil | refine Pick.cons (by repeat first | exact .head | apply Rem.tail) ?_))), hg_tabs, hp0, e2⟩ (Nat.lt_succ_self _)
   ·
    replace hk12 : ¬ (n9 < (p0.length : Int)) := of_decide_eq_false hk12
    rw [if_neg hk12] at e2
    refine WC.exit (WQ.thenExit (WQ.thenExit (WQ.exitHere ?_)))
    exact WQ.meetN [(4, _)] ⟨rfl, trivial⟩ ⟨_, _, _, rfl, H, hg_tabs, e2⟩
  ·
   rintro e w ⟨l4, v5, M, rfl, H, hg_tabs, q47⟩
   obtain rfl := Option.some.inj q47
   try dsimp only at h
   refine TN (SQ (RG (MV rfl rfl (AS rfl rfl (AS rfl rfl (NL (TN (RT ?_))))))))
   obtain ⟨M, hle, hs48, H⟩ := H.freezeRowS (v := v5) (enc := xenc47) (t := 47) (by repeat first | exact .head | apply Rem.tail) (fun _ => rfl)
   replace hg_tabs := hg_tabs.mono hle
   obtain rfl := Option.some.inj h
   exact WQ.ret2 rfl rfl rfl H.ext (⟨_, rfl, hs48⟩)
theorem media_parse_ct {p0 : List UInt8} {r : ((List UInt8 × List UInt8 × List (List UInt8 × List UInt8)) × Bool)} (h : media_parse p0 = some r) : Ct Tryz.prog 34 [S p0] (fun M => GlF (fun w => ∃ tp p, w.var? Tryz.prog "strconv.ErrRange" = some #[.iface tp p]) M ∧ GlF (fun w => ∃ tp p, w.var? Tryz.prog "strconv.ErrSyntax" = some #[.iface tp p]) M ∧ GlF (fun w => ∃ m, w.cell? ⟨2, 0, none⟩ = some (.int .i64 m)) M ∧ GlF (fun w => Lib.TabIs Tryz.prog w "internal/strconv.uint64pow10" .u64 Lib.pow10Tab) M ∧ Tabs M) (fun v M => ∃ x0_2, v = Value.tuple #[Value.agg #[S r.1.1, S r.1.2.1, x0_2], Value.bool r.2] ∧ SlS M 2 xenc47 x0_2 r.1.2.2) := by
  refine Ct.of Tryz.func34 (enters Tryz.func34 (by kernel_rfl) rfl) rfl rfl rfl ?_
  intro w0 M0 H hp
  obtain ⟨hg_errR, hg_errS, hg_maxl, hg_pow10, hg_tabs⟩ := hp
  unfold media_parse at h
  refine SQ (RG (WR.alloc [_, _, _] H Tryz.zeroValue24 rfl (Wn.none rfl) rfl ?_))
  intro bk2 w H
  refine AS rfl rfl (NL (TN (SQ (RG (MV rfl rfl (ST (Ex.build [S p0] Tryz.underlying81 Tryz.zeroValue81 (xplaces81 Tryz.underlying81) rfl rfl) rfl (WR.box [_] H rfl rfl (Wn.none rfl) rfl ?_)))))))
  intro bk13 w H
  refine AS rfl rfl (NL (TN (SQ (RG (WR.alloc [_, _, _] H Tryz.zeroValue24 rfl (Wn.none rfl) rfl ?_)))))
  intro bk5 w H
  refine NL (TN (SQ ?_))
  obtain ⟨⟨s1, o2⟩, hx3, h⟩ := bnd h
  try dsimp only at h
  refine RG (MV rfl rfl ?_)
  refine WR.callX (A := [.blk bk13 (.cells #[S p0] 81)]) (B := [.blk bk5 (.cells #[S [], S [], Value.slice none 0 0] 24), .blk bk2 (.cells #[S [], S [], Value.slice none 0 0] 24)]) (H.pick (L' := [.blk bk13 (.cells #[S p0] 81), .blk bk5 (.cells #[S [], S [], Value.slice none 0 0] 24), .blk bk2 (.cells #[S [], S [], Value.slice none 0 0] 24)]) (by repeat (first | exact Pick.nil | refine Pick.cons (by repeat first | exact .head | apply Rem.tail) ?_))) (media_reader_take_ct hx3) (.left (Spl.all _)) rfl ((fun _ _ h => FnV.of (media_tokenByte_ct h) (fun _ _ => trivial))) (Wn.none rfl) rfl ?_
  intro v15 M w its H hle hR
  replace hg_errR := hg_errR.mono hle
  replace hg_errS := hg_errS.mono hle
  replace hg_maxl := hg_maxl.mono hle
  replace hg_pow10 := hg_pow10.mono hle
  replace hg_tabs := hg_tabs.mono hle
  try dsimp only at hR
  obtain ⟨rfl, rfl⟩ := hR
  simp only [List.cons_append, List.nil_append] at H
  refine ST (Ex.fieldAddr Tryz.underlying24 rfl Tryz.sizeOf9 (by decide) rfl) rfl (WR.store1 [_, _, _] H rfl rfl (by repeat first | exact .head | apply Upd.tail) (by rfl) Tryz.sizeOf9 (by first | decide | (simp; done) | (simp; omega)) (by rfl) (by rfl) (Wn.none rfl) ?_)
  intro w H
  refine NL (TN (SQ ?_))
  obtain ⟨⟨b4, o5⟩, hx6, h⟩ := bnd h
  try dsimp only at h
  refine RG (MV rfl rfl ?_)
  refine WR.callX (A := [.blk bk13 (.cells #[S o2] 81)]) (B := [.blk bk5 (.cells #[S s1, S [], Value.slice none 0 0] 24), .blk bk2 (.cells #[S [], S [], Value.slice none 0 0] 24)]) (H.pick (L' := [.blk bk13 (.cells #[S o2] 81), .blk bk5 (.cells #[S s1, S [], Value.slice none 0 0] 24), .blk bk2 (.cells #[S [], S [], Value.slice none 0 0] 24)]) (by repeat (first | exact Pick.nil | refine Pick.cons (by repeat first | exact .head | apply Rem.tail) ?_))) (media_reader_sign_ct hx6) (.left (Spl.all _)) rfl trivial (Wn.none rfl) rfl ?_
  intro v18 M w its H hle hR
  replace hg_errR := hg_errR.mono hle
  replace hg_errS := hg_errS.mono hle
  replace hg_maxl := hg_maxl.mono hle
  replace hg_pow10 := hg_pow10.mono hle
  replace hg_tabs := hg_tabs.mono hle
  try dsimp only at hR
  obtain ⟨rfl, rfl⟩ := hR
  simp only [List.cons_append, List.nil_append] at H
  refine AS rfl rfl (NL (TN (SQ ?_)))
  obtain ⟨⟨s7, o8⟩, hx9, h⟩ := bnd h
  try dsimp only at h
  refine RG (MV rfl rfl ?_)
  refine WR.callX (A := [.blk bk13 (.cells #[S o5] 81)]) (B := [.blk bk5 (.cells #[S s1, S [], Value.slice none 0 0] 24), .blk bk2 (.cells #[S [], S [], Value.slice none 0 0] 24)]) (H.pick (L' := [.blk bk13 (.cells #[S o5] 81), .blk bk5 (.cells #[S s1, S [], Value.slice none 0 0] 24), .blk bk2 (.cells #[S [], S [], Value.slice none 0 0] 24)]) (by repeat (first | exact Pick.nil | refine Pick.cons (by repeat first | exact .head | apply Rem.tail) ?_))) (media_reader_take_ct hx9) (.left (Spl.all _)) rfl ((fun _ _ h => FnV.of (media_tokenByte_ct h) (fun _ _ => trivial))) (Wn.none rfl) rfl ?_
  intro v20 M w its H hle hR
  replace hg_errR := hg_errR.mono hle
  replace hg_errS := hg_errS.mono hle
  replace hg_maxl := hg_maxl.mono hle
  replace hg_pow10 := hg_pow10.mono hle
  replace hg_tabs := hg_tabs.mono hle
  try dsimp only at hR
  obtain ⟨rfl, rfl⟩ := hR
  simp only [List.cons_append, List.nil_append] at H
  refine ST (Ex.fieldAddr Tryz.underlying24 rfl Tryz.sizeOf9 (by decide) rfl) rfl (WR.store1 [_, _, _] H rfl rfl (by repeat first | exact .head | apply Upd.tail) (by rfl) Tryz.sizeOf9 (by first | decide | (simp; done) | (simp; omega)) (by rfl) (by rfl) (Wn.none rfl) ?_)
  intro w H
  refine NL (TN (SQ (SQ ?_)))
  obtain ⟨o10, e11, h⟩ := bnd h
  refine WC.cutX (fun e w => ∃ (b12 : Bool) (M : Mem), e = [(2, ptr bk2 0), (4, ptr bk13 0), (5, ptr bk5 0), (33, Value.bool b12)] ∧ St w0 M0 M [.blk bk2 (.cells #[S [], S [], Value.slice none 0 0] 24), .blk bk13 (.cells #[S o8] 81), .blk bk5 (.cells #[S s1, S s7, Value.slice none 0 0] 24)] w ∧ GlF (fun w => ∃ tp p, w.var? Tryz.prog "strconv.ErrRange" = some #[.iface tp p]) M ∧ GlF (fun w => ∃ tp p, w.var? Tryz.prog "strconv.ErrSyntax" = some #[.iface tp p]) M ∧ GlF (fun w => ∃ m, w.cell? ⟨2, 0, none⟩ = some (.int .i64 m)) M ∧ GlF (fun w => Lib.TabIs Tryz.prog w "internal/strconv.uint64pow10" .u64 Lib.pow10Tab) M ∧ Tabs M ∧ some b12 = some o10) [] ?_ ?_ (trivial)
  ·
   refine RG (ST (Ex.fieldAddr Tryz.underlying24 rfl Tryz.sizeOf9 (by decide) rfl) rfl (ST (Ex.load1 H rfl (by repeat (first | exact List.Mem.head _ | apply List.Mem.tail)) Tryz.isAgg9 (by rfl)) rfl ?_))
   by_cases hk13 : s1 = []
   ·
    rw [if_pos hk13] at e11
    refine WR.stepE (v' := .bool true) (Ex.strEql rfl rfl) (congrArg Value.bool (decide_eq_true hk13)) (Wn.none rfl) rfl rfl (MV rfl rfl (GT rfl rfl rfl (GT rfl rfl rfl (PT rfl rfl rfl (MV rfl rfl (WR.skipN 3 rfl rfl (PT rfl rfl rfl (NL ?_))))))))
    exact WQ.meetN [(2, _), (4, _), (5, _), (33, _)] ⟨rfl, rfl, rfl, rfl, trivial⟩ ⟨_, _, rfl, (H.pick (L' := [.blk bk2 (.cells #[S [], S [], Value.slice none 0 0] 24), .blk bk13 (.cells #[S o8] 81), .blk bk5 (.cells #[S s1, S s7, Value.slice none 0 0] 24)]) (by repeat (first | exact Pick.nil | refine Pick.cons (by repeat first | exact .head | apply Rem.tail) ?_))), hg_errR, hg_errS, hg_maxl, hg_pow10, hg_tabs, e11⟩
   ·
    rw [if_neg hk13] at e11
    rcases b4 with _ | _
    ·
     rw [if_neg Bool.false_ne_true] at e11
     refine WR.stepE (v' := .bool false) (Ex.strEql rfl rfl) (congrArg Value.bool (decide_eq_false hk13)) (Wn.none rfl) rfl rfl (MV rfl rfl (SG (Ex.move rfl) rfl rfl rfl (SG (Ex.not rfl) rfl rfl rfl (PF rfl rfl rfl (MV rfl rfl (WR.skipN 3 rfl rfl (PT rfl rfl rfl (NL ?_))))))))
     exact WQ.meetN [(2, _), (4, _), (5, _), (33, _)] ⟨rfl, rfl, rfl, rfl, trivial⟩ ⟨_, _, rfl, (H.pick (L' := [.blk bk2 (.cells #[S [], S [], Value.slice none 0 0] 24), .blk bk13 (.cells #[S o8] 81), .blk bk5 (.cells #[S s1, S s7, Value.slice none 0 0] 24)]) (by repeat (first | exact Pick.nil | refine Pick.cons (by repeat first | exact .head | apply Rem.tail) ?_))), hg_errR, hg_errS, hg_maxl, hg_pow10, hg_tabs, e11⟩
    ·
     rw [if_pos rfl] at e11
     refine WR.stepE (v' := .bool false) (Ex.strEql rfl rfl) (congrArg Value.bool (decide_eq_false hk13)) (Wn.none rfl) rfl rfl (MV rfl rfl (SG (Ex.move rfl) rfl rfl rfl (SG (Ex.not rfl) rfl rfl rfl (PF rfl rfl rfl (MV rfl rfl (SG (Ex.fieldAddr Tryz.underlying24 rfl Tryz.sizeOf9 (by decide) rfl) rfl rfl rfl (SG (Ex.load1 H rfl (by repeat (first | exact List.Mem.head _ | apply List.Mem.tail)) Tryz.isAgg9 (by rfl)) rfl rfl rfl ?_)))))))
     refine SG (Ex.strEql rfl rfl) rfl rfl rfl (PF rfl rfl rfl (NL ?_))
     exact WQ.meetN [(2, _), (4, _), (5, _), (33, _)] ⟨rfl, rfl, rfl, rfl, trivial⟩ ⟨_, _, rfl, (H.pick (L' := [.blk bk2 (.cells #[S [], S [], Value.slice none 0 0] 24), .blk bk13 (.cells #[S o8] 81), .blk bk5 (.cells #[S s1, S s7, Value.slice none 0 0] 24)]) (by repeat (first | exact Pick.nil | refine Pick.cons (by repeat first | exact .head | apply Rem.tail) ?_))), hg_errR, hg_errS, hg_maxl, hg_pow10, hg_tabs, e11⟩
  ·
   rintro e w ⟨b12, M, rfl, H, hg_errR, hg_errS, hg_maxl, hg_pow10, hg_tabs, q14⟩
   obtain rfl := Option.some.inj q14
   refine TN ?_
   refine WC.condB rfl (fun hk15 => ?_) (fun hk15 => ?_)
   ·
    subst hk15
    rw [if_pos rfl] at h
    refine SQ (RG (ST (Ex.loadAgg H rfl (by repeat (first | exact List.Mem.head _ | apply List.Mem.tail)) Tryz.isAgg24 Tryz.sizeOf24 (by rfl)) rfl ?_))
    refine WR.store [_, _, _] H rfl rfl rfl (by repeat first | exact .head | apply Upd.tail) Tryz.sizeOf24 rfl (by rfl) (by rfl) (Wn.none rfl) ?_
    intro w H
    refine AS rfl rfl (NL (TN (RT ?_)))
    obtain rfl := Option.some.inj h
    exact WQ.ret2 rfl ⟨_, rfl, H.loadAgg (by repeat (first | exact List.Mem.head _ | apply List.Mem.tail)) Tryz.isAgg24 Tryz.sizeOf24 (by rfl)⟩ rfl H.ext (⟨_, rfl, (SlS.nil _ _ (fun _ => rfl))⟩)
   ·
    subst hk15
    rw [if_neg Bool.false_ne_true] at h
    refine SK (TN (SQ (RG (AS rfl rfl (NL (TN (SQ ?_)))))))
    obtain ⟨o16, e17, h⟩ := bnd h
    refine WC.cutX (fun e w => ∃ (s18 : List UInt8) (s19 : List UInt8) (l20 : List (List UInt8 × List UInt8)) (v21 : Value) (s23 : List UInt8) (l25 : List (List UInt8 × Int × Bool × List UInt8)) (v26 : Value) (M : Mem), e = [(2, ptr bk2 0), (4, ptr bk13 0), (5, ptr bk5 0), (7, v26)] ∧ St w0 M0 M [.blk bk2 (.cells #[S s18, S s19, v21] 24), .blk bk13 (.cells #[S s23] 81), .blk bk5 (.cells #[S s1, S s7, Value.slice none 0 0] 24), RowS 85 4 xenc85 v26 l25] w ∧ GlF (fun w => ∃ tp p, w.var? Tryz.prog "strconv.ErrRange" = some #[.iface tp p]) M ∧ GlF (fun w => ∃ tp p, w.var? Tryz.prog "strconv.ErrSyntax" = some #[.iface tp p]) M ∧ GlF (fun w => ∃ m, w.cell? ⟨2, 0, none⟩ = some (.int .i64 m)) M ∧ GlF (fun w => Lib.TabIs Tryz.prog w "internal/strconv.uint64pow10" .u64 Lib.pow10Tab) M ∧ Tabs M ∧ SlS M 2 xenc47 v21 l20 ∧ some (.inl (s18, s19, l20, s23, l25)) = some o16) [] ?_ ?_ (trivial)
    ·
     refine BL ?_
     replace H := H.newRowS 85 4 xenc85
     refine WC.loopP (fun m e w => ∃ (s27 : List UInt8) (s28 : List UInt8) (l29 : List (List UInt8 × List UInt8)) (v30 : Value) (s32 : List UInt8) (l34 : List (List UInt8 × Int × Bool × List UInt8)) (v35 : Value) (M : Mem), e = [(2, ptr bk2 0), (4, ptr bk13 0), (5, ptr bk5 0), (7, v35)] ∧ St w0 M0 M [.blk bk2 (.cells #[S s27, S s28, v30] 24), .blk bk13 (.cells #[S s32] 81), .blk bk5 (.cells #[S s1, S s7, Value.slice none 0 0] 24), RowS 85 4 xenc85 v35 l34] w ∧ GlF (fun w => ∃ tp p, w.var? Tryz.prog "strconv.ErrRange" = some #[.iface tp p]) M ∧ GlF (fun w => ∃ tp p, w.var? Tryz.prog "strconv.ErrSyntax" = some #[.iface tp p]) M ∧ GlF (fun w => ∃ m, w.cell? ⟨2, 0, none⟩ = some (.int .i64 m)) M ∧ GlF (fun w => Lib.TabIs Tryz.prog w "internal/strconv.uint64pow10" .u64 Lib.pow10Tab) M ∧ Tabs M ∧ SlS M 2 xenc47 v30 l29 ∧ media_parse_L1 s1 s7 m s27 s28 l29 s32 l34 = some o16) FU [(2, _), (4, _), (5, _), (7, _)] ⟨rfl, rfl, rfl, rfl, trivial⟩ ⟨_, _, _, _, _, _, _, _, rfl, (H.pick (L' := [.blk bk2 (.cells #[S [], S [], Value.slice none 0 0] 24), .blk bk13 (.cells #[S o8] 81), .blk bk5 (.cells #[S s1, S s7, Value.slice none 0 0] 24), RowS 85 4 xenc85 (Value.slice none 0 0) []]) (by repeat (first | exact Pick.nil | refine Pick.cons (by repeat first | exact .head | apply Rem.tail) ?_))), hg_errR, hg_errS, hg_maxl, hg_pow10, hg_tabs, (SlS.nil _ _ (fun _ => rfl)), e17⟩ ?_
     rintro m36 e w ⟨s27, s28, l29, v30, s32, l34, v35, M, rfl, H, hg_errR, hg_errS, hg_maxl, hg_pow10, hg_tabs, hs31, e17⟩
     rcases m36 with _ | m36
     · rw [media_parse_L1] at e17; cases e17
     rw [media_parse_L1] at e17
     refine SQ (SQ ?_)
     obtain ⟨⟨b38, o39⟩, hx40, e17⟩ := bnd e17
     try dsimp only at e17
     refine RG (MV rfl rfl ?_)
     refine WR.callX (A := [.blk bk13 (.cells #[S s32] 81)]) (B := [.blk bk2 (.cells #[S s27, S s28, v30] 24), .blk bk5 (.cells #[S s1, S s7, Value.slice none 0 0] 24), RowS 85 4 xenc85 v35 l34]) (H.pick (L' := [.blk bk13 (.cells #[S s32] 81), .blk bk2 (.cells #[S s27, S s28, v30] 24), .blk bk5 (.cells #[S s1, S s7, Value.slice none 0 0] 24), RowS 85 4 xenc85 v35 l34]) (by repeat (first | exact Pick.nil | refine Pick.cons (by repeat first | exact .head | apply Rem.tail) ?_))) (media_reader_sign_ct hx40) (.left (Spl.all _)) rfl trivial (Wn.none rfl) rfl ?_
     intro v36 M w its H hle hR
     replace hg_errR := hg_errR.mono hle
     replace hg_errS := hg_errS.mono hle
     replace hg_maxl := hg_maxl.mono hle
     replace hg_pow10 := hg_pow10.mono hle
     replace hg_tabs := hg_tabs.mono hle
     replace hs31 := hs31.mono hle
     try dsimp only at hR
     obtain ⟨rfl, rfl⟩ := hR
     simp only [List.cons_append, List.nil_append] at H
     refine NL (TN ?_)
     refine WC.condB rfl (fun hk41 => ?_) (fun hk41 => ?_)
     ·
      subst hk41
      rw [if_pos rfl] at e17
      refine SK (TN (BL (SQ ?_)))
      obtain ⟨⟨⟨s42, n43, b44, s45⟩, b46, o47⟩, hx48, e17⟩ := bnd e17
      try dsimp only at e17
      refine RG (MV rfl rfl ?_)
      refine WR.callX (A := [.blk bk13 (.cells #[S o39] 81)]) (B := [.blk bk2 (.cells #[S s27, S s28, v30] 24), .blk bk5 (.cells #[S s1, S s7, Value.slice none 0 0] 24), RowS 85 4 xenc85 v35 l34]) (H.pick (L' := [.blk bk13 (.cells #[S o39] 81), .blk bk2 (.cells #[S s27, S s28, v30] 24), .blk bk5 (.cells #[S s1, S s7, Value.slice none 0 0] 24), RowS 85 4 xenc85 v35 l34]) (by repeat (first | exact Pick.nil | refine Pick.cons (by repeat first | exact .head | apply Rem.tail) ?_))) (media_reader_read_ct hx48) (.left (Spl.all _)) rfl ⟨hg_errR, hg_errS, hg_maxl, hg_pow10⟩ (Wn.none rfl) rfl ?_
      intro v39 M w its H hle hR
      replace hg_errR := hg_errR.mono hle
      replace hg_errS := hg_errS.mono hle
      replace hg_maxl := hg_maxl.mono hle
      replace hg_pow10 := hg_pow10.mono hle
      replace hg_tabs := hg_tabs.mono hle
      replace hs31 := hs31.mono hle
      try dsimp only at hR
      obtain ⟨rfl, rfl⟩ := hR
      simp only [List.cons_append, List.nil_append] at H
      refine MV rfl rfl (ST (Ex.extract rfl rfl) rfl (ST (Ex.extract rfl rfl) rfl (WR.alloc [_, _, _, _] H Tryz.zeroValue85 rfl (Wn.none rfl) rfl ?_)))
      intro bk8 w H
      refine WR.store [_, _, _, _] H rfl rfl rfl (by repeat first | exact .head | apply Upd.tail) Tryz.sizeOf85 rfl (by rfl) (by rfl) (Wn.none rfl) ?_
      intro w H
      refine AS rfl rfl (NL (TN (SQ (SQ (RG (MV rfl rfl (ST (Ex.not rfl) rfl (NL (TN ?_)))))))))
      refine WC.condB rfl (fun hk49 => ?_) (fun hk49 => ?_)
      ·
       replace hk49 : b46 = false := by simpa using hk49
       subst hk49
       rw [if_neg Bool.false_ne_true] at e17
       refine SQ (RG (ST (Ex.loadAgg H rfl (by repeat (first | exact List.Mem.head _ | apply List.Mem.tail)) Tryz.isAgg24 Tryz.sizeOf24 (by rfl)) rfl ?_))
       refine WR.store [_, _, _] H rfl rfl rfl (by repeat first | exact .head | apply Upd.tail) Tryz.sizeOf24 rfl (by rfl) (by rfl) (Wn.none rfl) ?_
       intro w H
       refine AS rfl rfl (NL (TN (RT ?_)))
       obtain rfl := Option.some.inj e17
       try dsimp only at h
       obtain rfl := Option.some.inj h
       exact WQ.ret2 rfl ⟨_, rfl, H.loadAgg (by repeat (first | exact List.Mem.head _ | apply List.Mem.tail)) Tryz.isAgg24 Tryz.sizeOf24 (by rfl)⟩ rfl H.ext (⟨_, rfl, (SlS.nil _ _ (fun _ => rfl))⟩)
      ·
       replace hk49 : b46 = true := by simpa using hk49
       subst hk49
       rw [if_pos rfl] at e17
       refine SK (TN ?_)
       obtain ⟨l50, hxl50, e17⟩ := bnd e17
       refine RG (MV rfl rfl (ST (Ex.loadAgg H rfl (by repeat (first | exact List.Mem.head _ | apply List.Mem.tail)) Tryz.isAgg85 Tryz.sizeOf85 (by rfl)) rfl ?_))
       refine WR.litS (enc := xenc85) xty83 ([(s42, n43, b44, s45)] : List (List UInt8 × Int × Bool × List UInt8)) H (fun _ => rfl) rfl (by kernel_rfl) rfl rfl rfl (Wn.none rfl) rfl ?_
       intro v47 M w H hle hs47
       replace hg_errR := hg_errR.mono hle
       replace hg_errS := hg_errS.mono hle
       replace hg_maxl := hg_maxl.mono hle
       replace hg_pow10 := hg_pow10.mono hle
       replace hg_tabs := hg_tabs.mono hle
       replace hs31 := hs31.mono hle
       refine WR.appSC (l := l34) xty83 rfl xone85 H rfl (fun _ => by repeat first | exact .head | apply Upd.tail) rfl (hs47) hxl50 (Wn.none rfl) rfl ?_
       intro v48 w H
       refine AS rfl rfl (NL (IB ?_))
       exact WQ.againP m36 [(2, _), (4, _), (5, _), (7, _)] ⟨rfl, rfl, rfl, rfl, trivial⟩ ⟨_, _, _, _, _, _, _, _, rfl, (H.pick (L' := [.blk bk2 (.cells #[S s27, S s28, v30] 24), .blk bk13 (.cells #[S o47] 81), .blk bk5 (.cells #[S s1, S s7, Value.slice none 0 0] 24), RowS 85 4 xenc85 v48 l50]) (by repeat (first | exact Pick.nil | refine Pick.cons (by repeat first | exact .head | apply Rem.tail) ?_))), hg_errR, hg_errS, hg_maxl, hg_pow10, hg_tabs, hs31, e17⟩ (Nat.lt_succ_self _)
     ·
      subst hk41
      rw [if_neg Bool.false_ne_true] at e17
      refine WC.exit (WQ.thenExit (WQ.thenExit (WQ.exitHere ?_)))
      exact WQ.meetN [(2, _), (4, _), (5, _), (7, _)] ⟨rfl, rfl, rfl, rfl, trivial⟩ ⟨_, _, _, _, _, _, _, _, rfl, (H.pick (L' := [.blk bk2 (.cells #[S s27, S s28, v30] 24), .blk bk13 (.cells #[S o39] 81), .blk bk5 (.cells #[S s1, S s7, Value.slice none 0 0] 24), RowS 85 4 xenc85 v35 l34]) (by repeat (first | exact Pick.nil | refine Pick.cons (by repeat first | exact .head | apply Rem.tail) ?_))), hg_errR, hg_errS, hg_maxl, hg_pow10, hg_tabs, hs31, e17⟩
    ·
     rintro e w ⟨s18, s19, l20, v21, s23, l25, v26, M, rfl, H, hg_errR, hg_errS, hg_maxl, hg_pow10, hg_tabs, hs22, q51⟩
     obtain rfl := Option.some.inj q51
     try dsimp only at h
     refine TN (SQ ?_)
     obtain ⟨o52, hx53, h⟩ := bnd h
     refine RG (MV rfl rfl ?_)
     refine WR.callX (A := [.blk bk13 (.cells #[S s23] 81)]) (B := [.blk bk2 (.cells #[S s18, S s19, v21] 24), .blk bk5 (.cells #[S s1, S s7, Value.slice none 0 0] 24), RowS 85 4 xenc85 v26 l25]) (H.pick (L' := [.blk bk13 (.cells #[S s23] 81), .blk bk2 (.cells #[S s18, S s19, v21] 24), .blk bk5 (.cells #[S s1, S s7, Value.slice none 0 0] 24), RowS 85 4 xenc85 v26 l25]) (by repeat (first | exact Pick.nil | refine Pick.cons (by repeat first | exact .head | apply Rem.tail) ?_))) (media_reader_blanks_ct hx53) (.left (Spl.all _)) rfl trivial (Wn.none rfl) rfl ?_
     intro v50 M w its H hle hR
     replace hg_errR := hg_errR.mono hle
     replace hg_errS := hg_errS.mono hle
     replace hg_maxl := hg_maxl.mono hle
     replace hg_pow10 := hg_pow10.mono hle
     replace hg_tabs := hg_tabs.mono hle
     replace hs22 := hs22.mono hle
     obtain ⟨rfl, rfl⟩ := hR
     simp only [List.cons_append, List.nil_append] at H
     refine NL (TN (SQ (RG (AS rfl rfl (NL (TN (SQ ?_)))))))
     obtain ⟨⟨l55, b56⟩, hx57, h⟩ := bnd h
     try dsimp only at h
     refine RG (MV rfl rfl ?_)
     obtain ⟨M, hle, hs54, H⟩ := H.freezeRowS (v := v26) (enc := xenc85) (t := 85) (by repeat first | exact .head | apply Rem.tail) (fun _ => rfl)
     replace hg_errR := hg_errR.mono hle
     replace hg_errS := hg_errS.mono hle
     replace hg_maxl := hg_maxl.mono hle
     replace hg_pow10 := hg_pow10.mono hle
     replace hg_tabs := hg_tabs.mono hle
     replace hs22 := hs22.mono hle
     refine WR.call H (media_params_ct hx57) rfl ⟨hg_tabs, hs54⟩ (Wn.none rfl) rfl ?_
     intro v53 M w H hle hR
     replace hg_errR := hg_errR.mono hle
     replace hg_errS := hg_errS.mono hle
     replace hg_maxl := hg_maxl.mono hle
     replace hg_pow10 := hg_pow10.mono hle
     replace hg_tabs := hg_tabs.mono hle
     replace hs22 := hs22.mono hle
     replace hs54 := hs54.mono hle
     try dsimp only at hR
     obtain ⟨x53_0, rfl, f53_0⟩ := hR
     refine MV rfl rfl (ST (Ex.extract rfl rfl) rfl (ST (Ex.extract rfl rfl) rfl (ST (Ex.fieldAddr Tryz.underlying24 rfl Tryz.sizeOf22 (by decide) rfl) rfl (WR.putV [_, _, _] H rfl rfl (f53_0.one) (by repeat first | exact .head | apply Upd.tail) (by rfl) Tryz.sizeOf22 (by first | decide | (simp; done) | (simp; omega)) (Wn.none rfl) ?_))))
     intro w H
     refine AS rfl rfl (NL (TN (SQ ?_)))
     obtain ⟨o58, e59, h⟩ := bnd h
     refine WC.cutX (fun e w => ∃ (s60 : List UInt8) (s61 : List UInt8) (l62 : List (List UInt8 × List UInt8)) (v63 : Value) (b65 : Bool) (M : Mem), e = [(2, ptr bk2 0), (3, Value.bool b65)] ∧ St w0 M0 M [.blk bk2 (.cells #[S s60, S s61, v63] 24)] w ∧ GlF (fun w => ∃ tp p, w.var? Tryz.prog "strconv.ErrRange" = some #[.iface tp p]) M ∧ GlF (fun w => ∃ tp p, w.var? Tryz.prog "strconv.ErrSyntax" = some #[.iface tp p]) M ∧ GlF (fun w => ∃ m, w.cell? ⟨2, 0, none⟩ = some (.int .i64 m)) M ∧ GlF (fun w => Lib.TabIs Tryz.prog w "internal/strconv.uint64pow10" .u64 Lib.pow10Tab) M ∧ Tabs M ∧ SlS M 2 xenc47 v63 l62 ∧ some (s60, s61, l62, b65) = some o58) [] ?_ ?_ (trivial)
     ·
      refine WC.draw (m := 11) rfl rfl H ?_
      intro w H
      refine WA.take (i := 1) rfl (by kernel_rfl) (by kernel_rfl) (by kernel_rfl) (fun _ => Ex.move rfl) (Wn.none rfl) rfl rfl (fun _ _ => rfl) (WA.take (i := 2) rfl (by kernel_rfl) (by kernel_rfl) (by kernel_rfl) (fun _ => Ex.move rfl) (Wn.none rfl) rfl rfl (fun _ _ => rfl) ?_)
      rcases b56 with _ | _
      ·
       rw [if_neg Bool.false_ne_true] at e59
       refine WA.takes (fuel := 4) [3, 4, 5, 6, 7] rfl (by kernel_rfl) (by kernel_rfl) rfl (WA.take (i := 8) rfl (by kernel_rfl) (by kernel_rfl) (by kernel_rfl) (fun _ => Ex.pickF rfl rfl) (Wn.none rfl) rfl rfl (fun _ _ => rfl) (WA.seq (fuel := 0) [0, 9, 10] rfl (by kernel_rfl) (ST (Ex.loadAgg H rfl (by repeat (first | exact List.Mem.head _ | apply List.Mem.tail)) Tryz.isAgg24 Tryz.sizeOf24 (by rfl)) rfl ?_)))
       refine WR.store [_, _, _] H rfl rfl rfl (by repeat first | exact .head | apply Upd.tail) Tryz.sizeOf24 rfl (by rfl) (by simp only [List.all_cons, List.all_nil, (f53_0).one.2]; rfl) (Wn.none rfl) ?_
       intro w H
       refine AS rfl rfl (NA (WA.done (by kernel_rfl) ?_))
       exact WQ.meetN [(2, _), (3, _)] ⟨rfl, rfl, trivial⟩ ⟨_, _, _, _, _, _, rfl, (H.pick (L' := [.blk bk2 (.cells #[S s1, S s7, x53_0] 24)]) (by repeat (first | exact Pick.nil | refine Pick.cons (by repeat first | exact .head | apply Rem.tail) ?_))), hg_errR, hg_errS, hg_maxl, hg_pow10, hg_tabs, f53_0, e59⟩
      ·
       rw [if_pos rfl] at e59
       refine WA.take (i := 3) rfl (by kernel_rfl) (by kernel_rfl) (by kernel_rfl) (fun _ => Ex.move rfl) (Wn.some rfl rfl rfl) rfl rfl (fun _ _ => rfl) (WA.take (i := 4) rfl (by kernel_rfl) (by kernel_rfl) (by kernel_rfl) (fun _ => Ex.nilCheckP rfl) (Wn.some rfl rfl rfl) rfl rfl (fun _ _ => rfl) (WA.take (i := 5) rfl (by kernel_rfl) (by kernel_rfl) (by kernel_rfl) (fun _ => Ex.fieldAddr Tryz.underlying81 rfl Tryz.sizeOf9 (by decide) rfl) (Wn.some rfl rfl rfl) rfl rfl (fun _ _ => rfl) ?_))
       refine WA.two (i := 0) (j := 6) (by kernel_rfl) rfl rfl ?_ ?_
       ·
        refine ST (Ex.loadAgg H rfl (by repeat (first | exact List.Mem.head _ | apply List.Mem.tail)) Tryz.isAgg24 Tryz.sizeOf24 (by rfl)) rfl ?_
        refine NA ?_
        refine WA.two (i := 6) (j := 9) (by kernel_rfl) rfl rfl ?_ ?_
        ·
         refine SG (Ex.load1 H rfl (by repeat (first | exact List.Mem.head _ | apply List.Mem.tail)) Tryz.isAgg9 (by rfl)) rfl rfl rfl ?_
         refine NA (WA.take (i := 7) rfl (by kernel_rfl) (by kernel_rfl) (by kernel_rfl) (fun _ => Ex.strEql rfl rfl) (Wn.some rfl rfl rfl) rfl rfl (fun _ _ => rfl) (WA.take (i := 8) rfl (by kernel_rfl) (by kernel_rfl) (by kernel_rfl) (fun _ => Ex.pickT rfl rfl) (Wn.none rfl) rfl rfl (fun _ _ => rfl) (WA.seq (fuel := 0) [9, 10] rfl (by kernel_rfl) (WR.store [_, _, _] H rfl rfl rfl (by repeat first | exact .head | apply Upd.tail) Tryz.sizeOf24 rfl (by rfl) (by simp only [List.all_cons, List.all_nil, (f53_0).one.2]; rfl) (Wn.none rfl) ?_))))
         intro w H
         refine AS rfl rfl (NA (WA.done (by kernel_rfl) ?_))
         exact WQ.meetN [(2, _), (3, _)] ⟨rfl, rfl, trivial⟩ ⟨_, _, _, _, _, _, rfl, (H.pick (L' := [.blk bk2 (.cells #[S s1, S s7, x53_0] 24)]) (by repeat (first | exact Pick.nil | refine Pick.cons (by repeat first | exact .head | apply Rem.tail) ?_))), hg_errR, hg_errS, hg_maxl, hg_pow10, hg_tabs, f53_0, e59⟩
        ·
         refine WR.store [_, _, _] H rfl rfl rfl (by repeat first | exact .head | apply Upd.tail) Tryz.sizeOf24 rfl (by rfl) (by simp only [List.all_cons, List.all_nil, (f53_0).one.2]; rfl) (Wn.none rfl) ?_
         intro w H
         refine NA (WA.seq (fuel := 0) [6, 7, 8, 10] rfl (by kernel_rfl) (SG (Ex.load1 H rfl (by repeat (first | exact List.Mem.head _ | apply List.Mem.tail)) Tryz.isAgg9 (by rfl)) rfl rfl rfl ?_))
         refine SG (Ex.strEql rfl rfl) rfl rfl rfl (PT rfl rfl rfl (AS rfl rfl (NA (WA.done (by kernel_rfl) ?_))))
         exact WQ.meetN [(2, _), (3, _)] ⟨rfl, rfl, trivial⟩ ⟨_, _, _, _, _, _, rfl, (H.pick (L' := [.blk bk2 (.cells #[S s1, S s7, x53_0] 24)]) (by repeat (first | exact Pick.nil | refine Pick.cons (by repeat first | exact .head | apply Rem.tail) ?_))), hg_errR, hg_errS, hg_maxl, hg_pow10, hg_tabs, f53_0, e59⟩
       ·
        refine SG (Ex.load1 H rfl (by repeat (first | exact List.Mem.head _ | apply List.Mem.tail)) Tryz.isAgg9 (by rfl)) rfl rfl rfl ?_
        refine NA (WA.take (i := 7) rfl (by kernel_rfl) (by kernel_rfl) (by kernel_rfl) (fun _ => Ex.strEql rfl rfl) (Wn.some rfl rfl rfl) rfl rfl (fun _ _ => rfl) (WA.take (i := 8) rfl (by kernel_rfl) (by kernel_rfl) (by kernel_rfl) (fun _ => Ex.pickT rfl rfl) (Wn.none rfl) rfl rfl (fun _ _ => rfl) (WA.seq (fuel := 0) [0, 9, 10] rfl (by kernel_rfl) (ST (Ex.loadAgg H rfl (by repeat (first | exact List.Mem.head _ | apply List.Mem.tail)) Tryz.isAgg24 Tryz.sizeOf24 (by rfl)) rfl ?_))))
        refine WR.store [_, _, _] H rfl rfl rfl (by repeat first | exact .head | apply Upd.tail) Tryz.sizeOf24 rfl (by rfl) (by simp only [List.all_cons, List.all_nil, (f53_0).one.2]; rfl) (Wn.none rfl) ?_
        intro w H
        refine AS rfl rfl (NA (WA.done (by kernel_rfl) ?_))
        exact WQ.meetN [(2, _), (3, _)] ⟨rfl, rfl, trivial⟩ ⟨_, _, _, _, _, _, rfl, (H.pick (L' := [.blk bk2 (.cells #[S s1, S s7, x53_0] 24)]) (by repeat (first | exact Pick.nil | refine Pick.cons (by repeat first | exact .head | apply Rem.tail) ?_))), hg_errR, hg_errS, hg_maxl, hg_pow10, hg_tabs, f53_0, e59⟩
     ·
      rintro e w ⟨s60, s61, l62, v63, b65, M, rfl, H, hg_errR, hg_errS, hg_maxl, hg_pow10, hg_tabs, hs64, q66⟩
      obtain rfl := Option.some.inj q66
      try dsimp only at h
      refine TN (RT ?_)
      obtain rfl := Option.some.inj h
      exact WQ.ret2 rfl ⟨_, rfl, H.loadAgg (by repeat (first | exact List.Mem.head _ | apply List.Mem.tail)) Tryz.isAgg24 Tryz.sizeOf24 (by rfl)⟩ rfl H.ext (⟨_, rfl, hs64⟩)
theorem media_Parse_ct {p0 : List UInt8} {r : ((List UInt8 × List UInt8 × List (List UInt8 × List UInt8)) × (Int × Int))} (h : media_Parse p0 = some r) : Ct Tryz.prog 15 [S p0] (fun M => GlF (fun w => ∃ tp p, w.var? Tryz.prog "strconv.ErrRange" = some #[.iface tp p]) M ∧ GlF (fun w => ∃ tp p, w.var? Tryz.prog "strconv.ErrSyntax" = some #[.iface tp p]) M ∧ GlF (fun w => ∃ m, w.cell? ⟨2, 0, none⟩ = some (.int .i64 m)) M ∧ GlF (fun w => Lib.TabIs Tryz.prog w "internal/strconv.uint64pow10" .u64 Lib.pow10Tab) M ∧ Tabs M) (fun v M => ∃ x0_2, v = Value.tuple #[Value.agg #[S r.1.1, S r.1.2.1, x0_2], Value.agg #[I r.2.1, I r.2.2]] ∧ SlS M 2 xenc47 x0_2 r.1.2.2) := by
  refine Ct.of Tryz.func15 (enters Tryz.func15 (by kernel_rfl) rfl) rfl rfl rfl ?_
  intro w0 M0 H hp
  obtain ⟨hg_errR, hg_errS, hg_maxl, hg_pow10, hg_tabs⟩ := hp
  unfold media_Parse at h
  refine SQ (RG (WR.alloc [_, _, _] H Tryz.zeroValue24 rfl (Wn.none rfl) rfl ?_))
  intro bk2 w H
  refine WR.alloc [_, _] H Tryz.zeroValue27 rfl (Wn.none rfl) rfl ?_
  intro bk3 w H
  refine NL (TN (SQ (SQ (RG (MV rfl rfl (ST (Ex.lenStr Tryz.underlying9 rfl) rfl (ST (Ex.gtr rfl rfl) rfl (NL (TN ?_)))))))))
  refine WC.condB rfl (fun hk1 => ?_) (fun hk1 => ?_)
  ·
   replace hk1 : (4000 : Int) < (p0.length : Int) := of_decide_eq_true hk1
   rw [if_pos hk1] at h
   refine SQ ?_
   obtain ⟨⟨n2, n3⟩, hx4, h⟩ := bnd h
   try dsimp only at h
   refine RG (ST (Ex.build [S [], S [], Value.slice none 0 0] Tryz.underlying24 Tryz.zeroValue24 (xplaces24 Tryz.underlying24) rfl rfl) rfl (WR.call H (basic_Fault_ct hx4) rfl trivial (Wn.none rfl) rfl ?_))
   intro v11 M w H hle hR
   replace hg_errR := hg_errR.mono hle
   replace hg_errS := hg_errS.mono hle
   replace hg_maxl := hg_maxl.mono hle
   replace hg_pow10 := hg_pow10.mono hle
   replace hg_tabs := hg_tabs.mono hle
   try dsimp only at hR
   obtain rfl := hR
   refine WR.store [_, _, _] H rfl rfl rfl (by repeat first | exact .head | apply Upd.tail) Tryz.sizeOf24 rfl (by rfl) (by rfl) (Wn.none rfl) ?_
   intro w H
   refine WR.store [_, _] H rfl rfl rfl (by repeat first | exact .head | apply Upd.tail) Tryz.sizeOf27 rfl (by rfl) (by rfl) (Wn.none rfl) ?_
   intro w H
   refine NL (TN (RT ?_))
   obtain rfl := Option.some.inj h
   exact WQ.ret2 rfl ⟨_, rfl, H.loadAgg (by repeat (first | exact List.Mem.head _ | apply List.Mem.tail)) Tryz.isAgg24 Tryz.sizeOf24 (by rfl)⟩ ⟨_, rfl, H.loadAgg (by repeat (first | exact List.Mem.head _ | apply List.Mem.tail)) Tryz.isAgg27 Tryz.sizeOf27 (by rfl)⟩ H.ext (⟨_, rfl, (SlS.nil _ _ (fun _ => rfl))⟩)
  ·
   replace hk1 : ¬ ((4000 : Int) < (p0.length : Int)) := of_decide_eq_false hk1
   rw [if_neg hk1] at h
   refine SK (TN (SQ ?_))
   obtain ⟨⟨⟨s5, s6, l7⟩, b8⟩, hx9, h⟩ := bnd h
   try dsimp only at h
   refine RG (MV rfl rfl (WR.call H (media_parse_ct hx9) rfl ⟨hg_errR, hg_errS, hg_maxl, hg_pow10, hg_tabs⟩ (Wn.none rfl) rfl ?_))
   intro v14 M w H hle hR
   replace hg_errR := hg_errR.mono hle
   replace hg_errS := hg_errS.mono hle
   replace hg_maxl := hg_maxl.mono hle
   replace hg_pow10 := hg_pow10.mono hle
   replace hg_tabs := hg_tabs.mono hle
   try dsimp only at hR
   obtain ⟨x14_0_2, rfl, f14_0_2⟩ := hR
   refine MV rfl rfl (ST (Ex.extract rfl rfl) rfl (ST (Ex.extract rfl rfl) rfl (WR.alloc [_, _, _] H Tryz.zeroValue24 rfl (Wn.none rfl) rfl ?_)))
   intro bk4 w H
   refine WR.store [_, _, _] H rfl rfl rfl (by repeat first | exact .head | apply Upd.tail) Tryz.sizeOf24 rfl (by rfl) (by simp only [List.all_cons, List.all_nil, (f14_0_2).one.2]; rfl) (Wn.none rfl) ?_
   intro w H
   refine AS rfl rfl (NL (TN (SQ (SQ (RG (MV rfl rfl (ST (Ex.not rfl) rfl (NL (TN ?_)))))))))
   refine WC.condB rfl (fun hk10 => ?_) (fun hk10 => ?_)
   ·
    replace hk10 : b8 = false := by simpa using hk10
    subst hk10
    rw [if_neg Bool.false_ne_true] at h
    refine SQ ?_
    obtain ⟨⟨n11, n12⟩, hx13, h⟩ := bnd h
    try dsimp only at h
    refine RG (ST (Ex.build [S [], S [], Value.slice none 0 0] Tryz.underlying24 Tryz.zeroValue24 (xplaces24 Tryz.underlying24) rfl rfl) rfl (WR.call H (basic_Fault_ct hx13) rfl trivial (Wn.none rfl) rfl ?_))
    intro v20 M w H hle hR
    replace hg_errR := hg_errR.mono hle
    replace hg_errS := hg_errS.mono hle
    replace hg_maxl := hg_maxl.mono hle
    replace hg_pow10 := hg_pow10.mono hle
    replace hg_tabs := hg_tabs.mono hle
    replace f14_0_2 := f14_0_2.mono hle
    try dsimp only at hR
    obtain rfl := hR
    refine WR.store [_, _, _] H rfl rfl rfl (by repeat first | exact .head | apply Upd.tail) Tryz.sizeOf24 rfl (by rfl) (by rfl) (Wn.none rfl) ?_
    intro w H
    refine WR.store [_, _] H rfl rfl rfl (by repeat first | exact .head | apply Upd.tail) Tryz.sizeOf27 rfl (by rfl) (by rfl) (Wn.none rfl) ?_
    intro w H
    refine NL (TN (RT ?_))
    obtain rfl := Option.some.inj h
    exact WQ.ret2 rfl ⟨_, rfl, H.loadAgg (by repeat (first | exact List.Mem.head _ | apply List.Mem.tail)) Tryz.isAgg24 Tryz.sizeOf24 (by rfl)⟩ ⟨_, rfl, H.loadAgg (by repeat (first | exact List.Mem.head _ | apply List.Mem.tail)) Tryz.isAgg27 Tryz.sizeOf27 (by rfl)⟩ H.ext (⟨_, rfl, (SlS.nil _ _ (fun _ => rfl))⟩)
   ·
    replace hk10 : b8 = true := by simpa using hk10
    subst hk10
    rw [if_pos rfl] at h
    refine SK (TN (SQ (SQ ?_)))
    obtain ⟨⟨n14, n15⟩, hx16, h⟩ := bnd h
    try dsimp only at h
    refine RG (ST (Ex.loadAgg H rfl (by repeat (first | exact List.Mem.head _ | apply List.Mem.tail)) Tryz.isAgg24 Tryz.sizeOf24 (by rfl)) rfl ?_)
    refine WR.call H (media_Validate_ct hx16) rfl ⟨hg_tabs, f14_0_2⟩ (Wn.none rfl) rfl ?_
    intro v22 M w H hle hR
    replace hg_errR := hg_errR.mono hle
    replace hg_errS := hg_errS.mono hle
    replace hg_maxl := hg_maxl.mono hle
    replace hg_pow10 := hg_pow10.mono hle
    replace hg_tabs := hg_tabs.mono hle
    replace f14_0_2 := f14_0_2.mono hle
    try dsimp only at hR
    obtain rfl := hR
    refine WR.alloc [_, _] H Tryz.zeroValue27 rfl (Wn.none rfl) rfl ?_
    intro bk6 w H
    refine WR.store [_, _] H rfl rfl rfl (by repeat first | exact .head | apply Upd.tail) Tryz.sizeOf27 rfl (by rfl) (by rfl) (Wn.none rfl) ?_
    intro w H
    refine NL (TN (SQ ?_))
    obtain ⟨b17, hx18, h⟩ := bnd h
    refine RG (ST (Ex.loadAgg H rfl (by repeat (first | exact List.Mem.head _ | apply List.Mem.tail)) Tryz.isAgg27 Tryz.sizeOf27 (by rfl)) rfl ?_)
    refine WR.call H (basic_Failed_ct hx18) rfl trivial (Wn.none rfl) rfl ?_
    intro v24 M w H hle hR
    replace hg_errR := hg_errR.mono hle
    replace hg_errS := hg_errS.mono hle
    replace hg_maxl := hg_maxl.mono hle
    replace hg_pow10 := hg_pow10.mono hle
    replace hg_tabs := hg_tabs.mono hle
    replace f14_0_2 := f14_0_2.mono hle
    obtain rfl := hR
    refine NL (TN ?_)
    refine WC.condB rfl (fun hk19 => ?_) (fun hk19 => ?_)
    ·
     subst hk19
     rw [if_pos rfl] at h
     refine SQ ?_
     obtain ⟨⟨n20, n21⟩, hx22, h⟩ := bnd h
     try dsimp only at h
     refine RG (ST (Ex.build [S [], S [], Value.slice none 0 0] Tryz.underlying24 Tryz.zeroValue24 (xplaces24 Tryz.underlying24) rfl rfl) rfl (ST (Ex.fieldAddr Tryz.underlying27 rfl Tryz.sizeOf3 (by decide) rfl) rfl (ST (Ex.load1 H rfl (by repeat (first | exact List.Mem.head _ | apply List.Mem.tail)) Tryz.isAgg3 (by rfl)) rfl ?_)))
     refine WR.call H (basic_Fault_ct hx22) rfl trivial (Wn.none rfl) rfl ?_
     intro v28 M w H hle hR
     replace hg_errR := hg_errR.mono hle
     replace hg_errS := hg_errS.mono hle
     replace hg_maxl := hg_maxl.mono hle
     replace hg_pow10 := hg_pow10.mono hle
     replace hg_tabs := hg_tabs.mono hle
     replace f14_0_2 := f14_0_2.mono hle
     try dsimp only at hR
     obtain rfl := hR
     refine WR.store [_, _, _] H rfl rfl rfl (by repeat first | exact .head | apply Upd.tail) Tryz.sizeOf24 rfl (by rfl) (by rfl) (Wn.none rfl) ?_
     intro w H
     refine WR.store [_, _] H rfl rfl rfl (by repeat first | exact .head | apply Upd.tail) Tryz.sizeOf27 rfl (by rfl) (by rfl) (Wn.none rfl) ?_
     intro w H
     refine NL (TN (RT ?_))
     obtain rfl := Option.some.inj h
     exact WQ.ret2 rfl ⟨_, rfl, H.loadAgg (by repeat (first | exact List.Mem.head _ | apply List.Mem.tail)) Tryz.isAgg24 Tryz.sizeOf24 (by rfl)⟩ ⟨_, rfl, H.loadAgg (by repeat (first | exact List.Mem.head _ | apply List.Mem.tail)) Tryz.isAgg27 Tryz.sizeOf27 (by rfl)⟩ H.ext (⟨_, rfl, (SlS.nil _ _ (fun _ => rfl))⟩)
    ·
     subst hk19
     rw [if_neg Bool.false_ne_true] at h
     refine SK (TN (SQ ?_))
     obtain ⟨⟨n23, n24⟩, hx25, h⟩ := bnd h
     try dsimp only at h
     refine WC.cutP (fun e w => ∃  (M : Mem), e = [(2, ptr bk2 0), (3, ptr bk3 0)] ∧ St w0 M0 M [.blk bk2 (.cells #[S s5, S s6, x14_0_2] 24), .blk bk3 (.cells #[I n23, I n24] 27)] w ∧ GlF (fun w => ∃ tp p, w.var? Tryz.prog "strconv.ErrRange" = some #[.iface tp p]) M ∧ GlF (fun w => ∃ tp p, w.var? Tryz.prog "strconv.ErrSyntax" = some #[.iface tp p]) M ∧ GlF (fun w => ∃ m, w.cell? ⟨2, 0, none⟩ = some (.int .i64 m)) M ∧ GlF (fun w => Lib.TabIs Tryz.prog w "internal/strconv.uint64pow10" .u64 Lib.pow10Tab) M ∧ Tabs M ∧ SlS M 2 xenc47 x14_0_2 l7) ?_ ?_
     ·
      refine WC.draw (m := 4) rfl rfl H ?_
      intro w H
      refine WA.two (i := 0) (j := 1) (by kernel_rfl) rfl rfl ?_ ?_
      ·
       refine ST (Ex.loadAgg H rfl (by repeat (first | exact List.Mem.head _ | apply List.Mem.tail)) Tryz.isAgg24 Tryz.sizeOf24 (by rfl)) rfl ?_
       refine NA (WA.seq (fuel := 0) [1, 2, 3] rfl (by kernel_rfl) (WR.call H (basic_None_ct hx25) rfl trivial (Wn.none rfl) rfl ?_))
       intro v30 M w H hle hR
       replace hg_errR := hg_errR.mono hle
       replace hg_errS := hg_errS.mono hle
       replace hg_maxl := hg_maxl.mono hle
       replace hg_pow10 := hg_pow10.mono hle
       replace hg_tabs := hg_tabs.mono hle
       replace f14_0_2 := f14_0_2.mono hle
       try dsimp only at hR
       obtain rfl := hR
       refine WR.store [_, _, _] H rfl rfl rfl (by repeat first | exact .head | apply Upd.tail) Tryz.sizeOf24 rfl (by rfl) (by simp only [List.all_cons, List.all_nil, (f14_0_2).one.2]; rfl) (Wn.none rfl) ?_
       intro w H
       refine WR.store [_, _] H rfl rfl rfl (by repeat first | exact .head | apply Upd.tail) Tryz.sizeOf27 rfl (by rfl) (by rfl) (Wn.none rfl) ?_
       intro w H
       refine NA (WA.done (by kernel_rfl) ?_)
       exact WQ.meetP [(2, _), (3, _)] ⟨rfl, rfl, trivial⟩ ⟨_, rfl, (H.pick (L' := [.blk bk2 (.cells #[S s5, S s6, x14_0_2] 24), .blk bk3 (.cells #[I n23, I n24] 27)]) (by repeat (first | exact Pick.nil | refine Pick.cons (by repeat first | exact .head | apply Rem.tail) ?_))), hg_errR, hg_errS, hg_maxl, hg_pow10, hg_tabs, f14_0_2⟩
      ·
       refine WR.call H (basic_None_ct hx25) rfl trivial (Wn.none rfl) rfl ?_
       intro v30 M w H hle hR
       replace hg_errR := hg_errR.mono hle
       replace hg_errS := hg_errS.mono hle
       replace hg_maxl := hg_maxl.mono hle
       replace hg_pow10 := hg_pow10.mono hle
       replace hg_tabs := hg_tabs.mono hle
       replace f14_0_2 := f14_0_2.mono hle
       try dsimp only at hR
       obtain rfl := hR
       refine NA (WA.seq (fuel := 0) [0, 2, 3] rfl (by kernel_rfl) (ST (Ex.loadAgg H rfl (by repeat (first | exact List.Mem.head _ | apply List.Mem.tail)) Tryz.isAgg24 Tryz.sizeOf24 (by rfl)) rfl ?_))
       refine WR.store [_, _, _] H rfl rfl rfl (by repeat first | exact .head | apply Upd.tail) Tryz.sizeOf24 rfl (by rfl) (by simp only [List.all_cons, List.all_nil, (f14_0_2).one.2]; rfl) (Wn.none rfl) ?_
       intro w H
       refine WR.store [_, _] H rfl rfl rfl (by repeat first | exact .head | apply Upd.tail) Tryz.sizeOf27 rfl (by rfl) (by rfl) (Wn.none rfl) ?_
       intro w H
       refine NA (WA.done (by kernel_rfl) ?_)
       exact WQ.meetP [(2, _), (3, _)] ⟨rfl, rfl, trivial⟩ ⟨_, rfl, (H.pick (L' := [.blk bk2 (.cells #[S s5, S s6, x14_0_2] 24), .blk bk3 (.cells #[I n23, I n24] 27)]) (by repeat (first | exact Pick.nil | refine Pick.cons (by repeat first | exact .head | apply Rem.tail) ?_))), hg_errR, hg_errS, hg_maxl, hg_pow10, hg_tabs, f14_0_2⟩
     ·
      rintro e w ⟨M, rfl, H, hg_errR, hg_errS, hg_maxl, hg_pow10, hg_tabs, f14_0_2⟩
      refine TN (RT ?_)
      obtain rfl := Option.some.inj h
      exact WQ.ret2 rfl ⟨_, rfl, H.loadAgg (by repeat (first | exact List.Mem.head _ | apply List.Mem.tail)) Tryz.isAgg24 Tryz.sizeOf24 (by rfl)⟩ ⟨_, rfl, H.loadAgg (by repeat (first | exact List.Mem.head _ | apply List.Mem.tail)) Tryz.isAgg27 Tryz.sizeOf27 (by rfl)⟩ H.ext (⟨_, rfl, f14_0_2⟩)
theorem media_Param_ct {p0 : (List UInt8 × List UInt8 × List (List UInt8 × List UInt8))} {p1 : List UInt8} {vp0_2 : Value} {r : (List UInt8 × Bool × (Int × Int))} (h : media_Param p0 p1 = some r) : Ct Tryz.prog 18 [Value.agg #[S p0.1, S p0.2.1, vp0_2], S p1] (fun M => Tabs M ∧ SlS M 2 xenc47 vp0_2 p0.2.2) (fun v M => v = Value.tuple #[S r.1, Value.bool r.2.1, Value.agg #[I r.2.2.1, I r.2.2.2]]) := by
  refine Ct.of Tryz.func18 (enters Tryz.func18 (by kernel_rfl) rfl) rfl rfl rfl ?_
  intro w0 M0 H hp
  obtain ⟨hg_tabs, hp0_2⟩ := hp
  unfold media_Param at h
  refine SQ (RG (WR.box [_, _, _] H rfl rfl (Wn.none rfl) rfl ?_))
  intro bk2 w H
  refine AS rfl rfl (AS rfl rfl (WR.alloc [_, _] H Tryz.zeroValue27 rfl (Wn.none rfl) rfl ?_))
  intro bk6 w H
  refine NL (TN (SQ (SQ ?_)))
  obtain ⟨⟨n1, n2⟩, hx3, h⟩ := bnd h
  try dsimp only at h
  refine RG (ST (Ex.loadAgg H rfl (by repeat (first | exact List.Mem.head _ | apply List.Mem.tail)) Tryz.isAgg24 Tryz.sizeOf24 (by rfl)) rfl ?_)
  refine WR.call H (media_Validate_ct hx3) rfl ⟨hg_tabs, hp0_2⟩ (Wn.none rfl) rfl ?_
  intro v11 M w H hle hR
  replace hg_tabs := hg_tabs.mono hle
  replace hp0_2 := hp0_2.mono hle
  try dsimp only at hR
  obtain rfl := hR
  refine WR.alloc [_, _] H Tryz.zeroValue27 rfl (Wn.none rfl) rfl ?_
  intro bk7 w H
  refine WR.store [_, _] H rfl rfl rfl (by repeat first | exact .head | apply Upd.tail) Tryz.sizeOf27 rfl (by rfl) (by rfl) (Wn.none rfl) ?_
  intro w H
  refine NL (TN (SQ ?_))
  obtain ⟨b4, hx5, h⟩ := bnd h
  refine RG (ST (Ex.loadAgg H rfl (by repeat (first | exact List.Mem.head _ | apply List.Mem.tail)) Tryz.isAgg27 Tryz.sizeOf27 (by rfl)) rfl ?_)
  refine WR.call H (basic_Failed_ct hx5) rfl trivial (Wn.none rfl) rfl ?_
  intro v13 M w H hle hR
  replace hg_tabs := hg_tabs.mono hle
  replace hp0_2 := hp0_2.mono hle
  obtain rfl := hR
  refine NL (TN ?_)
  refine WC.condB rfl (fun hk6 => ?_) (fun hk6 => ?_)
  ·
   subst hk6
   rw [if_pos rfl] at h
   refine SQ (WC.draw (m := 4) rfl rfl H ?_)
   intro w H
   refine WA.take (i := 1) rfl (by kernel_rfl) (by kernel_rfl) (by kernel_rfl) (fun _ => Ex.assign rfl) (Wn.none rfl) rfl rfl (fun _ _ => rfl) (WA.take (i := 2) rfl (by kernel_rfl) (by kernel_rfl) (by kernel_rfl) (fun _ => Ex.assign rfl) (Wn.none rfl) rfl rfl (fun _ _ => rfl) (WA.seq (fuel := 0) [0, 3] rfl (by kernel_rfl) (ST (Ex.loadAgg H rfl (by repeat (first | exact List.Mem.head _ | apply List.Mem.tail)) Tryz.isAgg27 Tryz.sizeOf27 (by rfl)) rfl ?_)))
   refine WR.store [_, _] H rfl rfl rfl (by repeat first | exact .head | apply Upd.tail) Tryz.sizeOf27 rfl (by rfl) (by rfl) (Wn.none rfl) ?_
   intro w H
   refine NA (WA.done (by kernel_rfl) (TN (RT ?_)))
   obtain rfl := Option.some.inj h
   exact WQ.ret3 rfl rfl rfl ⟨_, rfl, H.loadAgg (by repeat (first | exact List.Mem.head _ | apply List.Mem.tail)) Tryz.isAgg27 Tryz.sizeOf27 (by rfl)⟩ H.ext rfl
  ·
   subst hk6
   rw [if_neg Bool.false_ne_true] at h
   refine SK (TN (SQ (SQ (RG (ST (Ex.fieldAddr Tryz.underlying24 rfl Tryz.sizeOf22 (by decide) rfl) rfl (ST (Ex.load1 H rfl (by repeat (first | exact List.Mem.head _ | apply List.Mem.tail)) Tryz.isAgg22 (by rfl)) rfl ?_))))))
   refine ST (Ex.lenSlS Tryz.underlying22 hp0_2 rfl) rfl (MV rfl rfl (NL (TN ?_)))
   obtain ⟨o7, e8, h⟩ := bnd h
   refine WC.cutX (fun e w => ∃ (n9 : Int) (n10 : Int) (M : Mem), e = [(6, ptr bk6 0)] ∧ St w0 M0 M [.blk bk6 (.cells #[I n9, I n10] 27)] w ∧ Tabs M ∧ some (.inl (n9, n10)) = some o7) [] ?_ ?_ (trivial)
   ·
    refine BL ?_
    refine WC.loopP (fun m e w => ∃ (n11 : Int) (n12 : Int) (n13 : Int) (M : Mem), e = [(1, S p1), (6, ptr bk6 0), (16, vp0_2), (17, I (p0.2.2.length : Int)), (18, I n13)] ∧ St w0 M0 M [.blk bk6 (.cells #[I n11, I n12] 27)] w ∧ Tabs M ∧ SlS M 2 xenc47 vp0_2 p0.2.2 ∧ media_Param_L1 p0 p1 m n11 n12 n13 = some o7) FU [(1, _), (6, _), (16, _), (17, _), (18, _)] ⟨rfl, rfl, rfl, rfl, rfl, trivial⟩ ⟨_, _, _, _, rfl, (H.pick (L' := [.blk bk6 (.cells #[I 0, I 0] 27)]) (by repeat (first | exact Pick.nil | refine Pick.cons (by repeat first | exact .head | apply Rem.tail) ?_))), hg_tabs, hp0_2, e8⟩ ?_
    rintro m14 e w ⟨n11, n12, n13, M, rfl, H, hg_tabs, hp0_2, e8⟩
    rcases m14 with _ | m14
    · rw [media_Param_L1] at e8; cases e8
    rw [media_Param_L1] at e8
    refine SQ (RG (ST (Ex.lss rfl rfl) rfl (NL (TN (SQ ?_)))))
    refine WC.condB rfl (fun hk15 => ?_) (fun hk15 => ?_)
    ·
     replace hk15 : n13 < (p0.2.2.length : Int) := of_decide_eq_true hk15
     rw [if_pos hk15] at e8
     refine SK (TN (SQ (BL (SQ ?_))))
     obtain ⟨a16, hxa16, e8⟩ := bnd e8
     obtain ⟨bk20, o20, ha20, hc20⟩ := hp0_2.atC hxa16
     refine RG (ST (Ex.idxAt ha20 Tryz.underlying22 Tryz.sizeOf47 rfl rfl) rfl (ST (Ex.loadAggM H rfl hc20 Tryz.isAgg47 Tryz.sizeOf47 (by rfl)) rfl ?_))
     refine WR.alloc [_, _] H Tryz.zeroValue47 rfl (Wn.none rfl) rfl ?_
     intro bk9 w H
     refine WR.store [_, _] H rfl rfl rfl (by repeat first | exact .head | apply Upd.tail) Tryz.sizeOf47 rfl (by rfl) (by rfl) (Wn.none rfl) ?_
     intro w H
     refine NL (TN (SQ ?_))
     obtain ⟨b17, hx18, e8⟩ := bnd e8
     refine RG (ST (Ex.fieldAddr Tryz.underlying47 rfl Tryz.sizeOf9 (by decide) rfl) rfl (ST (Ex.load1 H rfl (by repeat (first | exact List.Mem.head _ | apply List.Mem.tail)) Tryz.isAgg9 (by rfl)) rfl ?_))
     refine MV rfl rfl (WR.call H (basic_Same_ct hx18) rfl trivial (Wn.none rfl) rfl ?_)
     intro v25 M w H hle hR
     replace hg_tabs := hg_tabs.mono hle
     replace hp0_2 := hp0_2.mono hle
     replace hc20 := hc20.mono hle
     obtain rfl := hR
     refine NL (TN ?_)
     refine WC.condB rfl (fun hk19 => ?_) (fun hk19 => ?_)
     ·
      subst hk19
      rw [if_pos rfl] at e8
      refine SQ ?_
      obtain ⟨⟨n20, n21⟩, hx22, e8⟩ := bnd e8
      try dsimp only at e8
      refine WC.cutP (fun e w => ∃  (M : Mem), e = [(4, S a16.2), (5, Value.bool true), (6, ptr bk6 0)] ∧ St w0 M0 M [.blk bk6 (.cells #[I n20, I n21] 27)] w ∧ Tabs M) ?_ ?_
      ·
       refine WC.draw (m := 6) rfl rfl H ?_
       intro w H
       refine WA.take (i := 0) rfl (by kernel_rfl) (by kernel_rfl) (by kernel_rfl) (fun _ => Ex.fieldAddr Tryz.underlying47 rfl Tryz.sizeOf9 (by decide) rfl) (Wn.none rfl) rfl rfl (fun _ _ => rfl) ?_
       refine WA.two (i := 1) (j := 2) (by kernel_rfl) rfl rfl ?_ ?_
       ·
        refine ST (Ex.load1 H rfl (by repeat (first | exact List.Mem.head _ | apply List.Mem.tail)) Tryz.isAgg9 (by rfl)) rfl ?_
        refine NA (WA.seq (fuel := 0) [2, 3, 4, 5] rfl (by kernel_rfl) (WR.call H (basic_None_ct hx22) rfl trivial (Wn.none rfl) rfl ?_))
        intro v28 M w H hle hR
        replace hg_tabs := hg_tabs.mono hle
        replace hp0_2 := hp0_2.mono hle
        replace hc20 := hc20.mono hle
        try dsimp only at hR
        obtain rfl := hR
        refine AS rfl rfl (AS rfl rfl (WR.store [_, _] H rfl rfl rfl (by repeat first | exact .head | apply Upd.tail) Tryz.sizeOf27 rfl (by rfl) (by rfl) (Wn.none rfl) ?_))
        intro w H
        refine NA (WA.done (by kernel_rfl) ?_)
        exact WQ.meetP [(4, _), (5, _), (6, _)] ⟨rfl, rfl, rfl, trivial⟩ ⟨_, rfl, (H.pick (L' := [.blk bk6 (.cells #[I n20, I n21] 27)]) (by repeat (first | exact Pick.nil | refine Pick.cons (by repeat first | exact .head | apply Rem.tail) ?_))), hg_tabs⟩
       ·
        refine WR.call H (basic_None_ct hx22) rfl trivial (Wn.none rfl) rfl ?_
        intro v28 M w H hle hR
        replace hg_tabs := hg_tabs.mono hle
        replace hp0_2 := hp0_2.mono hle
        replace hc20 := hc20.mono hle
        try dsimp only at hR
        obtain rfl := hR
        refine NA (WA.seq (fuel := 0) [1, 3, 4, 5] rfl (by kernel_rfl) (ST (Ex.load1 H rfl (by repeat (first | exact List.Mem.head _ | apply List.Mem.tail)) Tryz.isAgg9 (by rfl)) rfl ?_))
        refine AS rfl rfl (AS rfl rfl (WR.store [_, _] H rfl rfl rfl (by repeat first | exact .head | apply Upd.tail) Tryz.sizeOf27 rfl (by rfl) (by rfl) (Wn.none rfl) ?_))
        intro w H
        refine NA (WA.done (by kernel_rfl) ?_)
        exact WQ.meetP [(4, _), (5, _), (6, _)] ⟨rfl, rfl, rfl, trivial⟩ ⟨_, rfl, (H.pick (L' := [.blk bk6 (.cells #[I n20, I n21] 27)]) (by repeat (first | exact Pick.nil | refine Pick.cons (by repeat first | exact .head | apply Rem.tail) ?_))), hg_tabs⟩
      ·
       rintro e w ⟨M, rfl, H, hg_tabs⟩
       refine TN (RT ?_)
       obtain rfl := Option.some.inj e8
       try dsimp only at h
       obtain rfl := Option.some.inj h
       exact WQ.ret3 rfl rfl rfl ⟨_, rfl, H.loadAgg (by repeat (first | exact List.Mem.head _ | apply List.Mem.tail)) Tryz.isAgg27 Tryz.sizeOf27 (by rfl)⟩ H.ext rfl
     ·
      subst hk19
      rw [if_neg Bool.false_ne_true] at e8
      refine SK (IB (TN ?_))
      obtain ⟨n23, hxn23, e8⟩ := bnd e8
      refine RG (ST (Ex.addC rfl rfl hxn23) rfl (MV rfl rfl (NL ?_)))
      exact WQ.againP m14 [(1, _), (6, _), (16, _), (17, _), (18, _)] ⟨rfl, rfl, rfl, rfl, rfl, trivial⟩ ⟨_, _, _, _, rfl, (H.pick (L' := [.blk bk6 (.cells #[I n11, I n12] 27)]) (by repeat (first | exact Pick.nil | refine Pick.cons (by repeat first | exact .head | apply Rem.tail) ?_))), hg_tabs, hp0_2, e8⟩ (Nat.lt_succ_self _)
    ·
     replace hk15 : ¬ (n13 < (p0.2.2.length : Int)) := of_decide_eq_false hk15
     rw [if_neg hk15] at e8
     refine WC.exit (WQ.thenExit (WQ.thenExit (WQ.exitHere ?_)))
     exact WQ.meetN [(6, _)] ⟨rfl, trivial⟩ ⟨_, _, _, rfl, H, hg_tabs, e8⟩
   ·
    rintro e w ⟨n9, n10, M, rfl, H, hg_tabs, q24⟩
    obtain rfl := Option.some.inj q24
    try dsimp only at h
    refine TN (SQ ?_)
    obtain ⟨⟨n25, n26⟩, hx27, h⟩ := bnd h
    try dsimp only at h
    refine RG (WR.call H (basic_None_ct hx27) rfl trivial (Wn.none rfl) rfl ?_)
    intro v30 M w H hle hR
    replace hg_tabs := hg_tabs.mono hle
    try dsimp only at hR
    obtain rfl := hR
    refine AS rfl rfl (AS rfl rfl (WR.store [_, _] H rfl rfl rfl (by repeat first | exact .head | apply Upd.tail) Tryz.sizeOf27 rfl (by rfl) (by rfl) (Wn.none rfl) ?_))
    intro w H
    refine NL (TN (RT ?_))
    obtain rfl := Option.some.inj h
    exact WQ.ret3 rfl rfl rfl ⟨_, rfl, H.loadAgg (by repeat (first | exact List.Mem.head _ | apply List.Mem.tail)) Tryz.isAgg27 Tryz.sizeOf27 (by rfl)⟩ H.ext rfl
theorem L_mediaExample_ct  {r : Bool} (h : L_mediaExample = some r) : Ct Tryz.prog 9 [] (fun M => GlF (fun w => ∃ tp p, w.var? Tryz.prog "strconv.ErrRange" = some #[.iface tp p]) M ∧ GlF (fun w => ∃ tp p, w.var? Tryz.prog "strconv.ErrSyntax" = some #[.iface tp p]) M ∧ GlF (fun w => ∃ m, w.cell? ⟨2, 0, none⟩ = some (.int .i64 m)) M ∧ GlF (fun w => Lib.TabIs Tryz.prog w "internal/strconv.uint64pow10" .u64 Lib.pow10Tab) M ∧ Tabs M) (fun v M => v = Value.bool r) := by
  refine Ct.of Tryz.func9 (enters Tryz.func9 (by kernel_rfl) rfl) rfl rfl rfl ?_
  intro w0 M0 H hp
  obtain ⟨hg_errR, hg_errS, hg_maxl, hg_pow10, hg_tabs⟩ := hp
  unfold L_mediaExample at h
  refine SQ (RG (AS rfl rfl (NL (TN (SQ ?_)))))
  obtain ⟨⟨s1, ⟨n2, n3⟩⟩, hx4, h⟩ := bnd h
  try dsimp only at h
  refine RG (ST (Ex.build [S [97], S [98, 32, 99]] Tryz.underlying47 Tryz.zeroValue47 (xplaces47 Tryz.underlying47) rfl rfl) rfl (WR.litS (enc := xenc47) xty22 ([([97], [98, 32, 99])] : List (List UInt8 × List UInt8)) H (fun _ => rfl) rfl (by kernel_rfl) rfl rfl rfl (Wn.none rfl) rfl ?_))
  intro v10 M w H hle hs10
  replace hg_errR := hg_errR.mono hle
  replace hg_errS := hg_errS.mono hle
  replace hg_maxl := hg_maxl.mono hle
  replace hg_pow10 := hg_pow10.mono hle
  replace hg_tabs := hg_tabs.mono hle
  refine ST (Ex.build [S [116, 101, 120, 116], S [112, 108, 97, 105, 110], v10] Tryz.underlying24 Tryz.zeroValue24 (xplaces24 Tryz.underlying24) rfl (by obtain ⟨_, _, _, hv, -⟩ := hs10; rw [hv]; clear hv; rfl)) rfl ?_
  refine WR.call H (media_Print_ct hx4) rfl ⟨hg_pow10, hg_tabs, hs10⟩ (Wn.none rfl) rfl ?_
  intro v12 M w H hle hR
  replace hg_errR := hg_errR.mono hle
  replace hg_errS := hg_errS.mono hle
  replace hg_maxl := hg_maxl.mono hle
  replace hg_pow10 := hg_pow10.mono hle
  replace hg_tabs := hg_tabs.mono hle
  replace hs10 := hs10.mono hle
  try dsimp only at hR
  obtain rfl := hR
  refine MV rfl rfl (ST (Ex.extract rfl rfl) rfl (ST (Ex.extract rfl rfl) rfl (WR.alloc [_, _] H Tryz.zeroValue27 rfl (Wn.none rfl) rfl ?_)))
  intro bk2 w H
  refine AS rfl rfl (WR.store [_, _] H rfl rfl rfl (by repeat first | exact .head | apply Upd.tail) Tryz.sizeOf27 rfl (by rfl) (by rfl) (Wn.none rfl) ?_)
  intro w H
  refine NL (TN (SQ ?_))
  obtain ⟨⟨⟨s5, s6, l7⟩, ⟨n8, n9⟩⟩, hx10, h⟩ := bnd h
  try dsimp only at h
  refine RG (WR.call H (media_Parse_ct hx10) rfl ⟨hg_errR, hg_errS, hg_maxl, hg_pow10, hg_tabs⟩ (Wn.none rfl) rfl ?_)
  intro v16 M w H hle hR
  replace hg_errR := hg_errR.mono hle
  replace hg_errS := hg_errS.mono hle
  replace hg_maxl := hg_maxl.mono hle
  replace hg_pow10 := hg_pow10.mono hle
  replace hg_tabs := hg_tabs.mono hle
  replace hs10 := hs10.mono hle
  try dsimp only at hR
  obtain ⟨x16_0_2, rfl, f16_0_2⟩ := hR
  refine MV rfl rfl (ST (Ex.extract rfl rfl) rfl (ST (Ex.extract rfl rfl) rfl (WR.alloc [_, _, _] H Tryz.zeroValue24 rfl (Wn.none rfl) rfl ?_)))
  intro bk3 w H
  refine WR.alloc [_, _] H Tryz.zeroValue27 rfl (Wn.none rfl) rfl ?_
  intro bk4 w H
  refine WR.store [_, _, _] H rfl rfl rfl (by repeat first | exact .head | apply Upd.tail) Tryz.sizeOf24 rfl (by rfl) (by simp only [List.all_cons, List.all_nil, (f16_0_2).one.2]; rfl) (Wn.none rfl) ?_
  intro w H
  refine WR.store [_, _] H rfl rfl rfl (by repeat first | exact .head | apply Upd.tail) Tryz.sizeOf27 rfl (by rfl) (by rfl) (Wn.none rfl) ?_
  intro w H
  refine NL (TN (SQ ?_))
  obtain ⟨⟨s11, b12, ⟨n13, n14⟩⟩, hx15, h⟩ := bnd h
  try dsimp only at h
  refine RG (ST (Ex.loadAgg H rfl (by repeat (first | exact List.Mem.head _ | apply List.Mem.tail)) Tryz.isAgg24 Tryz.sizeOf24 (by rfl)) rfl ?_)
  refine WR.call H (media_Param_ct hx15) rfl ⟨hg_tabs, f16_0_2⟩ (Wn.none rfl) rfl ?_
  intro v21 M w H hle hR
  replace hg_errR := hg_errR.mono hle
  replace hg_errS := hg_errS.mono hle
  replace hg_maxl := hg_maxl.mono hle
  replace hg_pow10 := hg_pow10.mono hle
  replace hg_tabs := hg_tabs.mono hle
  replace hs10 := hs10.mono hle
  replace f16_0_2 := f16_0_2.mono hle
  try dsimp only at hR
  obtain rfl := hR
  refine MV rfl rfl (ST (Ex.extract rfl rfl) rfl (ST (Ex.extract rfl rfl) rfl (ST (Ex.extract rfl rfl) rfl (WR.alloc [_, _] H Tryz.zeroValue27 rfl (Wn.none rfl) rfl ?_))))
  intro bk7 w H
  refine AS rfl rfl (AS rfl rfl (WR.store [_, _] H rfl rfl rfl (by repeat first | exact .head | apply Upd.tail) Tryz.sizeOf27 rfl (by rfl) (by rfl) (Wn.none rfl) ?_))
  intro w H
  refine NL (TN (SQ ?_))
  obtain ⟨o16, e17, h⟩ := bnd h
  refine WC.cutX (fun e w => ∃ (b18 : Bool) (M : Mem), e = [(0, Value.bool b18)] ∧ St w0 M0 M [] w ∧ GlF (fun w => ∃ tp p, w.var? Tryz.prog "strconv.ErrRange" = some #[.iface tp p]) M ∧ GlF (fun w => ∃ tp p, w.var? Tryz.prog "strconv.ErrSyntax" = some #[.iface tp p]) M ∧ GlF (fun w => ∃ m, w.cell? ⟨2, 0, none⟩ = some (.int .i64 m)) M ∧ GlF (fun w => Lib.TabIs Tryz.prog w "internal/strconv.uint64pow10" .u64 Lib.pow10Tab) M ∧ Tabs M ∧ some b18 = some o16) [] ?_ ?_ (trivial)
  ·
   refine RG (ST (Ex.fieldAddr Tryz.underlying27 rfl Tryz.sizeOf3 (by decide) rfl) rfl (ST (Ex.load1 H rfl (by repeat (first | exact List.Mem.head _ | apply List.Mem.tail)) Tryz.isAgg3 (by rfl)) rfl ?_))
   by_cases hk19 : n2 = (0 : Int)
   ·
    rw [if_pos hk19] at e17
    by_cases hk20 : n8 = (0 : Int)
    ·
     rw [if_pos hk20] at e17
     by_cases hk21 : n13 = (0 : Int)
     ·
      rw [if_pos hk21] at e17
      by_cases hk22 : s1 = [116, 101, 120, 116, 47, 112, 108, 97, 105, 110, 59, 32, 97, 61, 34, 98, 32, 99, 34]
      ·
       rw [if_pos hk22] at e17
       by_cases hk23 : s5 = [84, 101, 120, 116]
       ·
        rw [if_pos hk23] at e17
        by_cases hk24 : (l7.length : Int) = (1 : Int)
        ·
         rw [if_pos hk24] at e17
         obtain ⟨a25, hxa25, e17⟩ := bnd e17
         obtain ⟨bk56, o56, ha56, hc56⟩ := f16_0_2.atC hxa25
         by_cases hk26 : a25.1 = [65] ∧ a25.2 = [98, 32, 99]
         ·
          rw [if_pos hk26] at e17
          rcases b12 with _ | _
          ·
           rw [if_neg Bool.false_ne_true] at e17
           refine WR.stepE (v' := .bool true) (Ex.eql rfl rfl) (congrArg Value.bool (decide_eq_true hk19)) (Wn.none rfl) rfl rfl (MV rfl rfl (SG (Ex.fieldAddr Tryz.underlying27 rfl Tryz.sizeOf3 (by decide) rfl) rfl rfl rfl (SG (Ex.load1 H rfl (by repeat (first | exact List.Mem.head _ | apply List.Mem.tail)) Tryz.isAgg3 (by rfl)) rfl rfl rfl ?_)))
           refine WR.stepE (v' := .bool true) (Ex.eql rfl rfl) (congrArg Value.bool (decide_eq_true hk20)) (Wn.some rfl rfl rfl) rfl rfl (PT rfl rfl rfl (MV rfl rfl (SG (Ex.fieldAddr Tryz.underlying27 rfl Tryz.sizeOf3 (by decide) rfl) rfl rfl rfl (SG (Ex.load1 H rfl (by repeat (first | exact List.Mem.head _ | apply List.Mem.tail)) Tryz.isAgg3 (by rfl)) rfl rfl rfl ?_))))
           refine WR.stepE (v' := .bool true) (Ex.eql rfl rfl) (congrArg Value.bool (decide_eq_true hk21)) (Wn.some rfl rfl rfl) rfl rfl (PT rfl rfl rfl (MV rfl rfl (SG (Ex.move rfl) rfl rfl rfl (WR.stepE (v' := .bool true) (Ex.strEql rfl rfl) (congrArg Value.bool (decide_eq_true hk22)) (Wn.some rfl rfl rfl) rfl rfl (PT rfl rfl rfl (MV rfl rfl (SG (Ex.fieldAddr Tryz.underlying24 rfl Tryz.sizeOf9 (by decide) rfl) rfl rfl rfl (SG (Ex.load1 H rfl (by repeat (first | exact List.Mem.head _ | apply List.Mem.tail)) Tryz.isAgg9 (by rfl)) rfl rfl rfl ?_))))))))
           refine WR.stepE (v' := .bool true) (Ex.strEql rfl rfl) (congrArg Value.bool (decide_eq_true hk23)) (Wn.some rfl rfl rfl) rfl rfl (PT rfl rfl rfl (MV rfl rfl (SG (Ex.fieldAddr Tryz.underlying24 rfl Tryz.sizeOf22 (by decide) rfl) rfl rfl rfl (SG (Ex.load1 H rfl (by repeat (first | exact List.Mem.head _ | apply List.Mem.tail)) Tryz.isAgg22 (by rfl)) rfl rfl rfl ?_))))
           refine SG (Ex.lenSlS Tryz.underlying22 f16_0_2 rfl) rfl rfl rfl (WR.stepE (v' := .bool true) (Ex.eql rfl rfl) (congrArg Value.bool (decide_eq_true hk24)) (Wn.some rfl rfl rfl) rfl rfl (PT rfl rfl rfl (MV rfl rfl (SG (Ex.fieldAddr Tryz.underlying24 rfl Tryz.sizeOf22 (by decide) rfl) rfl rfl rfl (SG (Ex.load1 H rfl (by repeat (first | exact List.Mem.head _ | apply List.Mem.tail)) Tryz.isAgg22 (by rfl)) rfl rfl rfl ?_)))))
           refine SG (Ex.idxAt ha56 Tryz.underlying22 Tryz.sizeOf47 rfl rfl) rfl rfl rfl (SG (Ex.loadAggM H rfl hc56 Tryz.isAgg47 Tryz.sizeOf47 (by rfl)) rfl rfl rfl ?_)
           refine SG (Ex.build [S [65], S [98, 32, 99]] Tryz.underlying47 Tryz.zeroValue47 (xplaces47 Tryz.underlying47) rfl rfl) rfl rfl rfl (WR.stepE (v' := .bool true) (Ex.eqlAgg rfl rfl (by kernel_rfl) (xeq47 a25.1 [65] a25.2 [98, 32, 99])) (congrArg Value.bool (decide_eq_true hk26)) (Wn.some rfl rfl rfl) rfl rfl (PT rfl rfl rfl (MV rfl rfl (SG (Ex.move rfl) rfl rfl rfl (PT rfl rfl rfl (MV rfl rfl (GF rfl rfl rfl (GF rfl rfl rfl (PF rfl rfl rfl (AS rfl rfl (NL ?_)))))))))))
           exact WQ.meetN [(0, _)] ⟨rfl, trivial⟩ ⟨_, _, rfl, (H.pick (L' := []) (by repeat (first | exact Pick.nil | refine Pick.cons (by repeat first | exact .head | apply Rem.tail) ?_))), hg_errR, hg_errS, hg_maxl, hg_pow10, hg_tabs, e17⟩
          ·
           rw [if_pos rfl] at e17
           refine WR.stepE (v' := .bool true) (Ex.eql rfl rfl) (congrArg Value.bool (decide_eq_true hk19)) (Wn.none rfl) rfl rfl (MV rfl rfl (SG (Ex.fieldAddr Tryz.underlying27 rfl Tryz.sizeOf3 (by decide) rfl) rfl rfl rfl (SG (Ex.load1 H rfl (by repeat (first | exact List.Mem.head _ | apply List.Mem.tail)) Tryz.isAgg3 (by rfl)) rfl rfl rfl ?_)))
           refine WR.stepE (v' := .bool true) (Ex.eql rfl rfl) (congrArg Value.bool (decide_eq_true hk20)) (Wn.some rfl rfl rfl) rfl rfl (PT rfl rfl rfl (MV rfl rfl (SG (Ex.fieldAddr Tryz.underlying27 rfl Tryz.sizeOf3 (by decide) rfl) rfl rfl rfl (SG (Ex.load1 H rfl (by repeat (first | exact List.Mem.head _ | apply List.Mem.tail)) Tryz.isAgg3 (by rfl)) rfl rfl rfl ?_))))
           refine WR.stepE (v' := .bool true) (Ex.eql rfl rfl) (congrArg Value.bool (decide_eq_true hk21)) (Wn.some rfl rfl rfl) rfl rfl (PT rfl rfl rfl (MV rfl rfl (SG (Ex.move rfl) rfl rfl rfl (WR.stepE (v' := .bool true) (Ex.strEql rfl rfl) (congrArg Value.bool (decide_eq_true hk22)) (Wn.some rfl rfl rfl) rfl rfl (PT rfl rfl rfl (MV rfl rfl (SG (Ex.fieldAddr Tryz.underlying24 rfl Tryz.sizeOf9 (by decide) rfl) rfl rfl rfl (SG (Ex.load1 H rfl (by repeat (first | exact List.Mem.head _ | apply List.Mem.tail)) Tryz.isAgg9 (by rfl)) rfl rfl rfl ?_))))))))
           refine WR.stepE (v' := .bool true) (Ex.strEql rfl rfl) (congrArg Value.bool (decide_eq_true hk23)) (Wn.some rfl rfl rfl) rfl rfl (PT rfl rfl rfl (MV rfl rfl (SG (Ex.fieldAddr Tryz.underlying24 rfl Tryz.sizeOf22 (by decide) rfl) rfl rfl rfl (SG (Ex.load1 H rfl (by repeat (first | exact List.Mem.head _ | apply List.Mem.tail)) Tryz.isAgg22 (by rfl)) rfl rfl rfl ?_))))
           refine SG (Ex.lenSlS Tryz.underlying22 f16_0_2 rfl) rfl rfl rfl (WR.stepE (v' := .bool true) (Ex.eql rfl rfl) (congrArg Value.bool (decide_eq_true hk24)) (Wn.some rfl rfl rfl) rfl rfl (PT rfl rfl rfl (MV rfl rfl (SG (Ex.fieldAddr Tryz.underlying24 rfl Tryz.sizeOf22 (by decide) rfl) rfl rfl rfl (SG (Ex.load1 H rfl (by repeat (first | exact List.Mem.head _ | apply List.Mem.tail)) Tryz.isAgg22 (by rfl)) rfl rfl rfl ?_)))))
           refine SG (Ex.idxAt ha56 Tryz.underlying22 Tryz.sizeOf47 rfl rfl) rfl rfl rfl (SG (Ex.loadAggM H rfl hc56 Tryz.isAgg47 Tryz.sizeOf47 (by rfl)) rfl rfl rfl ?_)
           refine SG (Ex.build [S [65], S [98, 32, 99]] Tryz.underlying47 Tryz.zeroValue47 (xplaces47 Tryz.underlying47) rfl rfl) rfl rfl rfl (WR.stepE (v' := .bool true) (Ex.eqlAgg rfl rfl (by kernel_rfl) (xeq47 a25.1 [65] a25.2 [98, 32, 99])) (congrArg Value.bool (decide_eq_true hk26)) (Wn.some rfl rfl rfl) rfl rfl (PT rfl rfl rfl (MV rfl rfl (SG (Ex.move rfl) rfl rfl rfl (PT rfl rfl rfl (MV rfl rfl (SG (Ex.move rfl) rfl rfl rfl (SG (Ex.strEql rfl rfl) rfl rfl rfl (PT rfl rfl rfl (AS rfl rfl (NL ?_)))))))))))
           exact WQ.meetN [(0, _)] ⟨rfl, trivial⟩ ⟨_, _, rfl, (H.pick (L' := []) (by repeat (first | exact Pick.nil | refine Pick.cons (by repeat first | exact .head | apply Rem.tail) ?_))), hg_errR, hg_errS, hg_maxl, hg_pow10, hg_tabs, e17⟩
         ·
          rw [if_neg hk26] at e17
          refine WR.stepE (v' := .bool true) (Ex.eql rfl rfl) (congrArg Value.bool (decide_eq_true hk19)) (Wn.none rfl) rfl rfl (MV rfl rfl (SG (Ex.fieldAddr Tryz.underlying27 rfl Tryz.sizeOf3 (by decide) rfl) rfl rfl rfl (SG (Ex.load1 H rfl (by repeat (first | exact List.Mem.head _ | apply List.Mem.tail)) Tryz.isAgg3 (by rfl)) rfl rfl rfl ?_)))
          refine WR.stepE (v' := .bool true) (Ex.eql rfl rfl) (congrArg Value.bool (decide_eq_true hk20)) (Wn.some rfl rfl rfl) rfl rfl (PT rfl rfl rfl (MV rfl rfl (SG (Ex.fieldAddr Tryz.underlying27 rfl Tryz.sizeOf3 (by decide) rfl) rfl rfl rfl (SG (Ex.load1 H rfl (by repeat (first | exact List.Mem.head _ | apply List.Mem.tail)) Tryz.isAgg3 (by rfl)) rfl rfl rfl ?_))))
          refine WR.stepE (v' := .bool true) (Ex.eql rfl rfl) (congrArg Value.bool (decide_eq_true hk21)) (Wn.some rfl rfl rfl) rfl rfl (PT rfl rfl rfl (MV rfl rfl (SG (Ex.move rfl) rfl rfl rfl (WR.stepE (v' := .bool true) (Ex.strEql rfl rfl) (congrArg Value.bool (decide_eq_true hk22)) (Wn.some rfl rfl rfl) rfl rfl (PT rfl rfl rfl (MV rfl rfl (SG (Ex.fieldAddr Tryz.underlying24 rfl Tryz.sizeOf9 (by decide) rfl) rfl rfl rfl (SG (Ex.load1 H rfl (by repeat (first | exact List.Mem.head _ | apply List.Mem.tail)) Tryz.isAgg9 (by rfl)) rfl rfl rfl ?_))))))))
          refine WR.stepE (v' := .bool true) (Ex.strEql rfl rfl) (congrArg Value.bool (decide_eq_true hk23)) (Wn.some rfl rfl rfl) rfl rfl (PT rfl rfl rfl (MV rfl rfl (SG (Ex.fieldAddr Tryz.underlying24 rfl Tryz.sizeOf22 (by decide) rfl) rfl rfl rfl (SG (Ex.load1 H rfl (by repeat (first | exact List.Mem.head _ | apply List.Mem.tail)) Tryz.isAgg22 (by rfl)) rfl rfl rfl ?_))))
          refine SG (Ex.lenSlS Tryz.underlying22 f16_0_2 rfl) rfl rfl rfl (WR.stepE (v' := .bool true) (Ex.eql rfl rfl) (congrArg Value.bool (decide_eq_true hk24)) (Wn.some rfl rfl rfl) rfl rfl (PT rfl rfl rfl (MV rfl rfl (SG (Ex.fieldAddr Tryz.underlying24 rfl Tryz.sizeOf22 (by decide) rfl) rfl rfl rfl (SG (Ex.load1 H rfl (by repeat (first | exact List.Mem.head _ | apply List.Mem.tail)) Tryz.isAgg22 (by rfl)) rfl rfl rfl ?_)))))
          refine SG (Ex.idxAt ha56 Tryz.underlying22 Tryz.sizeOf47 rfl rfl) rfl rfl rfl (SG (Ex.loadAggM H rfl hc56 Tryz.isAgg47 Tryz.sizeOf47 (by rfl)) rfl rfl rfl ?_)
          refine SG (Ex.build [S [65], S [98, 32, 99]] Tryz.underlying47 Tryz.zeroValue47 (xplaces47 Tryz.underlying47) rfl rfl) rfl rfl rfl (WR.stepE (v' := .bool false) (Ex.eqlAgg rfl rfl (by kernel_rfl) (xeq47 a25.1 [65] a25.2 [98, 32, 99])) (congrArg Value.bool (decide_eq_false hk26)) (Wn.some rfl rfl rfl) rfl rfl (PT rfl rfl rfl (MV rfl rfl (GF rfl rfl rfl (PF rfl rfl rfl (MV rfl rfl (GF rfl rfl rfl (GF rfl rfl rfl (PF rfl rfl rfl (AS rfl rfl (NL ?_)))))))))))
          exact WQ.meetN [(0, _)] ⟨rfl, trivial⟩ ⟨_, _, rfl, (H.pick (L' := []) (by repeat (first | exact Pick.nil | refine Pick.cons (by repeat first | exact .head | apply Rem.tail) ?_))), hg_errR, hg_errS, hg_maxl, hg_pow10, hg_tabs, e17⟩
        ·
         rw [if_neg hk24] at e17
         refine WR.stepE (v' := .bool true) (Ex.eql rfl rfl) (congrArg Value.bool (decide_eq_true hk19)) (Wn.none rfl) rfl rfl (MV rfl rfl (SG (Ex.fieldAddr Tryz.underlying27 rfl Tryz.sizeOf3 (by decide) rfl) rfl rfl rfl (SG (Ex.load1 H rfl (by repeat (first | exact List.Mem.head _ | apply List.Mem.tail)) Tryz.isAgg3 (by rfl)) rfl rfl rfl ?_)))
         refine WR.stepE (v' := .bool true) (Ex.eql rfl rfl) (congrArg Value.bool (decide_eq_true hk20)) (Wn.some rfl rfl rfl) rfl rfl (PT rfl rfl rfl (MV rfl rfl (SG (Ex.fieldAddr Tryz.underlying27 rfl Tryz.sizeOf3 (by decide) rfl) rfl rfl rfl (SG (Ex.load1 H rfl (by repeat (first | exact List.Mem.head _ | apply List.Mem.tail)) Tryz.isAgg3 (by rfl)) rfl rfl rfl ?_))))
         refine WR.stepE (v' := .bool true) (Ex.eql rfl rfl) (congrArg Value.bool (decide_eq_true hk21)) (Wn.some rfl rfl rfl) rfl rfl (PT rfl rfl rfl (MV rfl rfl (SG (Ex.move rfl) rfl rfl rfl (WR.stepE (v' := .bool true) (Ex.strEql rfl rfl) (congrArg Value.bool (decide_eq_true hk22)) (Wn.some rfl rfl rfl) rfl rfl (PT rfl rfl rfl (MV rfl rfl (SG (Ex.fieldAddr Tryz.underlying24 rfl Tryz.sizeOf9 (by decide) rfl) rfl rfl rfl (SG (Ex.load1 H rfl (by repeat (first | exact List.Mem.head _ | apply List.Mem.tail)) Tryz.isAgg9 (by rfl)) rfl rfl rfl ?_))))))))
         refine WR.stepE (v' := .bool true) (Ex.strEql rfl rfl) (congrArg Value.bool (decide_eq_true hk23)) (Wn.some rfl rfl rfl) rfl rfl (PT rfl rfl rfl (MV rfl rfl (SG (Ex.fieldAddr Tryz.underlying24 rfl Tryz.sizeOf22 (by decide) rfl) rfl rfl rfl (SG (Ex.load1 H rfl (by repeat (first | exact List.Mem.head _ | apply List.Mem.tail)) Tryz.isAgg22 (by rfl)) rfl rfl rfl ?_))))
         refine SG (Ex.lenSlS Tryz.underlying22 f16_0_2 rfl) rfl rfl rfl (WR.stepE (v' := .bool false) (Ex.eql rfl rfl) (congrArg Value.bool (decide_eq_false hk24)) (Wn.some rfl rfl rfl) rfl rfl (PT rfl rfl rfl (MV rfl rfl (WR.skipN 6 rfl rfl (PF rfl rfl rfl (MV rfl rfl (GF rfl rfl rfl (PF rfl rfl rfl (MV rfl rfl (GF rfl rfl rfl (GF rfl rfl rfl (PF rfl rfl rfl (AS rfl rfl (NL ?_))))))))))))))
         exact WQ.meetN [(0, _)] ⟨rfl, trivial⟩ ⟨_, _, rfl, (H.pick (L' := []) (by repeat (first | exact Pick.nil | refine Pick.cons (by repeat first | exact .head | apply Rem.tail) ?_))), hg_errR, hg_errS, hg_maxl, hg_pow10, hg_tabs, e17⟩
       ·
        rw [if_neg hk23] at e17
        refine WR.stepE (v' := .bool true) (Ex.eql rfl rfl) (congrArg Value.bool (decide_eq_true hk19)) (Wn.none rfl) rfl rfl (MV rfl rfl (SG (Ex.fieldAddr Tryz.underlying27 rfl Tryz.sizeOf3 (by decide) rfl) rfl rfl rfl (SG (Ex.load1 H rfl (by repeat (first | exact List.Mem.head _ | apply List.Mem.tail)) Tryz.isAgg3 (by rfl)) rfl rfl rfl ?_)))
        refine WR.stepE (v' := .bool true) (Ex.eql rfl rfl) (congrArg Value.bool (decide_eq_true hk20)) (Wn.some rfl rfl rfl) rfl rfl (PT rfl rfl rfl (MV rfl rfl (SG (Ex.fieldAddr Tryz.underlying27 rfl Tryz.sizeOf3 (by decide) rfl) rfl rfl rfl (SG (Ex.load1 H rfl (by repeat (first | exact List.Mem.head _ | apply List.Mem.tail)) Tryz.isAgg3 (by rfl)) rfl rfl rfl ?_))))
        refine WR.stepE (v' := .bool true) (Ex.eql rfl rfl) (congrArg Value.bool (decide_eq_true hk21)) (Wn.some rfl rfl rfl) rfl rfl (PT rfl rfl rfl (MV rfl rfl (SG (Ex.move rfl) rfl rfl rfl (WR.stepE (v' := .bool true) (Ex.strEql rfl rfl) (congrArg Value.bool (decide_eq_true hk22)) (Wn.some rfl rfl rfl) rfl rfl (PT rfl rfl rfl (MV rfl rfl (SG (Ex.fieldAddr Tryz.underlying24 rfl Tryz.sizeOf9 (by decide) rfl) rfl rfl rfl (SG (Ex.load1 H rfl (by repeat (first | exact List.Mem.head _ | apply List.Mem.tail)) Tryz.isAgg9 (by rfl)) rfl rfl rfl ?_))))))))
        refine WR.stepE (v' := .bool false) (Ex.strEql rfl rfl) (congrArg Value.bool (decide_eq_false hk23)) (Wn.some rfl rfl rfl) rfl rfl (PT rfl rfl rfl (MV rfl rfl (WR.skipN 4 rfl rfl (PF rfl rfl rfl (MV rfl rfl (WR.skipN 6 rfl rfl (PF rfl rfl rfl (MV rfl rfl (GF rfl rfl rfl (PF rfl rfl rfl (MV rfl rfl (GF rfl rfl rfl (GF rfl rfl rfl (PF rfl rfl rfl (AS rfl rfl (NL ?_))))))))))))))))
        exact WQ.meetN [(0, _)] ⟨rfl, trivial⟩ ⟨_, _, rfl, (H.pick (L' := []) (by repeat (first | exact Pick.nil | refine Pick.cons (by repeat first | exact .head | apply Rem.tail) ?_))), hg_errR, hg_errS, hg_maxl, hg_pow10, hg_tabs, e17⟩
      ·
       rw [if_neg hk22] at e17
       refine WR.stepE (v' := .bool true) (Ex.eql rfl rfl) (congrArg Value.bool (decide_eq_true hk19)) (Wn.none rfl) rfl rfl (MV rfl rfl (SG (Ex.fieldAddr Tryz.underlying27 rfl Tryz.sizeOf3 (by decide) rfl) rfl rfl rfl (SG (Ex.load1 H rfl (by repeat (first | exact List.Mem.head _ | apply List.Mem.tail)) Tryz.isAgg3 (by rfl)) rfl rfl rfl ?_)))
       refine WR.stepE (v' := .bool true) (Ex.eql rfl rfl) (congrArg Value.bool (decide_eq_true hk20)) (Wn.some rfl rfl rfl) rfl rfl (PT rfl rfl rfl (MV rfl rfl (SG (Ex.fieldAddr Tryz.underlying27 rfl Tryz.sizeOf3 (by decide) rfl) rfl rfl rfl (SG (Ex.load1 H rfl (by repeat (first | exact List.Mem.head _ | apply List.Mem.tail)) Tryz.isAgg3 (by rfl)) rfl rfl rfl ?_))))
       refine WR.stepE (v' := .bool true) (Ex.eql rfl rfl) (congrArg Value.bool (decide_eq_true hk21)) (Wn.some rfl rfl rfl) rfl rfl (PT rfl rfl rfl (MV rfl rfl (SG (Ex.move rfl) rfl rfl rfl (WR.stepE (v' := .bool false) (Ex.strEql rfl rfl) (congrArg Value.bool (decide_eq_false hk22)) (Wn.some rfl rfl rfl) rfl rfl (PT rfl rfl rfl (MV rfl rfl (WR.skipN 3 rfl rfl (PF rfl rfl rfl (MV rfl rfl (WR.skipN 4 rfl rfl (PF rfl rfl rfl (MV rfl rfl (WR.skipN 6 rfl rfl (PF rfl rfl rfl (MV rfl rfl (GF rfl rfl rfl (PF rfl rfl rfl (MV rfl rfl (GF rfl rfl rfl (GF rfl rfl rfl (PF rfl rfl rfl (AS rfl rfl (NL ?_)))))))))))))))))))))))
       exact WQ.meetN [(0, _)] ⟨rfl, trivial⟩ ⟨_, _, rfl, (H.pick (L' := []) (by repeat (first | exact Pick.nil | refine Pick.cons (by repeat first | exact .head | apply Rem.tail) ?_))), hg_errR, hg_errS, hg_maxl, hg_pow10, hg_tabs, e17⟩
     ·
      rw [if_neg hk21] at e17
      refine WR.stepE (v' := .bool true) (Ex.eql rfl rfl) (congrArg Value.bool (decide_eq_true hk19)) (Wn.none rfl) rfl rfl (MV rfl rfl (SG (Ex.fieldAddr Tryz.underlying27 rfl Tryz.sizeOf3 (by decide) rfl) rfl rfl rfl (SG (Ex.load1 H rfl (by repeat (first | exact List.Mem.head _ | apply List.Mem.tail)) Tryz.isAgg3 (by rfl)) rfl rfl rfl ?_)))
      refine WR.stepE (v' := .bool true) (Ex.eql rfl rfl) (congrArg Value.bool (decide_eq_true hk20)) (Wn.some rfl rfl rfl) rfl rfl (PT rfl rfl rfl (MV rfl rfl (SG (Ex.fieldAddr Tryz.underlying27 rfl Tryz.sizeOf3 (by decide) rfl) rfl rfl rfl (SG (Ex.load1 H rfl (by repeat (first | exact List.Mem.head _ | apply List.Mem.tail)) Tryz.isAgg3 (by rfl)) rfl rfl rfl ?_))))
      refine WR.stepE (v' := .bool false) (Ex.eql rfl rfl) (congrArg Value.bool (decide_eq_false hk21)) (Wn.some rfl rfl rfl) rfl rfl (PT rfl rfl rfl (MV rfl rfl (GF rfl rfl rfl (GF rfl rfl rfl (PF rfl rfl rfl (MV rfl rfl (WR.skipN 3 rfl rfl (PF rfl rfl rfl (MV rfl rfl (WR.skipN 4 rfl rfl (PF rfl rfl rfl (MV rfl rfl (WR.skipN 6 rfl rfl (PF rfl rfl rfl (MV rfl rfl (GF rfl rfl rfl (PF rfl rfl rfl (MV rfl rfl (GF rfl rfl rfl (GF rfl rfl rfl (PF rfl rfl rfl (AS rfl rfl (NL ?_)))))))))))))))))))))))
      exact WQ.meetN [(0, _)] ⟨rfl, trivial⟩ ⟨_, _, rfl, (H.pick (L' := []) (by repeat (first | exact Pick.nil | refine Pick.cons (by repeat first | exact .head | apply Rem.tail) ?_))), hg_errR, hg_errS, hg_maxl, hg_pow10, hg_tabs, e17⟩
    ·
     rw [if_neg hk20] at e17
     refine WR.stepE (v' := .bool true) (Ex.eql rfl rfl) (congrArg Value.bool (decide_eq_true hk19)) (Wn.none rfl) rfl rfl (MV rfl rfl (SG (Ex.fieldAddr Tryz.underlying27 rfl Tryz.sizeOf3 (by decide) rfl) rfl rfl rfl (SG (Ex.load1 H rfl (by repeat (first | exact List.Mem.head _ | apply List.Mem.tail)) Tryz.isAgg3 (by rfl)) rfl rfl rfl ?_)))
     refine WR.stepE (v' := .bool false) (Ex.eql rfl rfl) (congrArg Value.bool (decide_eq_false hk20)) (Wn.some rfl rfl rfl) rfl rfl (PT rfl rfl rfl (MV rfl rfl (WR.skipN 3 rfl rfl (PF rfl rfl rfl (MV rfl rfl (GF rfl rfl rfl (GF rfl rfl rfl (PF rfl rfl rfl (MV rfl rfl (WR.skipN 3 rfl rfl (PF rfl rfl rfl (MV rfl rfl (WR.skipN 4 rfl rfl (PF rfl rfl rfl (MV rfl rfl (WR.skipN 6 rfl rfl (PF rfl rfl rfl (MV rfl rfl (GF rfl rfl rfl (PF rfl rfl rfl (MV rfl rfl (GF rfl rfl rfl (GF rfl rfl rfl (PF rfl rfl rfl (AS rfl rfl (NL ?_))))))))))))))))))))))))))
     exact WQ.meetN [(0, _)] ⟨rfl, trivial⟩ ⟨_, _, rfl, (H.pick (L' := []) (by repeat (first | exact Pick.nil | refine Pick.cons (by repeat first | exact .head | apply Rem.tail) ?_))), hg_errR, hg_errS, hg_maxl, hg_pow10, hg_tabs, e17⟩
   ·
    rw [if_neg hk19] at e17
    refine WR.stepE (v' := .bool false) (Ex.eql rfl rfl) (congrArg Value.bool (decide_eq_false hk19)) (Wn.none rfl) rfl rfl (MV rfl rfl (WR.skipN 3 rfl rfl (PF rfl rfl rfl (MV rfl rfl (WR.skipN 3 rfl rfl (PF rfl rfl rfl (MV rfl rfl (GF rfl rfl rfl (GF rfl rfl rfl (PF rfl rfl rfl (MV rfl rfl (WR.skipN 3 rfl rfl (PF rfl rfl rfl (MV rfl rfl (WR.skipN 4 rfl rfl (PF rfl rfl rfl (MV rfl rfl (WR.skipN 6 rfl rfl (PF rfl rfl rfl (MV rfl rfl (GF rfl rfl rfl (PF rfl rfl rfl (MV rfl rfl (GF rfl rfl rfl (GF rfl rfl rfl (PF rfl rfl rfl (AS rfl rfl (NL ?_))))))))))))))))))))))))))))
    exact WQ.meetN [(0, _)] ⟨rfl, trivial⟩ ⟨_, _, rfl, (H.pick (L' := []) (by repeat (first | exact Pick.nil | refine Pick.cons (by repeat first | exact .head | apply Rem.tail) ?_))), hg_errR, hg_errS, hg_maxl, hg_pow10, hg_tabs, e17⟩
  ·
   rintro e w ⟨b18, M, rfl, H, hg_errR, hg_errS, hg_maxl, hg_pow10, hg_tabs, q27⟩
   obtain rfl := Option.some.inj q27
   refine TN (RT ?_)
   obtain rfl := Option.some.inj h
   exact WQ.ret1 rfl rfl H.ext rfl
theorem R_In_ct {p0 : Int} {p1 : Int} {p2 : Int} {r : Bool} (h : R_In p0 p1 p2 = some r) : Ct Tryz.prog 20 [I p0, I p1, I p2] (fun M => True) (fun v M => v = Value.bool r) := by
  refine Ct.of Tryz.func20 (enters Tryz.func20 (by kernel_rfl) rfl) rfl rfl rfl ?_
  intro w0 M0 H hp
  unfold R_In at h
  refine SQ (RG (AS rfl rfl (NL (TN (SQ ?_)))))
  obtain ⟨o1, e2, h⟩ := bnd h
  refine WC.cutX (fun e w => ∃ (b3 : Bool) (M : Mem), e = [(6, Value.bool b3)] ∧ St w0 M0 M [] w ∧ some b3 = some o1) [] ?_ ?_ (trivial)
  ·
   refine RG (MV rfl rfl (MV rfl rfl ?_))
   by_cases hk4 : p1 ≤ p0
   ·
    rw [if_pos hk4] at e2
    refine WR.stepE (v' := .bool true) (Ex.geq rfl rfl) (congrArg Value.bool (decide_eq_true hk4)) (Wn.none rfl) rfl rfl (MV rfl rfl (SG (Ex.move rfl) rfl rfl rfl (SG (Ex.move rfl) rfl rfl rfl (SG (Ex.leq rfl rfl) rfl rfl rfl (PT rfl rfl rfl (AS rfl rfl (NL ?_)))))))
    exact WQ.meetN [(6, _)] ⟨rfl, trivial⟩ ⟨_, _, rfl, H, e2⟩
   ·
    rw [if_neg hk4] at e2
    refine WR.stepE (v' := .bool false) (Ex.geq rfl rfl) (congrArg Value.bool (decide_eq_false hk4)) (Wn.none rfl) rfl rfl (MV rfl rfl (WR.skipN 3 rfl rfl (PF rfl rfl rfl (AS rfl rfl (NL ?_)))))
    exact WQ.meetN [(6, _)] ⟨rfl, trivial⟩ ⟨_, _, rfl, H, e2⟩
  ·
   rintro e w ⟨b3, M, rfl, H, q5⟩
   obtain rfl := Option.some.inj q5
   refine TN (RT ?_)
   obtain rfl := Option.some.inj h
   exact WQ.ret1 rfl rfl H.ext rfl
theorem R_OneOf_ct {p0 : UInt8} {p1 : List UInt8} {r : Bool} (h : R_OneOf p0 p1 = some r) : Ct Tryz.prog 62 [encB p0, S p1] (fun M => True) (fun v M => v = Value.bool r) := by
  refine Ct.of Tryz.func62 (enters Tryz.func62 (by kernel_rfl) rfl) rfl rfl rfl ?_
  intro w0 M0 H hp
  unfold R_OneOf at h
  refine SQ (RG (AS rfl rfl (NL (TN (SQ (SQ (RG (AS rfl rfl (NL (TN ?_))))))))))
  obtain ⟨o1, e2, h⟩ := bnd h
  refine WC.cutX (fun e w => ∃  (M : Mem), e = [] ∧ St w0 M0 M [] w ∧ some (.inl ()) = some o1) [] ?_ ?_ (trivial)
  ·
   refine BL (WC.loopP (fun m e w => ∃ (n3 : Int) (M : Mem), e = [(0, encB p0), (1, S p1), (5, I n3)] ∧ St w0 M0 M [] w ∧ R_OneOf_L1 p0 p1 m n3 = some o1) FU [(0, _), (1, _), (5, _)] ⟨rfl, rfl, rfl, trivial⟩ ⟨_, _, rfl, H, e2⟩ ?_)
   rintro m4 e w ⟨n3, M, rfl, H, e2⟩
   rcases m4 with _ | m4
   · rw [R_OneOf_L1] at e2; cases e2
   rw [R_OneOf_L1] at e2
   refine SQ (SQ (RG (MV rfl rfl (MV rfl rfl (ST (Ex.lenStr Tryz.underlying9 rfl) rfl (ST (Ex.lss rfl rfl) rfl (NL (TN ?_))))))))
   refine WC.condB rfl (fun hk5 => ?_) (fun hk5 => ?_)
   ·
    replace hk5 : n3 < (p1.length : Int) := of_decide_eq_true hk5
    rw [if_pos hk5] at e2
    refine SK (TN (SQ (BL (SQ ?_))))
    obtain ⟨c6, hxc6, e2⟩ := bnd e2
    refine RG (MV rfl rfl (MV rfl rfl (ST (Ex.idxStrC Tryz.underlying9 rfl rfl hxc6) rfl (MV rfl rfl (ST (Ex.eqlB (c := c6) (d := p0) rfl rfl) rfl (NL (TN ?_)))))))
    refine WC.condB rfl (fun hk7 => ?_) (fun hk7 => ?_)
    ·
     replace hk7 : c6 = p0 := of_decide_eq_true hk7
     rw [if_pos hk7] at e2
     refine SQ (RG (AS rfl rfl (NL (TN (RT ?_)))))
     obtain rfl := Option.some.inj e2
     try dsimp only at h
     obtain rfl := Option.some.inj h
     exact WQ.ret1 rfl rfl H.ext rfl
    ·
     replace hk7 : ¬ (c6 = p0) := of_decide_eq_false hk7
     rw [if_neg hk7] at e2
     refine SK (IB (TN ?_))
     obtain ⟨n8, hxn8, e2⟩ := bnd e2
     refine RG (MV rfl rfl (ST (Ex.addC rfl rfl hxn8) rfl (AS rfl rfl (NL ?_))))
     exact WQ.againP m4 [(0, _), (1, _), (5, _)] ⟨rfl, rfl, rfl, trivial⟩ ⟨_, _, rfl, H, e2⟩ (Nat.lt_succ_self _)
   ·
    replace hk5 : ¬ (n3 < (p1.length : Int)) := of_decide_eq_false hk5
    rw [if_neg hk5] at e2
    refine WC.exit (WQ.thenExit (WQ.thenExit (WQ.exitHere ?_)))
    exact WQ.meetN [] trivial ⟨_, rfl, H, e2⟩
  ·
   rintro e w ⟨M, rfl, H, q9⟩
   obtain rfl := Option.some.inj q9
   try dsimp only at h
   refine TN (SQ (RG (AS rfl rfl (NL (TN (RT ?_))))))
   obtain rfl := Option.some.inj h
   exact WQ.ret1 rfl rfl H.ext rfl
theorem R_TokenByte_ct {p0 : UInt8} {r : Bool} (h : R_TokenByte p0 = some r) : Ct Tryz.prog 41 [encB p0] (fun M => True) (fun v M => v = Value.bool r) := by
  refine Ct.of Tryz.func41 (enters Tryz.func41 (by kernel_rfl) rfl) rfl rfl rfl ?_
  intro w0 M0 H hp
  unfold R_TokenByte at h
  refine SQ (RG (AS rfl rfl (NL (TN (SQ ?_)))))
  obtain ⟨o1, e2, h⟩ := bnd h
  refine WC.cutX (fun e w => ∃ (b3 : Bool) (M : Mem), e = [(2, Value.bool b3)] ∧ St w0 M0 M [] w ∧ some b3 = some o1) [] ?_ ?_ (trivial)
  ·
   obtain ⟨b4, hx5, e2⟩ := bnd e2
   refine RG (MV rfl rfl (ST (Ex.convB Tryz.underlying5 Tryz.underlying3 rfl) rfl (WR.call H (R_In_ct hx5) rfl trivial (Wn.none rfl) rfl ?_)))
   intro v5 M w H hle hR
   obtain rfl := hR
   refine MV rfl rfl ?_
   rcases b4 with _ | _
   ·
    rw [if_neg Bool.false_ne_true] at e2
    refine WR.skipN 3 rfl rfl (PF rfl rfl rfl (AS rfl rfl (NL ?_)))
    exact WQ.meetN [(2, _)] ⟨rfl, trivial⟩ ⟨_, _, rfl, H, e2⟩
   ·
    rw [if_pos rfl] at e2
    obtain ⟨b6, hx7, e2⟩ := bnd e2
    refine SG (Ex.move rfl) rfl rfl rfl (WR.call H (R_OneOf_ct hx7) rfl trivial (Wn.some rfl rfl rfl) rfl ?_)
    intro v8 M w H hle hR
    obtain rfl := hR
    refine SG (Ex.not rfl) rfl rfl rfl (PT rfl rfl rfl (AS rfl rfl (NL ?_)))
    exact WQ.meetN [(2, _)] ⟨rfl, trivial⟩ ⟨_, _, rfl, H, e2⟩
  ·
   rintro e w ⟨b3, M, rfl, H, q8⟩
   obtain rfl := Option.some.inj q8
   refine TN (RT ?_)
   obtain rfl := Option.some.inj h
   exact WQ.ret1 rfl rfl H.ext rfl
theorem R_TokenText_ct {p0 : List UInt8} {r : Bool} (h : R_TokenText p0 = some r) : Ct Tryz.prog 21 [S p0] (fun M => True) (fun v M => v = Value.bool r) := by
  refine Ct.of Tryz.func21 (enters Tryz.func21 (by kernel_rfl) rfl) rfl rfl rfl ?_
  intro w0 M0 H hp
  unfold R_TokenText at h
  refine SQ (RG (AS rfl rfl (NL (TN (SQ (SQ (RG (AS rfl rfl (NL (TN ?_))))))))))
  obtain ⟨o1, e2, h⟩ := bnd h
  refine WC.cutX (fun e w => ∃  (M : Mem), e = [(0, S p0)] ∧ St w0 M0 M [] w ∧ some (.inl ()) = some o1) [] ?_ ?_ (trivial)
  ·
   refine BL (WC.loopP (fun m e w => ∃ (n3 : Int) (M : Mem), e = [(0, S p0), (3, I n3)] ∧ St w0 M0 M [] w ∧ R_TokenText_L1 p0 m n3 = some o1) FU [(0, _), (3, _)] ⟨rfl, rfl, trivial⟩ ⟨_, _, rfl, H, e2⟩ ?_)
   rintro m4 e w ⟨n3, M, rfl, H, e2⟩
   rcases m4 with _ | m4
   · rw [R_TokenText_L1] at e2; cases e2
   rw [R_TokenText_L1] at e2
   refine SQ (SQ (RG (MV rfl rfl (MV rfl rfl (ST (Ex.lenStr Tryz.underlying9 rfl) rfl (ST (Ex.lss rfl rfl) rfl (NL (TN ?_))))))))
   refine WC.condB rfl (fun hk5 => ?_) (fun hk5 => ?_)
   ·
    replace hk5 : n3 < (p0.length : Int) := of_decide_eq_true hk5
    rw [if_pos hk5] at e2
    refine SK (TN (SQ (BL (SQ ?_))))
    obtain ⟨c6, hxc6, e2⟩ := bnd e2
    obtain ⟨b7, hx8, e2⟩ := bnd e2
    refine RG (MV rfl rfl (MV rfl rfl (ST (Ex.idxStrC Tryz.underlying9 rfl rfl hxc6) rfl (WR.call H (R_TokenByte_ct hx8) rfl trivial (Wn.none rfl) rfl ?_))))
    intro v13 M w H hle hR
    obtain rfl := hR
    refine ST (Ex.not rfl) rfl (NL (TN ?_))
    refine WC.condB rfl (fun hk9 => ?_) (fun hk9 => ?_)
    ·
     replace hk9 : b7 = false := by simpa using hk9
     subst hk9
     rw [if_neg Bool.false_ne_true] at e2
     refine SQ (RG (AS rfl rfl (NL (TN (RT ?_)))))
     obtain rfl := Option.some.inj e2
     try dsimp only at h
     obtain rfl := Option.some.inj h
     exact WQ.ret1 rfl rfl H.ext rfl
    ·
     replace hk9 : b7 = true := by simpa using hk9
     subst hk9
     rw [if_pos rfl] at e2
     refine SK (IB (TN ?_))
     obtain ⟨n10, hxn10, e2⟩ := bnd e2
     refine RG (MV rfl rfl (ST (Ex.addC rfl rfl hxn10) rfl (AS rfl rfl (NL ?_))))
     exact WQ.againP m4 [(0, _), (3, _)] ⟨rfl, rfl, trivial⟩ ⟨_, _, rfl, H, e2⟩ (Nat.lt_succ_self _)
   ·
    replace hk5 : ¬ (n3 < (p0.length : Int)) := of_decide_eq_false hk5
    rw [if_neg hk5] at e2
    refine WC.exit (WQ.thenExit (WQ.thenExit (WQ.exitHere ?_)))
    exact WQ.meetN [(0, _)] ⟨rfl, trivial⟩ ⟨_, rfl, H, e2⟩
  ·
   rintro e w ⟨M, rfl, H, q11⟩
   obtain rfl := Option.some.inj q11
   try dsimp only at h
   refine TN (SQ ?_)
   obtain ⟨b12, hx13, h⟩ := bnd h
   refine RG (MV rfl rfl (ST (Ex.lenStr Tryz.underlying9 rfl) rfl (WR.call H (R_In_ct hx13) rfl trivial (Wn.none rfl) rfl ?_)))
   intro v17 M w H hle hR
   obtain rfl := hR
   refine AS rfl rfl (NL (TN (RT ?_)))
   obtain rfl := Option.some.inj h
   exact WQ.ret1 rfl rfl H.ext rfl
theorem R_At_ct {p0 : Int} {p1 : Int} {r : (Int × Int)} (h : R_At p0 p1 = some r) : Ct Tryz.prog 14 [I p0, I p1] (fun M => True) (fun v M => v = Value.agg #[I r.1, I r.2]) := by
  refine Ct.of Tryz.func14 (enters Tryz.func14 (by kernel_rfl) rfl) rfl rfl rfl ?_
  intro w0 M0 H hp
  unfold R_At at h
  refine SQ (RG (WR.alloc [_, _] H Tryz.zeroValue27 rfl (Wn.none rfl) rfl ?_))
  intro bk4 w H
  refine NL (TN (SQ (RG (MV rfl rfl (MV rfl rfl (ST (Ex.build [I p0, I p1] Tryz.underlying27 Tryz.zeroValue27 (xplaces27 Tryz.underlying27) rfl rfl) rfl (WR.store [_, _] H rfl rfl rfl (by repeat first | exact .head | apply Upd.tail) Tryz.sizeOf27 rfl (by rfl) (by rfl) (Wn.none rfl) ?_)))))))
  intro w H
  refine NL (TN (RT ?_))
  obtain rfl := Option.some.inj h
  exact WQ.ret1 rfl ⟨_, rfl, H.loadAgg (by repeat (first | exact List.Mem.head _ | apply List.Mem.tail)) Tryz.isAgg27 Tryz.sizeOf27 (by rfl)⟩ H.ext rfl
end Go.Proofs.YtegkhjbajijidaaGreatDoor
end
section
set_option maxRecDepth 100000
set_option linter.unusedVariables false
set_option linter.unusedSimpArgs false
namespace Go.Proofs.YtegkhjbajijidaaGreatDoor
open Go Go.RowKit Go.Ph Go.Ph.Pl Go.Ph.Pf
theorem R_MediaFault_ct {p0 : (List UInt8 × List UInt8 × List (List UInt8 × List UInt8))} {vp0_2 : Value} {r : (Int × Int)} (h : R_MediaFault p0 = some r) : Ct Tryz.prog 11 [Value.agg #[S p0.1, S p0.2.1, vp0_2]] (fun M => SlS M 2 xenc47 vp0_2 p0.2.2) (fun v M => v = Value.agg #[I r.1, I r.2]) := by
  refine Ct.of Tryz.func11 (enters Tryz.func11 (by kernel_rfl) rfl) rfl rfl rfl ?_
  intro w0 M0 H hp
  have hp0_2 := hp
  unfold R_MediaFault at h
  refine SQ (RG (WR.box [_, _, _] H rfl rfl (Wn.none rfl) rfl ?_))
  intro bk1 w H
  refine WR.alloc [_, _] H Tryz.zeroValue27 rfl (Wn.none rfl) rfl ?_
  intro bk2 w H
  refine NL (TN (SQ (SQ ?_)))
  obtain ⟨o1, e2, h⟩ := bnd h
  refine WC.cutX (fun e w => ∃ (b3 : Bool) (M : Mem), e = [(1, ptr bk1 0), (2, ptr bk2 0), (15, Value.bool b3)] ∧ St w0 M0 M [.blk bk1 (.cells #[S p0.1, S p0.2.1, vp0_2] 24), .blk bk2 (.cells #[I 0, I 0] 27)] w ∧ SlS M 2 xenc47 vp0_2 p0.2.2 ∧ some b3 = some o1) [] ?_ ?_ (trivial)
  ·
   obtain ⟨b4, hx5, e2⟩ := bnd e2
   refine RG (ST (Ex.fieldAddr Tryz.underlying24 rfl Tryz.sizeOf9 (by decide) rfl) rfl (ST (Ex.load1 H rfl (by repeat (first | exact List.Mem.head _ | apply List.Mem.tail)) Tryz.isAgg9 (by rfl)) rfl ?_))
   refine WR.call H (R_TokenText_ct hx5) rfl trivial (Wn.none rfl) rfl ?_
   intro v8 M w H hle hR
   replace hp0_2 := hp0_2.mono hle
   obtain rfl := hR
   refine ST (Ex.not rfl) rfl (MV rfl rfl ?_)
   rcases b4 with _ | _
   ·
    rw [if_neg Bool.false_ne_true] at e2
    refine WR.skipN 4 rfl rfl (PT rfl rfl rfl (NL ?_))
    exact WQ.meetN [(1, _), (2, _), (15, _)] ⟨rfl, rfl, rfl, trivial⟩ ⟨_, _, rfl, (H.pick (L' := [.blk bk1 (.cells #[S p0.1, S p0.2.1, vp0_2] 24), .blk bk2 (.cells #[I 0, I 0] 27)]) (by repeat (first | exact Pick.nil | refine Pick.cons (by repeat first | exact .head | apply Rem.tail) ?_))), hp0_2, e2⟩
   ·
    rw [if_pos rfl] at e2
    obtain ⟨b6, hx7, e2⟩ := bnd e2
    refine SG (Ex.fieldAddr Tryz.underlying24 rfl Tryz.sizeOf9 (by decide) rfl) rfl rfl rfl (SG (Ex.load1 H rfl (by repeat (first | exact List.Mem.head _ | apply List.Mem.tail)) Tryz.isAgg9 (by rfl)) rfl rfl rfl ?_)
    refine WR.call H (R_TokenText_ct hx7) rfl trivial (Wn.some rfl rfl rfl) rfl ?_
    intro v13 M w H hle hR
    replace hp0_2 := hp0_2.mono hle
    obtain rfl := hR
    refine SG (Ex.not rfl) rfl rfl rfl (PF rfl rfl rfl (NL ?_))
    exact WQ.meetN [(1, _), (2, _), (15, _)] ⟨rfl, rfl, rfl, trivial⟩ ⟨_, _, rfl, (H.pick (L' := [.blk bk1 (.cells #[S p0.1, S p0.2.1, vp0_2] 24), .blk bk2 (.cells #[I 0, I 0] 27)]) (by repeat (first | exact Pick.nil | refine Pick.cons (by repeat first | exact .head | apply Rem.tail) ?_))), hp0_2, e2⟩
  ·
   rintro e w ⟨b3, M, rfl, H, hp0_2, q8⟩
   obtain rfl := Option.some.inj q8
   refine TN ?_
   refine WC.condB rfl (fun hk9 => ?_) (fun hk9 => ?_)
   ·
    subst hk9
    rw [if_pos rfl] at h
    refine SQ ?_
    obtain ⟨⟨n10, n11⟩, hx12, h⟩ := bnd h
    try dsimp only at h
    refine RG (WR.call H (R_At_ct hx12) rfl trivial (Wn.none rfl) rfl ?_)
    intro v16 M w H hle hR
    replace hp0_2 := hp0_2.mono hle
    try dsimp only at hR
    obtain rfl := hR
    refine WR.store [_, _] H rfl rfl rfl (by repeat first | exact .head | apply Upd.tail) Tryz.sizeOf27 rfl (by rfl) (by rfl) (Wn.none rfl) ?_
    intro w H
    refine NL (TN (RT ?_))
    obtain rfl := Option.some.inj h
    exact WQ.ret1 rfl ⟨_, rfl, H.loadAgg (by repeat (first | exact List.Mem.head _ | apply List.Mem.tail)) Tryz.isAgg27 Tryz.sizeOf27 (by rfl)⟩ H.ext rfl
   ·
    subst hk9
    rw [if_neg Bool.false_ne_true] at h
    refine SK (TN (SQ (SQ (RG (ST (Ex.fieldAddr Tryz.underlying24 rfl Tryz.sizeOf22 (by decide) rfl) rfl (ST (Ex.load1 H rfl (by repeat (first | exact List.Mem.head _ | apply List.Mem.tail)) Tryz.isAgg22 (by rfl)) rfl ?_))))))
    refine ST (Ex.lenSlS Tryz.underlying22 hp0_2 rfl) rfl (ST (Ex.gtr rfl rfl) rfl (NL (TN ?_)))
    refine WC.condB rfl (fun hk13 => ?_) (fun hk13 => ?_)
    ·
     replace hk13 : (60 : Int) < (p0.2.2.length : Int) := of_decide_eq_true hk13
     rw [if_pos hk13] at h
     refine SQ ?_
     obtain ⟨⟨n14, n15⟩, hx16, h⟩ := bnd h
     try dsimp only at h
     refine RG (WR.call H (R_At_ct hx16) rfl trivial (Wn.none rfl) rfl ?_)
     intro v21 M w H hle hR
     replace hp0_2 := hp0_2.mono hle
     try dsimp only at hR
     obtain rfl := hR
     refine WR.store [_, _] H rfl rfl rfl (by repeat first | exact .head | apply Upd.tail) Tryz.sizeOf27 rfl (by rfl) (by rfl) (Wn.none rfl) ?_
     intro w H
     refine NL (TN (RT ?_))
     obtain rfl := Option.some.inj h
     exact WQ.ret1 rfl ⟨_, rfl, H.loadAgg (by repeat (first | exact List.Mem.head _ | apply List.Mem.tail)) Tryz.isAgg27 Tryz.sizeOf27 (by rfl)⟩ H.ext rfl
    ·
     replace hk13 : ¬ ((60 : Int) < (p0.2.2.length : Int)) := of_decide_eq_false hk13
     rw [if_neg hk13] at h
     refine SK (TN (SQ (SQ (RG (AS rfl rfl (NL (TN ?_)))))))
     obtain ⟨o17, e18, h⟩ := bnd h
     refine WC.cutX (fun e w => ∃ (n19 : Int) (n20 : Int) (M : Mem), e = [(2, ptr bk2 0)] ∧ St w0 M0 M [.blk bk2 (.cells #[I n19, I n20] 27)] w ∧ some (.inl (n19, n20)) = some o17) [] ?_ ?_ (trivial)
     ·
      refine BL (WC.loopP (fun m e w => ∃ (n21 : Int) (n22 : Int) (n23 : Int) (M : Mem), e = [(1, ptr bk1 0), (2, ptr bk2 0), (3, I n23)] ∧ St w0 M0 M [.blk bk1 (.cells #[S p0.1, S p0.2.1, vp0_2] 24), .blk bk2 (.cells #[I n21, I n22] 27)] w ∧ SlS M 2 xenc47 vp0_2 p0.2.2 ∧ R_MediaFault_L1 p0 m n21 n22 n23 = some o17) FU [(1, _), (2, _), (3, _)] ⟨rfl, rfl, rfl, trivial⟩ ⟨_, _, _, _, rfl, H, hp0_2, e18⟩ ?_)
      rintro m24 e w ⟨n21, n22, n23, M, rfl, H, hp0_2, e18⟩
      rcases m24 with _ | m24
      · rw [R_MediaFault_L1] at e18; cases e18
      rw [R_MediaFault_L1] at e18
      refine SQ (SQ (RG (MV rfl rfl (ST (Ex.fieldAddr Tryz.underlying24 rfl Tryz.sizeOf22 (by decide) rfl) rfl (ST (Ex.load1 H rfl (by repeat (first | exact List.Mem.head _ | apply List.Mem.tail)) Tryz.isAgg22 (by rfl)) rfl ?_)))))
      refine ST (Ex.lenSlS Tryz.underlying22 hp0_2 rfl) rfl (ST (Ex.lss rfl rfl) rfl (NL (TN ?_)))
      refine WC.condB rfl (fun hk25 => ?_) (fun hk25 => ?_)
      ·
       replace hk25 : n23 < (p0.2.2.length : Int) := of_decide_eq_true hk25
       rw [if_pos hk25] at e18
       refine SK (TN (SQ (BL (SQ ?_))))
       obtain ⟨a26, hxa26, e18⟩ := bnd e18
       obtain ⟨bk32, o32, ha32, hc32⟩ := hp0_2.atC hxa26
       refine RG (ST (Ex.fieldAddr Tryz.underlying24 rfl Tryz.sizeOf22 (by decide) rfl) rfl (ST (Ex.load1 H rfl (by repeat (first | exact List.Mem.head _ | apply List.Mem.tail)) Tryz.isAgg22 (by rfl)) rfl ?_))
       refine MV rfl rfl (ST (Ex.idxAt ha32 Tryz.underlying22 Tryz.sizeOf47 rfl rfl) rfl (ST (Ex.loadAggM H rfl hc32 Tryz.isAgg47 Tryz.sizeOf47 (by rfl)) rfl ?_))
       refine WR.alloc [_, _] H Tryz.zeroValue47 rfl (Wn.none rfl) rfl ?_
       intro bk4 w H
       refine WR.store [_, _] H rfl rfl rfl (by repeat first | exact .head | apply Upd.tail) Tryz.sizeOf47 rfl (by rfl) (by rfl) (Wn.none rfl) ?_
       intro w H
       refine NL (TN (SQ (SQ ?_)))
       obtain ⟨o27, e28, e18⟩ := bnd e18
       refine WC.cutX (fun e w => ∃ (b29 : Bool) (M : Mem), e = [(1, ptr bk1 0), (2, ptr bk2 0), (3, I n23), (4, ptr bk4 0), (43, Value.bool b29)] ∧ St w0 M0 M [.blk bk1 (.cells #[S p0.1, S p0.2.1, vp0_2] 24), .blk bk2 (.cells #[I n21, I n22] 27), .blk bk4 (.cells #[S a26.1, S a26.2] 47)] w ∧ SlS M 2 xenc47 vp0_2 p0.2.2 ∧ some b29 = some o27) [] ?_ ?_ (trivial)
       ·
        obtain ⟨b30, hx31, e28⟩ := bnd e28
        refine RG (ST (Ex.fieldAddr Tryz.underlying47 rfl Tryz.sizeOf9 (by decide) rfl) rfl (ST (Ex.load1 H rfl (by repeat (first | exact List.Mem.head _ | apply List.Mem.tail)) Tryz.isAgg9 (by rfl)) rfl ?_))
        refine WR.call H (R_TokenText_ct hx31) rfl trivial (Wn.none rfl) rfl ?_
        intro v36 M w H hle hR
        replace hp0_2 := hp0_2.mono hle
        replace hc32 := hc32.mono hle
        obtain rfl := hR
        refine ST (Ex.not rfl) rfl (MV rfl rfl ?_)
        rcases b30 with _ | _
        ·
         rw [if_neg Bool.false_ne_true] at e28
         refine WR.skipN 4 rfl rfl (PT rfl rfl rfl (NL ?_))
         exact WQ.meetN [(1, _), (2, _), (3, _), (4, _), (43, _)] ⟨rfl, rfl, rfl, rfl, rfl, trivial⟩ ⟨_, _, rfl, (H.pick (L' := [.blk bk1 (.cells #[S p0.1, S p0.2.1, vp0_2] 24), .blk bk2 (.cells #[I n21, I n22] 27), .blk bk4 (.cells #[S a26.1, S a26.2] 47)]) (by repeat (first | exact Pick.nil | refine Pick.cons (by repeat first | exact .head | apply Rem.tail) ?_))), hp0_2, e28⟩
        ·
         rw [if_pos rfl] at e28
         refine SG (Ex.fieldAddr Tryz.underlying47 rfl Tryz.sizeOf9 (by decide) rfl) rfl rfl rfl (SG (Ex.load1 H rfl (by repeat (first | exact List.Mem.head _ | apply List.Mem.tail)) Tryz.isAgg9 (by rfl)) rfl rfl rfl ?_)
         refine SG (Ex.lenStr Tryz.underlying9 rfl) rfl rfl rfl (SG (Ex.gtr rfl rfl) rfl rfl rfl (PF rfl rfl rfl (NL ?_)))
         exact WQ.meetN [(1, _), (2, _), (3, _), (4, _), (43, _)] ⟨rfl, rfl, rfl, rfl, rfl, trivial⟩ ⟨_, _, rfl, (H.pick (L' := [.blk bk1 (.cells #[S p0.1, S p0.2.1, vp0_2] 24), .blk bk2 (.cells #[I n21, I n22] 27), .blk bk4 (.cells #[S a26.1, S a26.2] 47)]) (by repeat (first | exact Pick.nil | refine Pick.cons (by repeat first | exact .head | apply Rem.tail) ?_))), hp0_2, e28⟩
       ·
        rintro e w ⟨b29, M, rfl, H, hp0_2, q32⟩
        obtain rfl := Option.some.inj q32
        refine TN ?_
        refine WC.condB rfl (fun hk33 => ?_) (fun hk33 => ?_)
        ·
         subst hk33
         rw [if_pos rfl] at e18
         refine SQ ?_
         obtain ⟨⟨n34, n35⟩, hx36, e18⟩ := bnd e18
         try dsimp only at e18
         refine RG (MV rfl rfl (WR.call H (R_At_ct hx36) rfl trivial (Wn.none rfl) rfl ?_))
         intro v45 M w H hle hR
         replace hp0_2 := hp0_2.mono hle
         try dsimp only at hR
         obtain rfl := hR
         refine WR.store [_, _] H rfl rfl rfl (by repeat first | exact .head | apply Upd.tail) Tryz.sizeOf27 rfl (by rfl) (by rfl) (Wn.none rfl) ?_
         intro w H
         refine NL (TN (RT ?_))
         obtain rfl := Option.some.inj e18
         try dsimp only at h
         obtain rfl := Option.some.inj h
         exact WQ.ret1 rfl ⟨_, rfl, H.loadAgg (by repeat (first | exact List.Mem.head _ | apply List.Mem.tail)) Tryz.isAgg27 Tryz.sizeOf27 (by rfl)⟩ H.ext rfl
        ·
         subst hk33
         rw [if_neg Bool.false_ne_true] at e18
         refine SK (TN (SQ (SQ (RG (AS rfl rfl (NL (TN ?_)))))))
         obtain ⟨o37, e38, e18⟩ := bnd e18
         refine WC.cutX (fun e w => ∃ (n39 : Int) (n40 : Int) (M : Mem), e = [(1, ptr bk1 0), (2, ptr bk2 0), (3, I n23), (4, ptr bk4 0)] ∧ St w0 M0 M [.blk bk1 (.cells #[S p0.1, S p0.2.1, vp0_2] 24), .blk bk2 (.cells #[I n39, I n40] 27), .blk bk4 (.cells #[S a26.1, S a26.2] 47)] w ∧ SlS M 2 xenc47 vp0_2 p0.2.2 ∧ some (.inl (n39, n40)) = some o37) [] ?_ ?_ (trivial)
         ·
          refine BL (WC.loopP (fun m e w => ∃ (n41 : Int) (n42 : Int) (n43 : Int) (M : Mem), e = [(1, ptr bk1 0), (2, ptr bk2 0), (3, I n23), (4, ptr bk4 0), (5, I n43)] ∧ St w0 M0 M [.blk bk1 (.cells #[S p0.1, S p0.2.1, vp0_2] 24), .blk bk2 (.cells #[I n41, I n42] 27), .blk bk4 (.cells #[S a26.1, S a26.2] 47)] w ∧ SlS M 2 xenc47 vp0_2 p0.2.2 ∧ R_MediaFault_L2 p0 n23 a26 m n41 n42 n43 = some o37) FU [(1, _), (2, _), (3, _), (4, _), (5, _)] ⟨rfl, rfl, rfl, rfl, rfl, trivial⟩ ⟨_, _, _, _, rfl, H, hp0_2, e38⟩ ?_)
          rintro m44 e w ⟨n41, n42, n43, M, rfl, H, hp0_2, e38⟩
          rcases m44 with _ | m44
          · rw [R_MediaFault_L2] at e38; cases e38
          rw [R_MediaFault_L2] at e38
          refine SQ (SQ (RG (MV rfl rfl (MV rfl rfl (ST (Ex.lss rfl rfl) rfl (NL (TN ?_)))))))
          refine WC.condB rfl (fun hk45 => ?_) (fun hk45 => ?_)
          ·
           replace hk45 : n43 < n23 := of_decide_eq_true hk45
           rw [if_pos hk45] at e38
           refine SK (TN (SQ (BL (SQ ?_))))
           obtain ⟨a46, hxa46, e38⟩ := bnd e38
           obtain ⟨bk54, o54, ha54, hc54⟩ := hp0_2.atC hxa46
           obtain ⟨b47, hx48, e38⟩ := bnd e38
           refine WC.draw (m := 9) rfl rfl H ?_
           intro w H
           refine WA.take (i := 0) rfl (by kernel_rfl) (by kernel_rfl) (by kernel_rfl) (fun _ => Ex.fieldAddr Tryz.underlying24 rfl Tryz.sizeOf22 (by decide) rfl) (Wn.none rfl) rfl rfl (fun _ _ => rfl) (WA.take (i := 2) rfl (by kernel_rfl) (by kernel_rfl) (by kernel_rfl) (fun _ => Ex.move rfl) (Wn.none rfl) rfl rfl (fun _ _ => rfl) (WA.take (i := 6) rfl (by kernel_rfl) (by kernel_rfl) (by kernel_rfl) (fun _ => Ex.fieldAddr Tryz.underlying47 rfl Tryz.sizeOf9 (by decide) rfl) (Wn.none rfl) rfl rfl (fun _ _ => rfl) (WA.takeM (i := 1) [7] rfl (by kernel_rfl) (by kernel_rfl) (by kernel_rfl) (Ex.load1 H rfl (by repeat (first | exact List.Mem.head _ | apply List.Mem.tail)) Tryz.isAgg22 (by rfl)) (Wn.none rfl) rfl rfl (fun _ _ => rfl) ?_)))
           refine WA.take (i := 3) rfl (by kernel_rfl) (by kernel_rfl) (by kernel_rfl) (fun _ => Ex.idxAt ha54 Tryz.underlying22 Tryz.sizeOf47 rfl rfl) (Wn.none rfl) rfl rfl (fun _ _ => rfl) (WA.take (i := 4) rfl (by kernel_rfl) (by kernel_rfl) (by kernel_rfl) (fun _ => Ex.fieldAddr Tryz.underlying47 rfl Tryz.sizeOf9 (by decide) rfl) (Wn.none rfl) rfl rfl (fun _ _ => rfl) (WA.takeM (i := 5) [7] rfl (by kernel_rfl) (by kernel_rfl) (by kernel_rfl) (Ex.loadM H rfl (hc54.at (j := 0) rfl) Tryz.isAgg9) (Wn.none rfl) rfl rfl (fun _ _ => rfl) (WA.seq (fuel := 0) [7, 8] rfl (by kernel_rfl) (ST (Ex.load1 H rfl (by repeat (first | exact List.Mem.head _ | apply List.Mem.tail)) Tryz.isAgg9 (by rfl)) rfl ?_))))
           refine WR.call H (R_Alike_ct hx48) rfl trivial (Wn.none rfl) rfl ?_
           intro v59 M w H hle hR
           replace hp0_2 := hp0_2.mono hle
           replace hc54 := hc54.mono hle
           obtain rfl := hR
           refine NA (WA.done (by kernel_rfl) (TN ?_))
           refine WC.condB rfl (fun hk49 => ?_) (fun hk49 => ?_)
           ·
            subst hk49
            rw [if_pos rfl] at e38
            refine SQ ?_
            obtain ⟨⟨n50, n51⟩, hx52, e38⟩ := bnd e38
            try dsimp only at e38
            refine RG (MV rfl rfl (WR.call H (R_At_ct hx52) rfl trivial (Wn.none rfl) rfl ?_))
            intro v61 M w H hle hR
            replace hp0_2 := hp0_2.mono hle
            replace hc54 := hc54.mono hle
            try dsimp only at hR
            obtain rfl := hR
            refine WR.store [_, _] H rfl rfl rfl (by repeat first | exact .head | apply Upd.tail) Tryz.sizeOf27 rfl (by rfl) (by rfl) (Wn.none rfl) ?_
            intro w H
            refine NL (TN (RT ?_))
            obtain rfl := Option.some.inj e38
            try dsimp only at e18
            obtain rfl := Option.some.inj e18
            try dsimp only at h
            obtain rfl := Option.some.inj h
            exact WQ.ret1 rfl ⟨_, rfl, H.loadAgg (by repeat (first | exact List.Mem.head _ | apply List.Mem.tail)) Tryz.isAgg27 Tryz.sizeOf27 (by rfl)⟩ H.ext rfl
           ·
            subst hk49
            rw [if_neg Bool.false_ne_true] at e38
            refine SK (IB (TN ?_))
            obtain ⟨n53, hxn53, e38⟩ := bnd e38
            refine RG (MV rfl rfl (ST (Ex.addC rfl rfl hxn53) rfl (AS rfl rfl (NL ?_))))
            exact WQ.againP m44 [(1, _), (2, _), (3, _), (4, _), (5, _)] ⟨rfl, rfl, rfl, rfl, rfl, trivial⟩ ⟨_, _, _, _, rfl, H, hp0_2, e38⟩ (Nat.lt_succ_self _)
          ·
           replace hk45 : ¬ (n43 < n23) := of_decide_eq_false hk45
           rw [if_neg hk45] at e38
           refine WC.exit (WQ.thenExit (WQ.thenExit (WQ.exitHere ?_)))
           exact WQ.meetN [(1, _), (2, _), (3, _), (4, _)] ⟨rfl, rfl, rfl, rfl, trivial⟩ ⟨_, _, _, rfl, H, hp0_2, e38⟩
         ·
          rintro e w ⟨n39, n40, M, rfl, H, hp0_2, q54⟩
          obtain rfl := Option.some.inj q54
          try dsimp only at e18
          refine TN (SQ (SQ (RG (ST (Ex.fieldAddr Tryz.underlying47 rfl Tryz.sizeOf9 (by decide) rfl) rfl (ST (Ex.load1 H rfl (by repeat (first | exact List.Mem.head _ | apply List.Mem.tail)) Tryz.isAgg9 (by rfl)) rfl ?_)))))
          refine ST (Ex.lenStr Tryz.underlying9 rfl) rfl (ST (Ex.gtr rfl rfl) rfl (NL (TN ?_)))
          refine WC.condB rfl (fun hk55 => ?_) (fun hk55 => ?_)
          ·
           replace hk55 : (500 : Int) < (a26.2.length : Int) := of_decide_eq_true hk55
           rw [if_pos hk55] at e18
           refine SQ ?_
           obtain ⟨⟨n56, n57⟩, hx58, e18⟩ := bnd e18
           try dsimp only at e18
           refine RG (MV rfl rfl (WR.call H (R_At_ct hx58) rfl trivial (Wn.none rfl) rfl ?_))
           intro v67 M w H hle hR
           replace hp0_2 := hp0_2.mono hle
           try dsimp only at hR
           obtain rfl := hR
           refine WR.store [_, _] H rfl rfl rfl (by repeat first | exact .head | apply Upd.tail) Tryz.sizeOf27 rfl (by rfl) (by rfl) (Wn.none rfl) ?_
           intro w H
           refine NL (TN (RT ?_))
           obtain rfl := Option.some.inj e18
           try dsimp only at h
           obtain rfl := Option.some.inj h
           exact WQ.ret1 rfl ⟨_, rfl, H.loadAgg (by repeat (first | exact List.Mem.head _ | apply List.Mem.tail)) Tryz.isAgg27 Tryz.sizeOf27 (by rfl)⟩ H.ext rfl
          ·
           replace hk55 : ¬ ((500 : Int) < (a26.2.length : Int)) := of_decide_eq_false hk55
           rw [if_neg hk55] at e18
           refine SK (TN (SQ ?_))
           obtain ⟨b59, hx60, e18⟩ := bnd e18
           refine RG (ST (Ex.fieldAddr Tryz.underlying47 rfl Tryz.sizeOf9 (by decide) rfl) rfl (ST (Ex.load1 H rfl (by repeat (first | exact List.Mem.head _ | apply List.Mem.tail)) Tryz.isAgg9 (by rfl)) rfl ?_))
           refine WR.call H (R_Valid_ct hx60) rfl trivial (Wn.none rfl) rfl ?_
           intro v70 M w H hle hR
           replace hp0_2 := hp0_2.mono hle
           obtain rfl := hR
           refine ST (Ex.not rfl) rfl (NL (TN ?_))
           refine WC.condB rfl (fun hk61 => ?_) (fun hk61 => ?_)
           ·
            replace hk61 : b59 = false := by simpa using hk61
            subst hk61
            rw [if_neg Bool.false_ne_true] at e18
            refine SQ ?_
            obtain ⟨⟨n62, n63⟩, hx64, e18⟩ := bnd e18
            try dsimp only at e18
            refine RG (MV rfl rfl (WR.call H (R_At_ct hx64) rfl trivial (Wn.none rfl) rfl ?_))
            intro v73 M w H hle hR
            replace hp0_2 := hp0_2.mono hle
            try dsimp only at hR
            obtain rfl := hR
            refine WR.store [_, _] H rfl rfl rfl (by repeat first | exact .head | apply Upd.tail) Tryz.sizeOf27 rfl (by rfl) (by rfl) (Wn.none rfl) ?_
            intro w H
            refine NL (TN (RT ?_))
            obtain rfl := Option.some.inj e18
            try dsimp only at h
            obtain rfl := Option.some.inj h
            exact WQ.ret1 rfl ⟨_, rfl, H.loadAgg (by repeat (first | exact List.Mem.head _ | apply List.Mem.tail)) Tryz.isAgg27 Tryz.sizeOf27 (by rfl)⟩ H.ext rfl
           ·
            replace hk61 : b59 = true := by simpa using hk61
            subst hk61
            rw [if_pos rfl] at e18
            refine SK (IB (TN ?_))
            obtain ⟨n65, hxn65, e18⟩ := bnd e18
            refine RG (MV rfl rfl (ST (Ex.addC rfl rfl hxn65) rfl (AS rfl rfl (NL ?_))))
            exact WQ.againP m24 [(1, _), (2, _), (3, _)] ⟨rfl, rfl, rfl, trivial⟩ ⟨_, _, _, _, rfl, (H.pick (L' := [.blk bk1 (.cells #[S p0.1, S p0.2.1, vp0_2] 24), .blk bk2 (.cells #[I n39, I n40] 27)]) (by repeat (first | exact Pick.nil | refine Pick.cons (by repeat first | exact .head | apply Rem.tail) ?_))), hp0_2, e18⟩ (Nat.lt_succ_self _)
      ·
       replace hk25 : ¬ (n23 < (p0.2.2.length : Int)) := of_decide_eq_false hk25
       rw [if_neg hk25] at e18
       refine WC.exit (WQ.thenExit (WQ.thenExit (WQ.exitHere ?_)))
       exact WQ.meetN [(2, _)] ⟨rfl, trivial⟩ ⟨_, _, _, rfl, (H.pick (L' := [.blk bk2 (.cells #[I n21, I n22] 27)]) (by repeat (first | exact Pick.nil | refine Pick.cons (by repeat first | exact .head | apply Rem.tail) ?_))), e18⟩
     ·
      rintro e w ⟨n19, n20, M, rfl, H, q68⟩
      obtain rfl := Option.some.inj q68
      try dsimp only at h
      refine TN (SQ (RG (ST (Ex.build [I 0, I 0] Tryz.underlying27 Tryz.zeroValue27 (xplaces27 Tryz.underlying27) rfl rfl) rfl (WR.store [_, _] H rfl rfl rfl (by repeat first | exact .head | apply Upd.tail) Tryz.sizeOf27 rfl (by rfl) (by rfl) (Wn.none rfl) ?_))))
      intro w H
      refine NL (TN (RT ?_))
      obtain rfl := Option.some.inj h
      exact WQ.ret1 rfl ⟨_, rfl, H.loadAgg (by repeat (first | exact List.Mem.head _ | apply List.Mem.tail)) Tryz.isAgg27 Tryz.sizeOf27 (by rfl)⟩ H.ext rfl
theorem R_Quote_ct {p0 : List UInt8} {r : List UInt8} (h : R_Quote p0 = some r) : Ct Tryz.prog 53 [S p0] (fun M => True) (fun v M => v = S r) := by
  refine Ct.of Tryz.func53 (enters Tryz.func53 (by kernel_rfl) rfl) rfl rfl rfl ?_
  intro w0 M0 H hp
  unfold R_Quote at h
  refine SQ (RG (AS rfl rfl (NL (TN (SQ (RG (AS rfl rfl (NL (TN (SQ (SQ (RG (AS rfl rfl (NL (TN ?_)))))))))))))))
  obtain ⟨o1, e2, h⟩ := bnd h
  refine WC.cutX (fun e w => ∃ (s3 : List UInt8) (M : Mem), e = [(3, S s3)] ∧ St w0 M0 M [] w ∧ some s3 = some o1) [] ?_ ?_ (trivial)
  ·
   refine BL (WC.loopP (fun m e w => ∃ (s4 : List UInt8) (n5 : Int) (M : Mem), e = [(0, S p0), (3, S s4), (4, I n5)] ∧ St w0 M0 M [] w ∧ R_Quote_L1 p0 m s4 n5 = some o1) FU [(0, _), (3, _), (4, _)] ⟨rfl, rfl, rfl, trivial⟩ ⟨_, _, _, rfl, H, e2⟩ ?_)
   rintro m6 e w ⟨s4, n5, M, rfl, H, e2⟩
   rcases m6 with _ | m6
   · rw [R_Quote_L1] at e2; cases e2
   rw [R_Quote_L1] at e2
   refine SQ (SQ (RG (MV rfl rfl (MV rfl rfl (ST (Ex.lenStr Tryz.underlying9 rfl) rfl (ST (Ex.lss rfl rfl) rfl (NL (TN ?_))))))))
   refine WC.condB rfl (fun hk7 => ?_) (fun hk7 => ?_)
   ·
    replace hk7 : n5 < (p0.length : Int) := of_decide_eq_true hk7
    rw [if_pos hk7] at e2
    refine SK (TN (SQ (BL (SQ (SQ ?_)))))
    obtain ⟨o8, e9, e2⟩ := bnd e2
    refine WC.cutX (fun e w => ∃ (b10 : Bool) (M : Mem), e = [(0, S p0), (3, S s4), (4, I n5), (20, Value.bool b10)] ∧ St w0 M0 M [] w ∧ some b10 = some o8) [] ?_ ?_ (trivial)
    ·
     obtain ⟨c11, hxc11, e9⟩ := bnd e9
     refine RG (MV rfl rfl (MV rfl rfl (ST (Ex.idxStrC Tryz.underlying9 rfl rfl hxc11) rfl ?_)))
     by_cases hk12 : c11 = 34
     ·
      rw [if_pos hk12] at e9
      refine WR.stepE (v' := .bool true) (Ex.eqlB (c := c11) (d := 34) rfl rfl) (congrArg Value.bool (decide_eq_true hk12)) (Wn.none rfl) rfl rfl (MV rfl rfl (WR.skipN 4 rfl rfl (PT rfl rfl rfl (NL ?_))))
      exact WQ.meetN [(0, _), (3, _), (4, _), (20, _)] ⟨rfl, rfl, rfl, rfl, trivial⟩ ⟨_, _, rfl, H, e9⟩
     ·
      rw [if_neg hk12] at e9
      obtain ⟨c13, hxc13, e9⟩ := bnd e9
      refine WR.stepE (v' := .bool false) (Ex.eqlB (c := c11) (d := 34) rfl rfl) (congrArg Value.bool (decide_eq_false hk12)) (Wn.none rfl) rfl rfl (MV rfl rfl (SG (Ex.move rfl) rfl rfl rfl (SG (Ex.move rfl) rfl rfl rfl (SG (Ex.idxStrC Tryz.underlying9 rfl rfl hxc13) rfl rfl rfl (SG (Ex.eqlB (c := c13) (d := 92) rfl rfl) rfl rfl rfl (PF rfl rfl rfl (NL ?_)))))))
      exact WQ.meetN [(0, _), (3, _), (4, _), (20, _)] ⟨rfl, rfl, rfl, rfl, trivial⟩ ⟨_, _, rfl, H, e9⟩
    ·
     rintro e w ⟨b10, M, rfl, H, q14⟩
     obtain rfl := Option.some.inj q14
     refine TN ?_
     obtain ⟨o15, e16, e2⟩ := bnd e2
     refine WC.cutX (fun e w => ∃ (s17 : List UInt8) (M : Mem), e = [(0, S p0), (3, S s17), (4, I n5)] ∧ St w0 M0 M [] w ∧ some s17 = some o15) [] ?_ ?_ (trivial)
     ·
      refine WC.condB rfl (fun hk18 => ?_) (fun hk18 => ?_)
      ·
       subst hk18
       rw [if_pos rfl] at e16
       obtain ⟨s19, hxs19, e16⟩ := bnd e16
       refine RG (MV rfl rfl (ST (Ex.strAddC rfl rfl hxs19) rfl (AS rfl rfl (NL ?_))))
       exact WQ.meetN [(0, _), (3, _), (4, _)] ⟨rfl, rfl, rfl, trivial⟩ ⟨_, _, rfl, H, e16⟩
      ·
       subst hk18
       rw [if_neg Bool.false_ne_true] at e16
       refine SK ?_
       exact WQ.meetN [(0, _), (3, _), (4, _)] ⟨rfl, rfl, rfl, trivial⟩ ⟨_, _, rfl, H, e16⟩
     ·
      rintro e w ⟨s17, M, rfl, H, q20⟩
      obtain rfl := Option.some.inj q20
      refine TN ?_
      obtain ⟨n21, hxn21, e2⟩ := bnd e2
      obtain ⟨s22, hxs22, e2⟩ := bnd e2
      obtain ⟨s23, hxs23, e2⟩ := bnd e2
      refine RG (MV rfl rfl (MV rfl rfl (MV rfl rfl (MV rfl rfl (ST (Ex.addC rfl rfl hxn21) rfl (ST (Ex.sliceC Tryz.underlying9 rfl rfl rfl hxs22) rfl (ST (Ex.strAddC rfl rfl hxs23) rfl (AS rfl rfl (NL (IB (TN ?_)))))))))))
      obtain ⟨n24, hxn24, e2⟩ := bnd e2
      refine RG (MV rfl rfl (ST (Ex.addC rfl rfl hxn24) rfl (AS rfl rfl (NL ?_))))
      exact WQ.againP m6 [(0, _), (3, _), (4, _)] ⟨rfl, rfl, rfl, trivial⟩ ⟨_, _, _, rfl, H, e2⟩ (Nat.lt_succ_self _)
   ·
    replace hk7 : ¬ (n5 < (p0.length : Int)) := of_decide_eq_false hk7
    rw [if_neg hk7] at e2
    refine WC.exit (WQ.thenExit (WQ.thenExit (WQ.exitHere ?_)))
    exact WQ.meetN [(3, _)] ⟨rfl, trivial⟩ ⟨_, _, rfl, H, e2⟩
  ·
   rintro e w ⟨s3, M, rfl, H, q25⟩
   obtain rfl := Option.some.inj q25
   refine TN (SQ ?_)
   obtain ⟨s26, hxs26, h⟩ := bnd h
   refine RG (MV rfl rfl (ST (Ex.strAddC rfl rfl hxs26) rfl (AS rfl rfl (NL (TN (RT ?_))))))
   obtain rfl := Option.some.inj h
   exact WQ.ret1 rfl rfl H.ext rfl
theorem R_Two_ct {p0 : UInt8} {r : List UInt8} (h : R_Two p0 = some r) : Ct Tryz.prog 54 [encB p0] (fun M => True) (fun v M => v = S r) := by
  refine Ct.of Tryz.func54 (enters Tryz.func54 (by kernel_rfl) rfl) rfl rfl rfl ?_
  intro w0 M0 H hp
  unfold R_Two at h
  refine SQ (RG (AS rfl rfl (NL (TN (SQ ?_)))))
  obtain ⟨s1, hxs1, h⟩ := bnd h
  obtain ⟨s2, hxs2, h⟩ := bnd h
  obtain ⟨s3, hxs3, h⟩ := bnd h
  refine WC.draw (m := 14) rfl rfl H ?_
  intro w H
  refine WA.take (i := 0) rfl (by kernel_rfl) (by kernel_rfl) (by kernel_rfl) (fun _ => Ex.move rfl) (Wn.none rfl) rfl rfl (fun _ _ => rfl) (WA.take (i := 1) rfl (by kernel_rfl) (by kernel_rfl) (by kernel_rfl) (fun _ => Ex.divB (c := p0) (m := 16) rfl rfl (by decide)) (Wn.none rfl) rfl rfl (fun _ _ => rfl) (WA.take (i := 2) rfl (by kernel_rfl) (by kernel_rfl) (by kernel_rfl) (fun _ => Ex.move rfl) (Wn.none rfl) rfl rfl (fun _ _ => rfl) (WA.take (i := 3) rfl (by kernel_rfl) (by kernel_rfl) (by kernel_rfl) (fun _ => Ex.divB (c := p0) (m := 16) rfl rfl (by decide)) (Wn.none rfl) rfl rfl (fun _ _ => rfl) (WA.take (i := 4) rfl (by kernel_rfl) (by kernel_rfl) (by kernel_rfl) (fun _ => Ex.addB (c := (UInt8.ofNat (p0.toNat / 16))) (d := 1) rfl rfl) (Wn.none rfl) rfl rfl (fun _ _ => rfl) (WA.take (i := 5) rfl (by kernel_rfl) (by kernel_rfl) (by kernel_rfl) (fun _ => Ex.sliceCK Tryz.underlying9 rfl rfl rfl hxs1) (Wn.none rfl) rfl rfl (fun _ _ => rfl) ?_)))))
  refine WA.take (i := 6) rfl (by kernel_rfl) (by kernel_rfl) (by kernel_rfl) (fun _ => Ex.move rfl) (Wn.none rfl) rfl rfl (fun _ _ => rfl) (WA.take (i := 7) rfl (by kernel_rfl) (by kernel_rfl) (by kernel_rfl) (fun _ => Ex.modB (c := p0) (m := 16) rfl rfl (by decide)) (Wn.none rfl) rfl rfl (fun _ _ => rfl) (WA.seq (fuel := 0) [8, 9, 10, 11, 12, 13] rfl (by kernel_rfl) (MV rfl rfl (ST (Ex.modB (c := p0) (m := 16) rfl rfl (by decide)) rfl (ST (Ex.addB (c := (UInt8.ofNat (p0.toNat % 16))) (d := 1) rfl rfl) rfl (ST (Ex.sliceCK Tryz.underlying9 rfl rfl rfl hxs2) rfl (ST (Ex.strAddC rfl rfl hxs3) rfl (AS rfl rfl (NA (WA.done (by kernel_rfl) (TN (RT ?_))))))))))))
  obtain rfl := Option.some.inj h
  exact WQ.ret1 rfl rfl H.ext rfl
theorem R_decimal_B_ct {self : Int → Option (List UInt8)} (ih : ∀ {p0 : Int} {r : List UInt8}, self p0 = some r → Ct Tryz.prog 72 [Value.int .u64 p0] (fun M => True) (fun v M => v = S r)) {p0 : Int} {r : List UInt8} (h : R_decimal_B self p0 = some r) : Ct Tryz.prog 72 [Value.int .u64 p0] (fun M => True) (fun v M => v = S r) := by
  refine Ct.of Tryz.func72 (enters Tryz.func72 (by kernel_rfl) rfl) rfl rfl rfl ?_
  intro w0 M0 H hp
  unfold R_decimal_B at h
  refine SQ (RG (AS rfl rfl (NL (TN (SQ (SQ (RG (MV rfl rfl (ST (Ex.lss rfl rfl) rfl (NL (TN ?_)))))))))))
  refine WC.condB rfl (fun hk1 => ?_) (fun hk1 => ?_)
  ·
   replace hk1 : p0 < (10 : Int) := of_decide_eq_true hk1
   rw [if_pos hk1] at h
   refine SQ ?_
   obtain ⟨s2, hxs2, h⟩ := bnd h
   refine RG (MV rfl rfl (MV rfl rfl (ST (Ex.add rfl rfl) rfl (ST (Ex.sliceCK Tryz.underlying9 rfl rfl rfl hxs2) rfl (AS rfl rfl (NL (TN (RT ?_))))))))
   obtain rfl := Option.some.inj h
   exact WQ.ret1 rfl rfl H.ext rfl
  ·
   replace hk1 : ¬ (p0 < (10 : Int)) := of_decide_eq_false hk1
   rw [if_neg hk1] at h
   refine SK (TN (SQ ?_))
   obtain ⟨s3, hx4, h⟩ := bnd h
   obtain ⟨s5, hxs5, h⟩ := bnd h
   obtain ⟨s6, hxs6, h⟩ := bnd h
   refine WC.draw (m := 11) rfl rfl H ?_
   intro w H
   refine WA.take (i := 0) rfl (by kernel_rfl) (by kernel_rfl) (by kernel_rfl) (fun _ => Ex.move rfl) (Wn.none rfl) rfl rfl (fun _ _ => rfl) (WA.take (i := 1) rfl (by kernel_rfl) (by kernel_rfl) (by kernel_rfl) (fun _ => Ex.quoT rfl rfl (by decide)) (Wn.none rfl) rfl rfl (fun _ _ => rfl) (WA.take (i := 3) rfl (by kernel_rfl) (by kernel_rfl) (by kernel_rfl) (fun _ => Ex.move rfl) (Wn.none rfl) rfl rfl (fun _ _ => rfl) (WA.take (i := 4) rfl (by kernel_rfl) (by kernel_rfl) (by kernel_rfl) (fun _ => Ex.remT rfl rfl (by decide)) (Wn.none rfl) rfl rfl (fun _ _ => rfl) (WA.take (i := 5) rfl (by kernel_rfl) (by kernel_rfl) (by kernel_rfl) (fun _ => Ex.move rfl) (Wn.none rfl) rfl rfl (fun _ _ => rfl) (WA.take (i := 6) rfl (by kernel_rfl) (by kernel_rfl) (by kernel_rfl) (fun _ => Ex.remT rfl rfl (by decide)) (Wn.none rfl) rfl rfl (fun _ _ => rfl) (WA.take (i := 7) rfl (by kernel_rfl) (by kernel_rfl) (by kernel_rfl) (fun _ => Ex.add rfl rfl) (Wn.none rfl) rfl rfl (fun _ _ => rfl) ?_))))))
   refine WA.take (i := 8) rfl (by kernel_rfl) (by kernel_rfl) (by kernel_rfl) (fun _ => Ex.sliceCK Tryz.underlying9 rfl rfl rfl hxs5) (Wn.none rfl) rfl rfl (fun _ _ => rfl) (WA.seq (fuel := 0) [2, 9, 10] rfl (by kernel_rfl) (WR.call H (ih hx4) rfl trivial (Wn.none rfl) rfl ?_))
   intro v11 M w H hle hR
   obtain rfl := hR
   refine ST (Ex.strAddC rfl rfl hxs6) rfl (AS rfl rfl (NA (WA.done (by kernel_rfl) (TN (RT ?_)))))
   obtain rfl := Option.some.inj h
   exact WQ.ret1 rfl rfl H.ext rfl
theorem R_decimal_Rct : ∀ (m : Nat) {p0 : Int} {r : List UInt8}, R_decimal_R m p0 = some r → Ct Tryz.prog 72 [Value.int .u64 p0] (fun M => True) (fun v M => v = S r)
  | 0, _, _, h => by rw [R_decimal_R] at h; cases h
  | m + 1, _, _, h => R_decimal_B_ct (fun h => R_decimal_Rct m h) (by rw [R_decimal_R] at h; exact h)
theorem R_decimal_ct {p0 : Int} {r : List UInt8} (h : R_decimal p0 = some r) : Ct Tryz.prog 72 [Value.int .u64 p0] (fun M => True) (fun v M => v = S r) := R_decimal_Rct FU h
theorem R_Number_ct {p0 : Int} {r : List UInt8} (h : R_Number p0 = some r) : Ct Tryz.prog 55 [I p0] (fun M => True) (fun v M => v = S r) := by
  refine Ct.of Tryz.func55 (enters Tryz.func55 (by kernel_rfl) rfl) rfl rfl rfl ?_
  intro w0 M0 H hp
  unfold R_Number at h
  refine SQ (RG (AS rfl rfl (NL (TN (SQ (SQ (RG (MV rfl rfl (ST (Ex.lss rfl rfl) rfl (NL (TN ?_)))))))))))
  refine WC.condB rfl (fun hk1 => ?_) (fun hk1 => ?_)
  ·
   replace hk1 : p0 < (0 : Int) := of_decide_eq_true hk1
   rw [if_pos hk1] at h
   refine SQ ?_
   obtain ⟨n2, hxn2, h⟩ := bnd h
   obtain ⟨n3, hxn3, h⟩ := bnd h
   obtain ⟨s4, hx5, h⟩ := bnd h
   obtain ⟨s6, hxs6, h⟩ := bnd h
   refine RG (MV rfl rfl (ST (Ex.addC rfl rfl hxn2) rfl (ST (Ex.negC rfl hxn3) rfl (ST (Ex.conv Tryz.underlying3 Tryz.underlying96 rfl) rfl (ST (Ex.add rfl rfl) rfl (WR.call H (R_decimal_ct hx5) rfl trivial (Wn.none rfl) rfl ?_))))))
   intro v10 M w H hle hR
   obtain rfl := hR
   refine ST (Ex.strAddC rfl rfl hxs6) rfl (AS rfl rfl (NL (TN (RT ?_))))
   obtain rfl := Option.some.inj h
   exact WQ.ret1 rfl rfl H.ext rfl
  ·
   replace hk1 : ¬ (p0 < (0 : Int)) := of_decide_eq_false hk1
   rw [if_neg hk1] at h
   refine SK (TN (SQ ?_))
   obtain ⟨s7, hx8, h⟩ := bnd h
   refine RG (MV rfl rfl (ST (Ex.conv Tryz.underlying3 Tryz.underlying96 rfl) rfl (WR.call H (R_decimal_ct hx8) rfl trivial (Wn.none rfl) rfl ?_)))
   intro v14 M w H hle hR
   obtain rfl := hR
   refine AS rfl rfl (NL (TN (RT ?_)))
   obtain rfl := Option.some.inj h
   exact WQ.ret1 rfl rfl H.ext rfl
theorem R_ParamText_ct {p0 : (List UInt8 × List UInt8)} {r : List UInt8} (h : R_ParamText p0 = some r) : Ct Tryz.prog 33 [Value.agg #[S p0.1, S p0.2]] (fun M => True) (fun v M => v = S r) := by
  refine Ct.of Tryz.func33 (enters Tryz.func33 (by kernel_rfl) rfl) rfl rfl rfl ?_
  intro w0 M0 H hp
  unfold R_ParamText at h
  refine SQ (RG (WR.box [_, _] H rfl rfl (Wn.none rfl) rfl ?_))
  intro bk1 w H
  refine AS rfl rfl (NL (TN (SQ (SQ ?_))))
  obtain ⟨b1, hx2, h⟩ := bnd h
  refine RG (ST (Ex.fieldAddr Tryz.underlying47 rfl Tryz.sizeOf9 (by decide) rfl) rfl (ST (Ex.load1 H rfl (by repeat (first | exact List.Mem.head _ | apply List.Mem.tail)) Tryz.isAgg9 (by rfl)) rfl ?_))
  refine WR.call H (R_TokenText_ct hx2) rfl trivial (Wn.none rfl) rfl ?_
  intro v12 M w H hle hR
  obtain rfl := hR
  refine NL (TN ?_)
  refine WC.condB rfl (fun hk3 => ?_) (fun hk3 => ?_)
  ·
   subst hk3
   rw [if_pos rfl] at h
   refine SQ ?_
   obtain ⟨s4, hxs4, h⟩ := bnd h
   obtain ⟨s5, hxs5, h⟩ := bnd h
   obtain ⟨s6, hxs6, h⟩ := bnd h
   refine RG (ST (Ex.fieldAddr Tryz.underlying47 rfl Tryz.sizeOf9 (by decide) rfl) rfl (ST (Ex.load1 H rfl (by repeat (first | exact List.Mem.head _ | apply List.Mem.tail)) Tryz.isAgg9 (by rfl)) rfl ?_))
   refine ST (Ex.strAddC rfl rfl hxs4) rfl (ST (Ex.strAddC rfl rfl hxs5) rfl (ST (Ex.fieldAddr Tryz.underlying47 rfl Tryz.sizeOf9 (by decide) rfl) rfl (ST (Ex.load1 H rfl (by repeat (first | exact List.Mem.head _ | apply List.Mem.tail)) Tryz.isAgg9 (by rfl)) rfl ?_)))
   refine ST (Ex.strAddC rfl rfl hxs6) rfl (AS rfl rfl (NL (TN (RT ?_))))
   obtain rfl := Option.some.inj h
   exact WQ.ret1 rfl rfl H.ext rfl
  ·
   subst hk3
   rw [if_neg Bool.false_ne_true] at h
   refine SK (TN (SQ (RG (ST (Ex.fieldAddr Tryz.underlying47 rfl Tryz.sizeOf9 (by decide) rfl) rfl (ST (Ex.load1 H rfl (by repeat (first | exact List.Mem.head _ | apply List.Mem.tail)) Tryz.isAgg9 (by rfl)) rfl ?_)))))
   refine ST (Ex.lenStr Tryz.underlying9 rfl) rfl (ST (Ex.leq rfl rfl) rfl (AS rfl rfl (NL (TN (SQ (SQ (RG (AS rfl rfl (NL (TN ?_))))))))))
   obtain ⟨o7, e8, h⟩ := bnd h
   refine WC.cutX (fun e w => ∃ (b9 : Bool) (M : Mem), e = [(1, ptr bk1 0), (3, Value.bool b9)] ∧ St w0 M0 M [.blk bk1 (.cells #[S p0.1, S p0.2] 47)] w ∧ some b9 = some o7) [] ?_ ?_ (trivial)
   ·
    refine BL (WC.loopP (fun m e w => ∃ (b10 : Bool) (n11 : Int) (M : Mem), e = [(1, ptr bk1 0), (3, Value.bool b10), (4, I n11)] ∧ St w0 M0 M [.blk bk1 (.cells #[S p0.1, S p0.2] 47)] w ∧ R_ParamText_L1 p0 m b10 n11 = some o7) FU [(1, _), (3, _), (4, _)] ⟨rfl, rfl, rfl, trivial⟩ ⟨_, _, _, rfl, H, e8⟩ ?_)
    rintro m12 e w ⟨b10, n11, M, rfl, H, e8⟩
    rcases m12 with _ | m12
    · rw [R_ParamText_L1] at e8; cases e8
    rw [R_ParamText_L1] at e8
    refine SQ (SQ (RG (MV rfl rfl (ST (Ex.fieldAddr Tryz.underlying47 rfl Tryz.sizeOf9 (by decide) rfl) rfl (ST (Ex.load1 H rfl (by repeat (first | exact List.Mem.head _ | apply List.Mem.tail)) Tryz.isAgg9 (by rfl)) rfl ?_)))))
    refine ST (Ex.lenStr Tryz.underlying9 rfl) rfl (ST (Ex.lss rfl rfl) rfl (NL (TN ?_)))
    refine WC.condB rfl (fun hk13 => ?_) (fun hk13 => ?_)
    ·
     replace hk13 : n11 < (p0.2.length : Int) := of_decide_eq_true hk13
     rw [if_pos hk13] at e8
     refine SK (TN (SQ (BL ?_)))
     obtain ⟨o14, e15, e8⟩ := bnd e8
     refine WC.cutX (fun e w => ∃ (b16 : Bool) (M : Mem), e = [(1, ptr bk1 0), (3, Value.bool b16), (4, I n11)] ∧ St w0 M0 M [.blk bk1 (.cells #[S p0.1, S p0.2] 47)] w ∧ some b16 = some o14) [] ?_ ?_ (trivial)
     ·
      refine RG (MV rfl rfl (MV rfl rfl ?_))
      rcases b10 with _ | _
      ·
       rw [if_neg Bool.false_ne_true] at e15
       refine WR.skipN 6 rfl rfl (PF rfl rfl rfl (AS rfl rfl (NL ?_)))
       exact WQ.meetN [(1, _), (3, _), (4, _)] ⟨rfl, rfl, rfl, trivial⟩ ⟨_, _, rfl, H, e15⟩
      ·
       rw [if_pos rfl] at e15
       obtain ⟨c17, hxc17, e15⟩ := bnd e15
       obtain ⟨b18, hx19, e15⟩ := bnd e15
       refine SG (Ex.fieldAddr Tryz.underlying47 rfl Tryz.sizeOf9 (by decide) rfl) rfl rfl rfl (SG (Ex.load1 H rfl (by repeat (first | exact List.Mem.head _ | apply List.Mem.tail)) Tryz.isAgg9 (by rfl)) rfl rfl rfl ?_)
       refine SG (Ex.move rfl) rfl rfl rfl (SG (Ex.idxStrC Tryz.underlying9 rfl rfl hxc17) rfl rfl rfl (SG (Ex.convB Tryz.underlying5 Tryz.underlying3 rfl) rfl rfl rfl (WR.call H (R_In_ct hx19) rfl trivial (Wn.some rfl rfl rfl) rfl ?_)))
       intro v38 M w H hle hR
       obtain rfl := hR
       refine PT rfl rfl rfl (AS rfl rfl (NL ?_))
       exact WQ.meetN [(1, _), (3, _), (4, _)] ⟨rfl, rfl, rfl, trivial⟩ ⟨_, _, rfl, H, e15⟩
     ·
      rintro e w ⟨b16, M, rfl, H, q20⟩
      obtain rfl := Option.some.inj q20
      refine IB (TN ?_)
      obtain ⟨n21, hxn21, e8⟩ := bnd e8
      refine RG (MV rfl rfl (ST (Ex.addC rfl rfl hxn21) rfl (AS rfl rfl (NL ?_))))
      exact WQ.againP m12 [(1, _), (3, _), (4, _)] ⟨rfl, rfl, rfl, trivial⟩ ⟨_, _, _, rfl, H, e8⟩ (Nat.lt_succ_self _)
    ·
     replace hk13 : ¬ (n11 < (p0.2.length : Int)) := of_decide_eq_false hk13
     rw [if_neg hk13] at e8
     refine WC.exit (WQ.thenExit (WQ.thenExit (WQ.exitHere ?_)))
     exact WQ.meetN [(1, _), (3, _)] ⟨rfl, rfl, trivial⟩ ⟨_, _, rfl, H, e8⟩
   ·
    rintro e w ⟨b9, M, rfl, H, q22⟩
    obtain rfl := Option.some.inj q22
    refine TN (SQ (SQ (RG (MV rfl rfl (NL (TN ?_))))))
    refine WC.condB rfl (fun hk23 => ?_) (fun hk23 => ?_)
    ·
     subst hk23
     rw [if_pos rfl] at h
     refine SQ ?_
     obtain ⟨s24, hxs24, h⟩ := bnd h
     obtain ⟨s25, hxs25, h⟩ := bnd h
     obtain ⟨s26, hx27, h⟩ := bnd h
     obtain ⟨s28, hxs28, h⟩ := bnd h
     refine WC.sub (e' := [(1, _)]) ⟨rfl, trivial⟩ (WC.draw (m := 9) rfl rfl H ?_)
     intro w H
     refine WA.conf (c := 9) [(41, ptr bk1 0, []), (42, S p0.1, [0]), (43, S s24, [1]), (44, S s25, [2]), (45, ptr bk1 1, []), (46, S p0.2, [4]), (47, S s26, [5]), (48, S s28, [3, 6]), (2, S s28, [7])] rfl rfl (by kernel_rfl) rfl rfl H ⟨⟨_, rfl, fun E w M H hle Qk kk => ?_⟩, ⟨_, rfl, fun E w M H hle Qk kk => ?_⟩, ⟨_, rfl, fun E w M H hle Qk kk => ?_⟩, ⟨_, rfl, fun E w M H hle Qk kk => ?_⟩, ⟨_, rfl, fun E w M H hle Qk kk => ?_⟩, ⟨_, rfl, fun E w M H hle Qk kk => ?_⟩, ⟨_, rfl, fun E w M H hle Qk kk => ?_⟩, ⟨_, rfl, fun E w M H hle Qk kk => ?_⟩, ⟨_, rfl, fun E w M H hle Qk kk => ?_⟩, trivial⟩ ?_
     ·
      refine ST (Ex.fieldAddr Tryz.underlying47 rfl Tryz.sizeOf9 (by decide) rfl) rfl ?_
      exact WR.nil (kk _ _ H (Mem.le.refl _))
     ·
      refine ST (Ex.load1 H rfl (by repeat (first | exact List.Mem.head _ | apply List.Mem.tail)) Tryz.isAgg9 (by rfl)) rfl ?_
      exact WR.nil (kk _ _ H (Mem.le.refl _))
     ·
      refine ST (Ex.strAddC rfl rfl hxs24) rfl ?_
      exact WR.nil (kk _ _ H (Mem.le.refl _))
     ·
      refine ST (Ex.strAddC rfl rfl hxs25) rfl ?_
      exact WR.nil (kk _ _ H (Mem.le.refl _))
     ·
      refine ST (Ex.fieldAddr Tryz.underlying47 rfl Tryz.sizeOf9 (by decide) rfl) rfl ?_
      exact WR.nil (kk _ _ H (Mem.le.refl _))
     ·
      refine ST (Ex.load1 H rfl (by repeat (first | exact List.Mem.head _ | apply List.Mem.tail)) Tryz.isAgg9 (by rfl)) rfl ?_
      exact WR.nil (kk _ _ H (Mem.le.refl _))
     ·
      refine WR.call H (R_Quote_ct hx27) rfl trivial (Wn.none rfl) rfl ?_
      intro v47 M w H hle hR
      obtain rfl := hR
      exact WR.nil (kk _ _ H hle)
     ·
      refine ST (Ex.strAddC rfl rfl hxs28) rfl ?_
      exact WR.nil (kk _ _ H (Mem.le.refl _))
     ·
      refine AS rfl rfl ?_
      exact WR.nil (kk _ _ H (Mem.le.refl _))
     ·
      intro w M H hle
      refine WA.done (by kernel_rfl) (TN (RT ?_))
      obtain rfl := Option.some.inj h
      exact WQ.ret1 rfl rfl H.ext rfl
    ·
     subst hk23
     rw [if_neg Bool.false_ne_true] at h
     refine SK (TN (SQ (RG (AS rfl rfl (NL (TN (SQ (RG (AS rfl rfl (NL (TN (SQ (RG (AS rfl rfl (NL (TN (SQ (SQ (RG (AS rfl rfl (NL (TN ?_))))))))))))))))))))))
     obtain ⟨o29, e30, h⟩ := bnd h
     refine WC.cutX (fun e w => ∃ (s31 : List UInt8) (s32 : List UInt8) (n33 : Int) (M : Mem), e = [(1, ptr bk1 0), (5, S s31), (6, S s32), (7, I n33)] ∧ St w0 M0 M [.blk bk1 (.cells #[S p0.1, S p0.2] 47)] w ∧ some (s31, s32, n33) = some o29) [] ?_ ?_ (trivial)
     ·
      refine BL (WC.loopP (fun m e w => ∃ (s34 : List UInt8) (s35 : List UInt8) (n36 : Int) (n37 : Int) (M : Mem), e = [(1, ptr bk1 0), (5, S s34), (6, S s35), (7, I n36), (8, I n37)] ∧ St w0 M0 M [.blk bk1 (.cells #[S p0.1, S p0.2] 47)] w ∧ R_ParamText_L2 p0 m s34 s35 n36 n37 = some o29) FU [(1, _), (5, _), (6, _), (7, _), (8, _)] ⟨rfl, rfl, rfl, rfl, rfl, trivial⟩ ⟨_, _, _, _, _, rfl, H, e30⟩ ?_)
      rintro m38 e w ⟨s34, s35, n36, n37, M, rfl, H, e30⟩
      rcases m38 with _ | m38
      · rw [R_ParamText_L2] at e30; cases e30
      rw [R_ParamText_L2] at e30
      refine SQ (SQ (RG (MV rfl rfl (ST (Ex.fieldAddr Tryz.underlying47 rfl Tryz.sizeOf9 (by decide) rfl) rfl (ST (Ex.load1 H rfl (by repeat (first | exact List.Mem.head _ | apply List.Mem.tail)) Tryz.isAgg9 (by rfl)) rfl ?_)))))
      refine ST (Ex.lenStr Tryz.underlying9 rfl) rfl (ST (Ex.lss rfl rfl) rfl (NL (TN ?_)))
      refine WC.condB rfl (fun hk39 => ?_) (fun hk39 => ?_)
      ·
       replace hk39 : n37 < (p0.2.length : Int) := of_decide_eq_true hk39
       rw [if_pos hk39] at e30
       refine SK (TN (SQ (BL (SQ ?_))))
       obtain ⟨c40, hxc40, e30⟩ := bnd e30
       obtain ⟨s41, hx42, e30⟩ := bnd e30
       obtain ⟨s43, hxs43, e30⟩ := bnd e30
       refine RG (ST (Ex.fieldAddr Tryz.underlying47 rfl Tryz.sizeOf9 (by decide) rfl) rfl (ST (Ex.load1 H rfl (by repeat (first | exact List.Mem.head _ | apply List.Mem.tail)) Tryz.isAgg9 (by rfl)) rfl ?_))
       refine MV rfl rfl (ST (Ex.idxStrC Tryz.underlying9 rfl rfl hxc40) rfl (WR.call H (R_Two_ct hx42) rfl trivial (Wn.none rfl) rfl ?_))
       intro v60 M w H hle hR
       obtain rfl := hR
       refine ST (Ex.strAddC rfl rfl hxs43) rfl (AS rfl rfl (NL (TN (SQ (SQ ?_)))))
       obtain ⟨c44, hxc44, e30⟩ := bnd e30
       obtain ⟨b45, hx46, e30⟩ := bnd e30
       refine RG (ST (Ex.fieldAddr Tryz.underlying47 rfl Tryz.sizeOf9 (by decide) rfl) rfl (ST (Ex.load1 H rfl (by repeat (first | exact List.Mem.head _ | apply List.Mem.tail)) Tryz.isAgg9 (by rfl)) rfl ?_))
       refine MV rfl rfl (ST (Ex.idxStrC Tryz.underlying9 rfl rfl hxc44) rfl (WR.call H (R_TokenByte_ct hx46) rfl trivial (Wn.none rfl) rfl ?_))
       intro v66 M w H hle hR
       obtain rfl := hR
       refine NL (TN ?_)
       obtain ⟨o47, e48, e30⟩ := bnd e30
       refine WC.cutX (fun e w => ∃ (s49 : List UInt8) (M : Mem), e = [(1, ptr bk1 0), (5, S s34), (6, S s35), (7, I n36), (8, I n37), (9, S s49)] ∧ St w0 M0 M [.blk bk1 (.cells #[S p0.1, S p0.2] 47)] w ∧ some s49 = some o47) [] ?_ ?_ (trivial)
       ·
        refine WC.condB rfl (fun hk50 => ?_) (fun hk50 => ?_)
        ·
         subst hk50
         rw [if_pos rfl] at e48
         obtain ⟨n51, hxn51, e48⟩ := bnd e48
         obtain ⟨s52, hxs52, e48⟩ := bnd e48
         refine RG (ST (Ex.fieldAddr Tryz.underlying47 rfl Tryz.sizeOf9 (by decide) rfl) rfl (ST (Ex.load1 H rfl (by repeat (first | exact List.Mem.head _ | apply List.Mem.tail)) Tryz.isAgg9 (by rfl)) rfl ?_))
         refine MV rfl rfl (MV rfl rfl (ST (Ex.addC rfl rfl hxn51) rfl (ST (Ex.sliceC Tryz.underlying9 rfl rfl rfl hxs52) rfl (AS rfl rfl (NL ?_)))))
         exact WQ.meetN [(1, _), (5, _), (6, _), (7, _), (8, _), (9, _)] ⟨rfl, rfl, rfl, rfl, rfl, rfl, trivial⟩ ⟨_, _, rfl, H, e48⟩
        ·
         subst hk50
         rw [if_neg Bool.false_ne_true] at e48
         refine SK ?_
         exact WQ.meetN [(1, _), (5, _), (6, _), (7, _), (8, _), (9, _)] ⟨rfl, rfl, rfl, rfl, rfl, rfl, trivial⟩ ⟨_, _, rfl, H, e48⟩
       ·
        rintro e w ⟨s49, M, rfl, H, q53⟩
        obtain rfl := Option.some.inj q53
        refine TN (SQ (SQ ?_))
        obtain ⟨n54, hxn54, e30⟩ := bnd e30
        refine RG (MV rfl rfl (ST (Ex.lenStr Tryz.underlying9 rfl) rfl (MV rfl rfl (ST (Ex.lenStr Tryz.underlying9 rfl) rfl (ST (Ex.addC rfl rfl hxn54) rfl (ST (Ex.gtr rfl rfl) rfl (NL (TN ?_))))))))
        obtain ⟨o55, e56, e30⟩ := bnd e30
        refine WC.cutX (fun e w => ∃ (s57 : List UInt8) (s58 : List UInt8) (n59 : Int) (M : Mem), e = [(1, ptr bk1 0), (5, S s57), (6, S s58), (7, I n59), (8, I n37), (9, S s49)] ∧ St w0 M0 M [.blk bk1 (.cells #[S p0.1, S p0.2] 47)] w ∧ some (s57, s58, n59) = some o55) [] ?_ ?_ (trivial)
        ·
         refine WC.condB rfl (fun hk60 => ?_) (fun hk60 => ?_)
         ·
          replace hk60 : (60 : Int) < n54 := of_decide_eq_true hk60
          rw [if_pos hk60] at e56
          refine SQ ?_
          obtain ⟨s61, hxs61, e56⟩ := bnd e56
          obtain ⟨s62, hxs62, e56⟩ := bnd e56
          obtain ⟨s63, hxs63, e56⟩ := bnd e56
          obtain ⟨s64, hx65, e56⟩ := bnd e56
          obtain ⟨s66, hxs66, e56⟩ := bnd e56
          obtain ⟨s67, hxs67, e56⟩ := bnd e56
          obtain ⟨s68, hxs68, e56⟩ := bnd e56
          refine WC.cutP (fun e w => ∃  (M : Mem), e = [(1, ptr bk1 0), (5, S s68), (7, I n36), (8, I n37), (9, S s49)] ∧ St w0 M0 M [.blk bk1 (.cells #[S p0.1, S p0.2] 47)] w) ?_ ?_
          ·
           refine WC.draw (m := 13) rfl rfl H ?_
           intro w H
           refine WA.take (i := 0) rfl (by kernel_rfl) (by kernel_rfl) (by kernel_rfl) (fun _ => Ex.move rfl) (Wn.none rfl) rfl rfl (fun _ _ => rfl) (WA.take (i := 1) rfl (by kernel_rfl) (by kernel_rfl) (by kernel_rfl) (fun _ => Ex.strAddC rfl rfl hxs61) (Wn.none rfl) rfl rfl (fun _ _ => rfl) (WA.take (i := 2) rfl (by kernel_rfl) (by kernel_rfl) (by kernel_rfl) (fun _ => Ex.fieldAddr Tryz.underlying47 rfl Tryz.sizeOf9 (by decide) rfl) (Wn.none rfl) rfl rfl (fun _ _ => rfl) (WA.take (i := 6) rfl (by kernel_rfl) (by kernel_rfl) (by kernel_rfl) (fun _ => Ex.move rfl) (Wn.none rfl) rfl rfl (fun _ _ => rfl) (WA.take (i := 10) rfl (by kernel_rfl) (by kernel_rfl) (by kernel_rfl) (fun _ => Ex.move rfl) (Wn.none rfl) rfl rfl (fun _ _ => rfl) ?_))))
           refine WA.two (i := 3) (j := 7) (by kernel_rfl) rfl rfl ?_ ?_
           ·
            refine ST (Ex.load1 H rfl (by repeat (first | exact List.Mem.head _ | apply List.Mem.tail)) Tryz.isAgg9 (by rfl)) rfl ?_
            refine NA (WA.take (i := 4) rfl (by kernel_rfl) (by kernel_rfl) (by kernel_rfl) (fun _ => Ex.strAddC rfl rfl hxs62) (Wn.none rfl) rfl rfl (fun _ _ => rfl) (WA.take (i := 5) rfl (by kernel_rfl) (by kernel_rfl) (by kernel_rfl) (fun _ => Ex.strAddC rfl rfl hxs63) (Wn.none rfl) rfl rfl (fun _ _ => rfl) (WA.seq (fuel := 0) [7, 8, 9, 11, 12] rfl (by kernel_rfl) (WR.call H (R_Number_ct hx65) rfl trivial (Wn.none rfl) rfl ?_))))
            intro v86 M w H hle hR
            obtain rfl := hR
            refine ST (Ex.strAddC rfl rfl hxs66) rfl (ST (Ex.strAddC rfl rfl hxs67) rfl (ST (Ex.strAddC rfl rfl hxs68) rfl (AS rfl rfl (NA (WA.done (by kernel_rfl) ?_)))))
            exact WQ.meetP [(1, _), (5, _), (7, _), (8, _), (9, _)] ⟨rfl, rfl, rfl, rfl, rfl, trivial⟩ ⟨_, rfl, H⟩
           ·
            refine WR.call H (R_Number_ct hx65) rfl trivial (Wn.none rfl) rfl ?_
            intro v86 M w H hle hR
            obtain rfl := hR
            refine NA (WA.seq (fuel := 0) [3, 4, 5, 8, 9, 11, 12] rfl (by kernel_rfl) (ST (Ex.load1 H rfl (by repeat (first | exact List.Mem.head _ | apply List.Mem.tail)) Tryz.isAgg9 (by rfl)) rfl ?_))
            refine ST (Ex.strAddC rfl rfl hxs62) rfl (ST (Ex.strAddC rfl rfl hxs63) rfl (ST (Ex.strAddC rfl rfl hxs66) rfl (ST (Ex.strAddC rfl rfl hxs67) rfl (ST (Ex.strAddC rfl rfl hxs68) rfl (AS rfl rfl (NA (WA.done (by kernel_rfl) ?_)))))))
            exact WQ.meetP [(1, _), (5, _), (7, _), (8, _), (9, _)] ⟨rfl, rfl, rfl, rfl, rfl, trivial⟩ ⟨_, rfl, H⟩
          ·
           rintro e w ⟨M, rfl, H⟩
           refine TN (SQ ?_)
           obtain ⟨n69, hxn69, e56⟩ := bnd e56
           refine RG (MV rfl rfl (ST (Ex.addC rfl rfl hxn69) rfl (AS rfl rfl (NL (TN (RG (AS rfl rfl (NL ?_))))))))
           exact WQ.meetN [(1, _), (5, _), (6, _), (7, _), (8, _), (9, _)] ⟨rfl, rfl, rfl, rfl, rfl, rfl, trivial⟩ ⟨_, _, _, _, rfl, H, e56⟩
         ·
          replace hk60 : ¬ ((60 : Int) < n54) := of_decide_eq_false hk60
          rw [if_neg hk60] at e56
          refine SK ?_
          exact WQ.meetN [(1, _), (5, _), (6, _), (7, _), (8, _), (9, _)] ⟨rfl, rfl, rfl, rfl, rfl, rfl, trivial⟩ ⟨_, _, _, _, rfl, H, e56⟩
        ·
         rintro e w ⟨s57, s58, n59, M, rfl, H, q70⟩
         obtain rfl := Option.some.inj q70
         try dsimp only at e30
         refine TN ?_
         obtain ⟨s71, hxs71, e30⟩ := bnd e30
         refine RG (MV rfl rfl (MV rfl rfl (ST (Ex.strAddC rfl rfl hxs71) rfl (AS rfl rfl (NL (IB (TN ?_)))))))
         obtain ⟨n72, hxn72, e30⟩ := bnd e30
         refine RG (MV rfl rfl (ST (Ex.addC rfl rfl hxn72) rfl (AS rfl rfl (NL ?_))))
         exact WQ.againP m38 [(1, _), (5, _), (6, _), (7, _), (8, _)] ⟨rfl, rfl, rfl, rfl, rfl, trivial⟩ ⟨_, _, _, _, _, rfl, H, e30⟩ (Nat.lt_succ_self _)
      ·
       replace hk39 : ¬ (n37 < (p0.2.length : Int)) := of_decide_eq_false hk39
       rw [if_neg hk39] at e30
       refine WC.exit (WQ.thenExit (WQ.thenExit (WQ.exitHere ?_)))
       exact WQ.meetN [(1, _), (5, _), (6, _), (7, _)] ⟨rfl, rfl, rfl, rfl, trivial⟩ ⟨_, _, _, _, rfl, H, e30⟩
     ·
      rintro e w ⟨s31, s32, n33, M, rfl, H, q73⟩
      obtain rfl := Option.some.inj q73
      try dsimp only at h
      refine TN (SQ ?_)
      obtain ⟨s74, hxs74, h⟩ := bnd h
      obtain ⟨s75, hxs75, h⟩ := bnd h
      obtain ⟨s76, hxs76, h⟩ := bnd h
      obtain ⟨s77, hx78, h⟩ := bnd h
      obtain ⟨s79, hxs79, h⟩ := bnd h
      obtain ⟨s80, hxs80, h⟩ := bnd h
      obtain ⟨s81, hxs81, h⟩ := bnd h
      refine WC.cutP (fun e w => ∃  (M : Mem), e = [(2, S s81)] ∧ St w0 M0 M [] w) ?_ ?_
      ·
       refine WC.draw (m := 13) rfl rfl H ?_
       intro w H
       refine WA.take (i := 0) rfl (by kernel_rfl) (by kernel_rfl) (by kernel_rfl) (fun _ => Ex.move rfl) (Wn.none rfl) rfl rfl (fun _ _ => rfl) (WA.take (i := 1) rfl (by kernel_rfl) (by kernel_rfl) (by kernel_rfl) (fun _ => Ex.strAddC rfl rfl hxs74) (Wn.none rfl) rfl rfl (fun _ _ => rfl) (WA.take (i := 2) rfl (by kernel_rfl) (by kernel_rfl) (by kernel_rfl) (fun _ => Ex.fieldAddr Tryz.underlying47 rfl Tryz.sizeOf9 (by decide) rfl) (Wn.none rfl) rfl rfl (fun _ _ => rfl) (WA.take (i := 6) rfl (by kernel_rfl) (by kernel_rfl) (by kernel_rfl) (fun _ => Ex.move rfl) (Wn.none rfl) rfl rfl (fun _ _ => rfl) (WA.take (i := 10) rfl (by kernel_rfl) (by kernel_rfl) (by kernel_rfl) (fun _ => Ex.move rfl) (Wn.none rfl) rfl rfl (fun _ _ => rfl) ?_))))
       refine WA.two (i := 3) (j := 7) (by kernel_rfl) rfl rfl ?_ ?_
       ·
        refine ST (Ex.load1 H rfl (by repeat (first | exact List.Mem.head _ | apply List.Mem.tail)) Tryz.isAgg9 (by rfl)) rfl ?_
        refine NA (WA.take (i := 4) rfl (by kernel_rfl) (by kernel_rfl) (by kernel_rfl) (fun _ => Ex.strAddC rfl rfl hxs75) (Wn.none rfl) rfl rfl (fun _ _ => rfl) (WA.take (i := 5) rfl (by kernel_rfl) (by kernel_rfl) (by kernel_rfl) (fun _ => Ex.strAddC rfl rfl hxs76) (Wn.none rfl) rfl rfl (fun _ _ => rfl) (WA.seq (fuel := 0) [7, 8, 9, 11, 12] rfl (by kernel_rfl) (WR.call H (R_Number_ct hx78) rfl trivial (Wn.none rfl) rfl ?_))))
        intro v103 M w H hle hR
        obtain rfl := hR
        refine ST (Ex.strAddC rfl rfl hxs79) rfl (ST (Ex.strAddC rfl rfl hxs80) rfl (ST (Ex.strAddC rfl rfl hxs81) rfl (AS rfl rfl (NA (WA.done (by kernel_rfl) ?_)))))
        exact WQ.meetP [(2, _)] ⟨rfl, trivial⟩ ⟨_, rfl, (H.pick (L' := []) (by repeat (first | exact Pick.nil | refine Pick.cons (by repeat first | exact .head | apply Rem.tail) ?_)))⟩
       ·
        refine WR.call H (R_Number_ct hx78) rfl trivial (Wn.none rfl) rfl ?_
        intro v103 M w H hle hR
        obtain rfl := hR
        refine NA (WA.seq (fuel := 0) [3, 4, 5, 8, 9, 11, 12] rfl (by kernel_rfl) (ST (Ex.load1 H rfl (by repeat (first | exact List.Mem.head _ | apply List.Mem.tail)) Tryz.isAgg9 (by rfl)) rfl ?_))
        refine ST (Ex.strAddC rfl rfl hxs75) rfl (ST (Ex.strAddC rfl rfl hxs76) rfl (ST (Ex.strAddC rfl rfl hxs79) rfl (ST (Ex.strAddC rfl rfl hxs80) rfl (ST (Ex.strAddC rfl rfl hxs81) rfl (AS rfl rfl (NA (WA.done (by kernel_rfl) ?_)))))))
        exact WQ.meetP [(2, _)] ⟨rfl, trivial⟩ ⟨_, rfl, (H.pick (L' := []) (by repeat (first | exact Pick.nil | refine Pick.cons (by repeat first | exact .head | apply Rem.tail) ?_)))⟩
      ·
       rintro e w ⟨M, rfl, H⟩
       refine TN (RT ?_)
       obtain rfl := Option.some.inj h
       exact WQ.ret1 rfl rfl H.ext rfl
theorem R_MediaText_ct {p0 : (List UInt8 × List UInt8 × List (List UInt8 × List UInt8))} {vp0_2 : Value} {r : List UInt8} (h : R_MediaText p0 = some r) : Ct Tryz.prog 13 [Value.agg #[S p0.1, S p0.2.1, vp0_2]] (fun M => SlS M 2 xenc47 vp0_2 p0.2.2) (fun v M => v = S r) := by
  refine Ct.of Tryz.func13 (enters Tryz.func13 (by kernel_rfl) rfl) rfl rfl rfl ?_
  intro w0 M0 H hp
  have hp0_2 := hp
  unfold R_MediaText at h
  refine SQ (RG (WR.box [_, _, _] H rfl rfl (Wn.none rfl) rfl ?_))
  intro bk1 w H
  refine AS rfl rfl (NL (TN (SQ ?_)))
  obtain ⟨s1, hxs1, h⟩ := bnd h
  obtain ⟨s2, hxs2, h⟩ := bnd h
  refine RG (ST (Ex.fieldAddr Tryz.underlying24 rfl Tryz.sizeOf9 (by decide) rfl) rfl (ST (Ex.load1 H rfl (by repeat (first | exact List.Mem.head _ | apply List.Mem.tail)) Tryz.isAgg9 (by rfl)) rfl ?_))
  refine ST (Ex.strAddC rfl rfl hxs1) rfl (ST (Ex.fieldAddr Tryz.underlying24 rfl Tryz.sizeOf9 (by decide) rfl) rfl (ST (Ex.load1 H rfl (by repeat (first | exact List.Mem.head _ | apply List.Mem.tail)) Tryz.isAgg9 (by rfl)) rfl ?_))
  refine ST (Ex.strAddC rfl rfl hxs2) rfl (AS rfl rfl (NL (TN (SQ (SQ (RG (AS rfl rfl (NL (TN ?_)))))))))
  obtain ⟨o3, e4, h⟩ := bnd h
  refine WC.cutX (fun e w => ∃ (s5 : List UInt8) (M : Mem), e = [(3, S s5)] ∧ St w0 M0 M [] w ∧ some s5 = some o3) [] ?_ ?_ (trivial)
  ·
   refine BL (WC.loopP (fun m e w => ∃ (s6 : List UInt8) (n7 : Int) (M : Mem), e = [(1, ptr bk1 0), (3, S s6), (4, I n7)] ∧ St w0 M0 M [.blk bk1 (.cells #[S p0.1, S p0.2.1, vp0_2] 24)] w ∧ SlS M 2 xenc47 vp0_2 p0.2.2 ∧ R_MediaText_L1 p0 m s6 n7 = some o3) FU [(1, _), (3, _), (4, _)] ⟨rfl, rfl, rfl, trivial⟩ ⟨_, _, _, rfl, H, hp0_2, e4⟩ ?_)
   rintro m8 e w ⟨s6, n7, M, rfl, H, hp0_2, e4⟩
   rcases m8 with _ | m8
   · rw [R_MediaText_L1] at e4; cases e4
   rw [R_MediaText_L1] at e4
   refine SQ (SQ (RG (MV rfl rfl (ST (Ex.fieldAddr Tryz.underlying24 rfl Tryz.sizeOf22 (by decide) rfl) rfl (ST (Ex.load1 H rfl (by repeat (first | exact List.Mem.head _ | apply List.Mem.tail)) Tryz.isAgg22 (by rfl)) rfl ?_)))))
   refine ST (Ex.lenSlS Tryz.underlying22 hp0_2 rfl) rfl (ST (Ex.lss rfl rfl) rfl (NL (TN ?_)))
   refine WC.condB rfl (fun hk9 => ?_) (fun hk9 => ?_)
   ·
    replace hk9 : n7 < (p0.2.2.length : Int) := of_decide_eq_true hk9
    rw [if_pos hk9] at e4
    refine SK (TN (SQ (BL ?_)))
    obtain ⟨a10, hxa10, e4⟩ := bnd e4
    obtain ⟨bk22, o22, ha22, hc22⟩ := hp0_2.atC hxa10
    obtain ⟨s11, hx12, e4⟩ := bnd e4
    obtain ⟨s13, hxs13, e4⟩ := bnd e4
    refine RG (MV rfl rfl (ST (Ex.fieldAddr Tryz.underlying24 rfl Tryz.sizeOf22 (by decide) rfl) rfl (ST (Ex.load1 H rfl (by repeat (first | exact List.Mem.head _ | apply List.Mem.tail)) Tryz.isAgg22 (by rfl)) rfl ?_)))
    refine MV rfl rfl (ST (Ex.idxAt ha22 Tryz.underlying22 Tryz.sizeOf47 rfl rfl) rfl (ST (Ex.loadAggM H rfl hc22 Tryz.isAgg47 Tryz.sizeOf47 (by rfl)) rfl ?_))
    refine WR.call H (R_ParamText_ct hx12) rfl trivial (Wn.none rfl) rfl ?_
    intro v24 M w H hle hR
    replace hp0_2 := hp0_2.mono hle
    replace hc22 := hc22.mono hle
    obtain rfl := hR
    refine ST (Ex.strAddC rfl rfl hxs13) rfl (AS rfl rfl (NL (IB (TN ?_))))
    obtain ⟨n14, hxn14, e4⟩ := bnd e4
    refine RG (MV rfl rfl (ST (Ex.addC rfl rfl hxn14) rfl (AS rfl rfl (NL ?_))))
    exact WQ.againP m8 [(1, _), (3, _), (4, _)] ⟨rfl, rfl, rfl, trivial⟩ ⟨_, _, _, rfl, H, hp0_2, e4⟩ (Nat.lt_succ_self _)
   ·
    replace hk9 : ¬ (n7 < (p0.2.2.length : Int)) := of_decide_eq_false hk9
    rw [if_neg hk9] at e4
    refine WC.exit (WQ.thenExit (WQ.thenExit (WQ.exitHere ?_)))
    exact WQ.meetN [(3, _)] ⟨rfl, trivial⟩ ⟨_, _, rfl, (H.pick (L' := []) (by repeat (first | exact Pick.nil | refine Pick.cons (by repeat first | exact .head | apply Rem.tail) ?_))), e4⟩
  ·
   rintro e w ⟨s5, M, rfl, H, q15⟩
   obtain rfl := Option.some.inj q15
   refine TN (SQ (RG (MV rfl rfl (AS rfl rfl (NL (TN (RT ?_)))))))
   obtain rfl := Option.some.inj h
   exact WQ.ret1 rfl rfl H.ext rfl
theorem L_MediaPrintMatchesSpec_ct {p0 : (List UInt8 × List UInt8 × List (List UInt8 × List UInt8))} {vp0_2 : Value} {r : Bool} (h : L_MediaPrintMatchesSpec p0 = some r) : Ct Tryz.prog 3 [Value.agg #[S p0.1, S p0.2.1, vp0_2]] (fun M => GlF (fun w => ∃ tp p, w.var? Tryz.prog "strconv.ErrRange" = some #[.iface tp p]) M ∧ GlF (fun w => ∃ tp p, w.var? Tryz.prog "strconv.ErrSyntax" = some #[.iface tp p]) M ∧ GlF (fun w => ∃ m, w.cell? ⟨2, 0, none⟩ = some (.int .i64 m)) M ∧ GlF (fun w => Lib.TabIs Tryz.prog w "internal/strconv.uint64pow10" .u64 Lib.pow10Tab) M ∧ Tabs M ∧ SlS M 2 xenc47 vp0_2 p0.2.2) (fun v M => v = Value.bool r) := by
  refine Ct.of Tryz.func3 (enters Tryz.func3 (by kernel_rfl) rfl) rfl rfl rfl ?_
  intro w0 M0 H hp
  obtain ⟨hg_errR, hg_errS, hg_maxl, hg_pow10, hg_tabs, hp0_2⟩ := hp
  unfold L_MediaPrintMatchesSpec at h
  refine SQ (RG (WR.box [_, _, _] H rfl rfl (Wn.none rfl) rfl ?_))
  intro bk1 w H
  refine AS rfl rfl (NL (TN (SQ (SQ ?_))))
  obtain ⟨o1, e2, h⟩ := bnd h
  refine WC.cutX (fun e w => ∃ (b3 : Bool) (M : Mem), e = [(1, ptr bk1 0), (14, Value.bool b3)] ∧ St w0 M0 M [.blk bk1 (.cells #[S p0.1, S p0.2.1, vp0_2] 24)] w ∧ GlF (fun w => ∃ tp p, w.var? Tryz.prog "strconv.ErrRange" = some #[.iface tp p]) M ∧ GlF (fun w => ∃ tp p, w.var? Tryz.prog "strconv.ErrSyntax" = some #[.iface tp p]) M ∧ GlF (fun w => ∃ m, w.cell? ⟨2, 0, none⟩ = some (.int .i64 m)) M ∧ GlF (fun w => Lib.TabIs Tryz.prog w "internal/strconv.uint64pow10" .u64 Lib.pow10Tab) M ∧ Tabs M ∧ SlS M 2 xenc47 vp0_2 p0.2.2 ∧ some b3 = some o1) [] ?_ ?_ (trivial)
  ·
   obtain ⟨b4, hx5, e2⟩ := bnd e2
   refine WC.draw (m := 9) rfl rfl H ?_
   intro w H
   refine WA.seq (fuel := 6) [0, 1, 2] rfl (by kernel_rfl) (WR.call H (L_mediaExample_ct hx5) rfl ⟨hg_errR, hg_errS, hg_maxl, hg_pow10, hg_tabs⟩ (Wn.none rfl) rfl ?_)
   intro v6 M w H hle hR
   replace hg_errR := hg_errR.mono hle
   replace hg_errS := hg_errS.mono hle
   replace hg_maxl := hg_maxl.mono hle
   replace hg_pow10 := hg_pow10.mono hle
   replace hg_tabs := hg_tabs.mono hle
   replace hp0_2 := hp0_2.mono hle
   obtain rfl := hR
   refine ST (Ex.not rfl) rfl (MV rfl rfl (NA ?_))
   rcases b4 with _ | _
   ·
    rw [if_neg Bool.false_ne_true] at e2
    refine WA.takes (fuel := 4) [3, 5] rfl (by kernel_rfl) (by kernel_rfl) rfl (WA.seq (fuel := 0) [4, 6, 7, 8] rfl (by kernel_rfl) (WR.skipN 3 rfl rfl (PT rfl rfl rfl (NA (WA.done (by kernel_rfl) ?_)))))
    exact WQ.meetN [(1, _), (14, _)] ⟨rfl, rfl, trivial⟩ ⟨_, _, rfl, H, hg_errR, hg_errS, hg_maxl, hg_pow10, hg_tabs, hp0_2, e2⟩
   ·
    rw [if_pos rfl] at e2
    obtain ⟨⟨n6, n7⟩, hx8, e2⟩ := bnd e2
    try dsimp only at e2
    obtain ⟨⟨n9, n10⟩, hx11, e2⟩ := bnd e2
    try dsimp only at e2
    refine WA.takeM (i := 3) [5] rfl (by kernel_rfl) (by kernel_rfl) (by kernel_rfl) (Ex.loadAgg H rfl (by repeat (first | exact List.Mem.head _ | apply List.Mem.tail)) Tryz.isAgg24 Tryz.sizeOf24 (by rfl)) (Wn.some rfl rfl rfl) rfl rfl (fun _ _ => rfl) ?_
    refine WA.two (i := 4) (j := 5) (by kernel_rfl) rfl rfl ?_ ?_
    ·
     refine WR.call H (media_Validate_ct hx8) rfl ⟨hg_tabs, hp0_2⟩ (Wn.some rfl rfl rfl) rfl ?_
     intro v10 M w H hle hR
     replace hg_errR := hg_errR.mono hle
     replace hg_errS := hg_errS.mono hle
     replace hg_maxl := hg_maxl.mono hle
     replace hg_pow10 := hg_pow10.mono hle
     replace hg_tabs := hg_tabs.mono hle
     replace hp0_2 := hp0_2.mono hle
     try dsimp only at hR
     obtain rfl := hR
     refine NA (WA.seq (fuel := 0) [5, 6, 7, 8] rfl (by kernel_rfl) (SG (Ex.loadAgg H rfl (by repeat (first | exact List.Mem.head _ | apply List.Mem.tail)) Tryz.isAgg24 Tryz.sizeOf24 (by rfl)) rfl rfl rfl ?_))
     refine WR.call H (R_MediaFault_ct hx11) rfl (hp0_2) (Wn.some rfl rfl rfl) rfl ?_
     intro v12 M w H hle hR
     replace hg_errR := hg_errR.mono hle
     replace hg_errS := hg_errS.mono hle
     replace hg_maxl := hg_maxl.mono hle
     replace hg_pow10 := hg_pow10.mono hle
     replace hg_tabs := hg_tabs.mono hle
     replace hp0_2 := hp0_2.mono hle
     try dsimp only at hR
     obtain rfl := hR
     refine SG (Ex.neqAggC rfl rfl (by kernel_rfl) (xeq27 n6 n9 n7 n10)) rfl rfl rfl (PF rfl rfl rfl (NA (WA.done (by kernel_rfl) ?_)))
     exact WQ.meetN [(1, _), (14, _)] ⟨rfl, rfl, trivial⟩ ⟨_, _, rfl, H, hg_errR, hg_errS, hg_maxl, hg_pow10, hg_tabs, hp0_2, e2⟩
    ·
     refine SG (Ex.loadAgg H rfl (by repeat (first | exact List.Mem.head _ | apply List.Mem.tail)) Tryz.isAgg24 Tryz.sizeOf24 (by rfl)) rfl rfl rfl ?_
     refine NA (WA.seq (fuel := 0) [4, 6, 7, 8] rfl (by kernel_rfl) (WR.call H (media_Validate_ct hx8) rfl ⟨hg_tabs, hp0_2⟩ (Wn.some rfl rfl rfl) rfl ?_))
     intro v10 M w H hle hR
     replace hg_errR := hg_errR.mono hle
     replace hg_errS := hg_errS.mono hle
     replace hg_maxl := hg_maxl.mono hle
     replace hg_pow10 := hg_pow10.mono hle
     replace hg_tabs := hg_tabs.mono hle
     replace hp0_2 := hp0_2.mono hle
     try dsimp only at hR
     obtain rfl := hR
     refine WR.call H (R_MediaFault_ct hx11) rfl (hp0_2) (Wn.some rfl rfl rfl) rfl ?_
     intro v12 M w H hle hR
     replace hg_errR := hg_errR.mono hle
     replace hg_errS := hg_errS.mono hle
     replace hg_maxl := hg_maxl.mono hle
     replace hg_pow10 := hg_pow10.mono hle
     replace hg_tabs := hg_tabs.mono hle
     replace hp0_2 := hp0_2.mono hle
     try dsimp only at hR
     obtain rfl := hR
     refine SG (Ex.neqAggC rfl rfl (by kernel_rfl) (xeq27 n6 n9 n7 n10)) rfl rfl rfl (PF rfl rfl rfl (NA (WA.done (by kernel_rfl) ?_)))
     exact WQ.meetN [(1, _), (14, _)] ⟨rfl, rfl, trivial⟩ ⟨_, _, rfl, H, hg_errR, hg_errS, hg_maxl, hg_pow10, hg_tabs, hp0_2, e2⟩
  ·
   rintro e w ⟨b3, M, rfl, H, hg_errR, hg_errS, hg_maxl, hg_pow10, hg_tabs, hp0_2, q12⟩
   obtain rfl := Option.some.inj q12
   refine TN ?_
   refine WC.condB rfl (fun hk13 => ?_) (fun hk13 => ?_)
   ·
    subst hk13
    rw [if_pos rfl] at h
    refine SQ (RG (AS rfl rfl (NL (TN (RT ?_)))))
    obtain rfl := Option.some.inj h
    exact WQ.ret1 rfl rfl H.ext rfl
   ·
    subst hk13
    rw [if_neg Bool.false_ne_true] at h
    refine SK (TN (SQ ?_))
    obtain ⟨⟨s14, ⟨n15, n16⟩⟩, hx17, h⟩ := bnd h
    try dsimp only at h
    refine RG (ST (Ex.loadAgg H rfl (by repeat (first | exact List.Mem.head _ | apply List.Mem.tail)) Tryz.isAgg24 Tryz.sizeOf24 (by rfl)) rfl ?_)
    refine WR.call H (media_Print_ct hx17) rfl ⟨hg_pow10, hg_tabs, hp0_2⟩ (Wn.none rfl) rfl ?_
    intro v17 M w H hle hR
    replace hg_errR := hg_errR.mono hle
    replace hg_errS := hg_errS.mono hle
    replace hg_maxl := hg_maxl.mono hle
    replace hg_pow10 := hg_pow10.mono hle
    replace hg_tabs := hg_tabs.mono hle
    replace hp0_2 := hp0_2.mono hle
    try dsimp only at hR
    obtain rfl := hR
    refine MV rfl rfl (ST (Ex.extract rfl rfl) rfl (ST (Ex.extract rfl rfl) rfl (WR.alloc [_, _] H Tryz.zeroValue27 rfl (Wn.none rfl) rfl ?_)))
    intro bk4 w H
    refine AS rfl rfl (WR.store [_, _] H rfl rfl rfl (by repeat first | exact .head | apply Upd.tail) Tryz.sizeOf27 rfl (by rfl) (by rfl) (Wn.none rfl) ?_)
    intro w H
    refine NL (TN (SQ ?_))
    obtain ⟨⟨n18, n19⟩, hx20, h⟩ := bnd h
    try dsimp only at h
    refine RG (ST (Ex.loadAgg H rfl (by repeat (first | exact List.Mem.head _ | apply List.Mem.tail)) Tryz.isAgg24 Tryz.sizeOf24 (by rfl)) rfl ?_)
    refine WR.call H (R_MediaFault_ct hx20) rfl (hp0_2) (Wn.none rfl) rfl ?_
    intro v21 M w H hle hR
    replace hg_errR := hg_errR.mono hle
    replace hg_errS := hg_errS.mono hle
    replace hg_maxl := hg_maxl.mono hle
    replace hg_pow10 := hg_pow10.mono hle
    replace hg_tabs := hg_tabs.mono hle
    replace hp0_2 := hp0_2.mono hle
    try dsimp only at hR
    obtain rfl := hR
    refine WR.alloc [_, _] H Tryz.zeroValue27 rfl (Wn.none rfl) rfl ?_
    intro bk5 w H
    refine WR.store [_, _] H rfl rfl rfl (by repeat first | exact .head | apply Upd.tail) Tryz.sizeOf27 rfl (by rfl) (by rfl) (Wn.none rfl) ?_
    intro w H
    refine NL (TN (SQ (SQ ?_)))
    obtain ⟨o21, e22, h⟩ := bnd h
    refine WC.cutX (fun e w => ∃ (b23 : Bool) (M : Mem), e = [(1, ptr bk1 0), (3, S s14), (4, ptr bk4 0), (5, ptr bk5 0), (30, Value.bool b23)] ∧ St w0 M0 M [.blk bk1 (.cells #[S p0.1, S p0.2.1, vp0_2] 24), .blk bk4 (.cells #[I n15, I n16] 27), .blk bk5 (.cells #[I n18, I n19] 27)] w ∧ GlF (fun w => ∃ tp p, w.var? Tryz.prog "strconv.ErrRange" = some #[.iface tp p]) M ∧ GlF (fun w => ∃ tp p, w.var? Tryz.prog "strconv.ErrSyntax" = some #[.iface tp p]) M ∧ GlF (fun w => ∃ m, w.cell? ⟨2, 0, none⟩ = some (.int .i64 m)) M ∧ GlF (fun w => Lib.TabIs Tryz.prog w "internal/strconv.uint64pow10" .u64 Lib.pow10Tab) M ∧ Tabs M ∧ SlS M 2 xenc47 vp0_2 p0.2.2 ∧ some b23 = some o21) [] ?_ ?_ (trivial)
    ·
     refine RG (ST (Ex.fieldAddr Tryz.underlying27 rfl Tryz.sizeOf3 (by decide) rfl) rfl (ST (Ex.load1 H rfl (by repeat (first | exact List.Mem.head _ | apply List.Mem.tail)) Tryz.isAgg3 (by rfl)) rfl ?_))
     by_cases hk24 : n18 = (0 : Int)
     ·
      rw [if_pos hk24] at e22
      obtain ⟨s25, hx26, e22⟩ := bnd e22
      refine WR.stepE (v' := .bool true) (Ex.eql rfl rfl) (congrArg Value.bool (decide_eq_true hk24)) (Wn.none rfl) rfl rfl (MV rfl rfl (SG (Ex.loadAgg H rfl (by repeat (first | exact List.Mem.head _ | apply List.Mem.tail)) Tryz.isAgg24 Tryz.sizeOf24 (by rfl)) rfl rfl rfl ?_))
      refine WR.call H (R_MediaText_ct hx26) rfl (hp0_2) (Wn.some rfl rfl rfl) rfl ?_
      intro v27 M w H hle hR
      replace hg_errR := hg_errR.mono hle
      replace hg_errS := hg_errS.mono hle
      replace hg_maxl := hg_maxl.mono hle
      replace hg_pow10 := hg_pow10.mono hle
      replace hg_tabs := hg_tabs.mono hle
      replace hp0_2 := hp0_2.mono hle
      obtain rfl := hR
      refine SG (Ex.lenStr Tryz.underlying9 rfl) rfl rfl rfl (SG (Ex.gtr rfl rfl) rfl rfl rfl (PT rfl rfl rfl (NL ?_)))
      exact WQ.meetN [(1, _), (3, _), (4, _), (5, _), (30, _)] ⟨rfl, rfl, rfl, rfl, rfl, trivial⟩ ⟨_, _, rfl, (H.pick (L' := [.blk bk1 (.cells #[S p0.1, S p0.2.1, vp0_2] 24), .blk bk4 (.cells #[I n15, I n16] 27), .blk bk5 (.cells #[I n18, I n19] 27)]) (by repeat (first | exact Pick.nil | refine Pick.cons (by repeat first | exact .head | apply Rem.tail) ?_))), hg_errR, hg_errS, hg_maxl, hg_pow10, hg_tabs, hp0_2, e22⟩
     ·
      rw [if_neg hk24] at e22
      refine WR.stepE (v' := .bool false) (Ex.eql rfl rfl) (congrArg Value.bool (decide_eq_false hk24)) (Wn.none rfl) rfl rfl (MV rfl rfl (WR.skipN 4 rfl rfl (PF rfl rfl rfl (NL ?_))))
      exact WQ.meetN [(1, _), (3, _), (4, _), (5, _), (30, _)] ⟨rfl, rfl, rfl, rfl, rfl, trivial⟩ ⟨_, _, rfl, (H.pick (L' := [.blk bk1 (.cells #[S p0.1, S p0.2.1, vp0_2] 24), .blk bk4 (.cells #[I n15, I n16] 27), .blk bk5 (.cells #[I n18, I n19] 27)]) (by repeat (first | exact Pick.nil | refine Pick.cons (by repeat first | exact .head | apply Rem.tail) ?_))), hg_errR, hg_errS, hg_maxl, hg_pow10, hg_tabs, hp0_2, e22⟩
    ·
     rintro e w ⟨b23, M, rfl, H, hg_errR, hg_errS, hg_maxl, hg_pow10, hg_tabs, hp0_2, q27⟩
     obtain rfl := Option.some.inj q27
     refine TN ?_
     obtain ⟨o28, e29, h⟩ := bnd h
     refine WC.cutX (fun e w => ∃ (n30 : Int) (n31 : Int) (M : Mem), e = [(1, ptr bk1 0), (3, S s14), (4, ptr bk4 0), (5, ptr bk5 0)] ∧ St w0 M0 M [.blk bk1 (.cells #[S p0.1, S p0.2.1, vp0_2] 24), .blk bk4 (.cells #[I n15, I n16] 27), .blk bk5 (.cells #[I n30, I n31] 27)] w ∧ GlF (fun w => ∃ tp p, w.var? Tryz.prog "strconv.ErrRange" = some #[.iface tp p]) M ∧ GlF (fun w => ∃ tp p, w.var? Tryz.prog "strconv.ErrSyntax" = some #[.iface tp p]) M ∧ GlF (fun w => ∃ m, w.cell? ⟨2, 0, none⟩ = some (.int .i64 m)) M ∧ GlF (fun w => Lib.TabIs Tryz.prog w "internal/strconv.uint64pow10" .u64 Lib.pow10Tab) M ∧ Tabs M ∧ SlS M 2 xenc47 vp0_2 p0.2.2 ∧ some (n30, n31) = some o28) [] ?_ ?_ (trivial)
     ·
      refine WC.condB rfl (fun hk32 => ?_) (fun hk32 => ?_)
      ·
       subst hk32
       rw [if_pos rfl] at e29
       obtain ⟨⟨n33, n34⟩, hx35, e29⟩ := bnd e29
       try dsimp only at e29
       refine RG (WR.call H (R_At_ct hx35) rfl trivial (Wn.none rfl) rfl ?_)
       intro v31 M w H hle hR
       replace hg_errR := hg_errR.mono hle
       replace hg_errS := hg_errS.mono hle
       replace hg_maxl := hg_maxl.mono hle
       replace hg_pow10 := hg_pow10.mono hle
       replace hg_tabs := hg_tabs.mono hle
       replace hp0_2 := hp0_2.mono hle
       try dsimp only at hR
       obtain rfl := hR
       refine WR.store [_, _] H rfl rfl rfl (by repeat first | exact .head | apply Upd.tail) Tryz.sizeOf27 rfl (by rfl) (by rfl) (Wn.none rfl) ?_
       intro w H
       refine NL ?_
       exact WQ.meetN [(1, _), (3, _), (4, _), (5, _)] ⟨rfl, rfl, rfl, rfl, trivial⟩ ⟨_, _, _, rfl, H, hg_errR, hg_errS, hg_maxl, hg_pow10, hg_tabs, hp0_2, e29⟩
      ·
       subst hk32
       rw [if_neg Bool.false_ne_true] at e29
       refine SK ?_
       exact WQ.meetN [(1, _), (3, _), (4, _), (5, _)] ⟨rfl, rfl, rfl, rfl, trivial⟩ ⟨_, _, _, rfl, H, hg_errR, hg_errS, hg_maxl, hg_pow10, hg_tabs, hp0_2, e29⟩
     ·
      rintro e w ⟨n30, n31, M, rfl, H, hg_errR, hg_errS, hg_maxl, hg_pow10, hg_tabs, hp0_2, q36⟩
      obtain rfl := Option.some.inj q36
      try dsimp only at h
      refine TN (SQ (SQ (RG (ST (Ex.fieldAddr Tryz.underlying27 rfl Tryz.sizeOf3 (by decide) rfl) rfl (ST (Ex.load1 H rfl (by repeat (first | exact List.Mem.head _ | apply List.Mem.tail)) Tryz.isAgg3 (by rfl)) rfl ?_)))))
      refine ST (Ex.neqC rfl rfl) rfl (NL (TN ?_))
      refine WC.condB rfl (fun hk37 => ?_) (fun hk37 => ?_)
      ·
       replace hk37 : ¬ (n30 = (0 : Int)) := of_not_decide hk37
       rw [if_neg hk37] at h
       refine SQ ?_
       obtain ⟨o38, e39, h⟩ := bnd h
       refine WC.cutX (fun e w => ∃ (b40 : Bool) (M : Mem), e = [(2, Value.bool b40)] ∧ St w0 M0 M [] w ∧ GlF (fun w => ∃ tp p, w.var? Tryz.prog "strconv.ErrRange" = some #[.iface tp p]) M ∧ GlF (fun w => ∃ tp p, w.var? Tryz.prog "strconv.ErrSyntax" = some #[.iface tp p]) M ∧ GlF (fun w => ∃ m, w.cell? ⟨2, 0, none⟩ = some (.int .i64 m)) M ∧ GlF (fun w => Lib.TabIs Tryz.prog w "internal/strconv.uint64pow10" .u64 Lib.pow10Tab) M ∧ Tabs M ∧ some b40 = some o38) [] ?_ ?_ (trivial)
       ·
        refine RG (ST (Ex.loadAgg H rfl (by repeat (first | exact List.Mem.head _ | apply List.Mem.tail)) Tryz.isAgg27 Tryz.sizeOf27 (by rfl)) rfl ?_)
        refine ST (Ex.loadAgg H rfl (by repeat (first | exact List.Mem.head _ | apply List.Mem.tail)) Tryz.isAgg27 Tryz.sizeOf27 (by rfl)) rfl ?_
        by_cases hk41 : n15 = n30 ∧ n16 = n31
        ·
         rw [if_pos hk41] at e39
         refine WR.stepE (v' := .bool true) (Ex.eqlAgg rfl rfl (by kernel_rfl) (xeq27 n15 n30 n16 n31)) (congrArg Value.bool (decide_eq_true hk41)) (Wn.none rfl) rfl rfl (MV rfl rfl (SG (Ex.move rfl) rfl rfl rfl (SG (Ex.strEql rfl rfl) rfl rfl rfl (PT rfl rfl rfl (AS rfl rfl (NL ?_))))))
         exact WQ.meetN [(2, _)] ⟨rfl, trivial⟩ ⟨_, _, rfl, (H.pick (L' := []) (by repeat (first | exact Pick.nil | refine Pick.cons (by repeat first | exact .head | apply Rem.tail) ?_))), hg_errR, hg_errS, hg_maxl, hg_pow10, hg_tabs, e39⟩
        ·
         rw [if_neg hk41] at e39
         refine WR.stepE (v' := .bool false) (Ex.eqlAgg rfl rfl (by kernel_rfl) (xeq27 n15 n30 n16 n31)) (congrArg Value.bool (decide_eq_false hk41)) (Wn.none rfl) rfl rfl (MV rfl rfl (GF rfl rfl rfl (GF rfl rfl rfl (PF rfl rfl rfl (AS rfl rfl (NL ?_))))))
         exact WQ.meetN [(2, _)] ⟨rfl, trivial⟩ ⟨_, _, rfl, (H.pick (L' := []) (by repeat (first | exact Pick.nil | refine Pick.cons (by repeat first | exact .head | apply Rem.tail) ?_))), hg_errR, hg_errS, hg_maxl, hg_pow10, hg_tabs, e39⟩
       ·
        rintro e w ⟨b40, M, rfl, H, hg_errR, hg_errS, hg_maxl, hg_pow10, hg_tabs, q42⟩
        obtain rfl := Option.some.inj q42
        refine TN (RT ?_)
        obtain rfl := Option.some.inj h
        exact WQ.ret1 rfl rfl H.ext rfl
      ·
       replace hk37 : n30 = (0 : Int) := of_not_decide' hk37
       rw [if_pos hk37] at h
       refine SK (TN (SQ ?_))
       obtain ⟨o43, e44, h⟩ := bnd h
       refine WC.cutX (fun e w => ∃ (b45 : Bool) (M : Mem), e = [(2, Value.bool b45)] ∧ St w0 M0 M [] w ∧ GlF (fun w => ∃ tp p, w.var? Tryz.prog "strconv.ErrRange" = some #[.iface tp p]) M ∧ GlF (fun w => ∃ tp p, w.var? Tryz.prog "strconv.ErrSyntax" = some #[.iface tp p]) M ∧ GlF (fun w => ∃ m, w.cell? ⟨2, 0, none⟩ = some (.int .i64 m)) M ∧ GlF (fun w => Lib.TabIs Tryz.prog w "internal/strconv.uint64pow10" .u64 Lib.pow10Tab) M ∧ Tabs M ∧ some b45 = some o43) [] ?_ ?_ (trivial)
       ·
        refine RG (ST (Ex.fieldAddr Tryz.underlying27 rfl Tryz.sizeOf3 (by decide) rfl) rfl (ST (Ex.load1 H rfl (by repeat (first | exact List.Mem.head _ | apply List.Mem.tail)) Tryz.isAgg3 (by rfl)) rfl ?_))
        by_cases hk46 : n15 = (0 : Int)
        ·
         rw [if_pos hk46] at e44
         obtain ⟨s47, hx48, e44⟩ := bnd e44
         refine WR.stepE (v' := .bool true) (Ex.eql rfl rfl) (congrArg Value.bool (decide_eq_true hk46)) (Wn.none rfl) rfl rfl (MV rfl rfl (SG (Ex.move rfl) rfl rfl rfl (SG (Ex.loadAgg H rfl (by repeat (first | exact List.Mem.head _ | apply List.Mem.tail)) Tryz.isAgg24 Tryz.sizeOf24 (by rfl)) rfl rfl rfl ?_)))
         refine WR.call H (R_MediaText_ct hx48) rfl (hp0_2) (Wn.some rfl rfl rfl) rfl ?_
         intro v48 M w H hle hR
         replace hg_errR := hg_errR.mono hle
         replace hg_errS := hg_errS.mono hle
         replace hg_maxl := hg_maxl.mono hle
         replace hg_pow10 := hg_pow10.mono hle
         replace hg_tabs := hg_tabs.mono hle
         replace hp0_2 := hp0_2.mono hle
         obtain rfl := hR
         refine SG (Ex.strEql rfl rfl) rfl rfl rfl (PT rfl rfl rfl (AS rfl rfl (NL ?_)))
         exact WQ.meetN [(2, _)] ⟨rfl, trivial⟩ ⟨_, _, rfl, (H.pick (L' := []) (by repeat (first | exact Pick.nil | refine Pick.cons (by repeat first | exact .head | apply Rem.tail) ?_))), hg_errR, hg_errS, hg_maxl, hg_pow10, hg_tabs, e44⟩
        ·
         rw [if_neg hk46] at e44
         refine WR.stepE (v' := .bool false) (Ex.eql rfl rfl) (congrArg Value.bool (decide_eq_false hk46)) (Wn.none rfl) rfl rfl (MV rfl rfl (WR.skipN 4 rfl rfl (PF rfl rfl rfl (AS rfl rfl (NL ?_)))))
         exact WQ.meetN [(2, _)] ⟨rfl, trivial⟩ ⟨_, _, rfl, (H.pick (L' := []) (by repeat (first | exact Pick.nil | refine Pick.cons (by repeat first | exact .head | apply Rem.tail) ?_))), hg_errR, hg_errS, hg_maxl, hg_pow10, hg_tabs, e44⟩
       ·
        rintro e w ⟨b45, M, rfl, H, hg_errR, hg_errS, hg_maxl, hg_pow10, hg_tabs, q49⟩
        obtain rfl := Option.some.inj q49
        refine TN (RT ?_)
        obtain rfl := Option.some.inj h
        exact WQ.ret1 rfl rfl H.ext rfl
end Go.Proofs.YtegkhjbajijidaaGreatDoor
end
section
set_option maxRecDepth 100000
set_option linter.unusedVariables false
set_option linter.unusedSimpArgs false
namespace Go.Proofs.YtegkhjbajijidaaGreatDoor
open Go Go.RowKit Go.Ph Go.Ph.Pl Go.Ph.Pf
end Go.Proofs.YtegkhjbajijidaaGreatDoor
end
section
set_option maxRecDepth 100000
set_option linter.unusedVariables false
set_option linter.unusedSimpArgs false
namespace Go.Proofs.YtegkhjbajijidaaGreatDoor
open Go Go.RowKit Go.Ph Go.Ph.Pl Go.Ph.Pf
end Go.Proofs.YtegkhjbajijidaaGreatDoor
end
section
set_option linter.unusedVariables false
set_option linter.unusedSimpArgs false
namespace Go.Ph.Md
open Go.Ph.Pl Go.Ph.Pf
open Go.Ph.Chs (vld lower)
abbrev Big (l : List UInt8) : Prop := l.length ≤ 140737488355328
theorem foldI {α σ γ : Type} {L : Nat → σ → Int → Option γ} (l : List α) (F : σ → α → σ) (fin : σ → γ) (I : Nat → σ → Prop)
    (hend : ∀ m s, I l.length s → L (m + 1) s (l.length : Int) = some (fin s))
    (hstep : ∀ m s i a, l[i]? = some a → I i s → I (i + 1) (F s a) ∧ L (m + 1) s (i : Int) = L m (F s a) ((i + 1 : Nat) : Int)) :
    ∀ (d i : Nat) (s : σ) (m : Nat), l.length - i = d → i ≤ l.length → d < m → I i s → L m s (i : Int) = some (fin ((l.drop i).foldl F s)) := by
  intro d
  induction d with
  | zero =>
    intro i s m h1 h2 h3 hI
    obtain ⟨m, rfl⟩ : ∃ k, m = k + 1 := ⟨m - 1, by omega⟩
    obtain rfl : i = l.length := by omega
    rw [hend m s hI, List.drop_length]; rfl
  | succ d ih =>
    intro i s m h1 h2 h3 hI
    obtain ⟨m, rfl⟩ : ∃ k, m = k + 1 := ⟨m - 1, by omega⟩
    have hi : i < l.length := by omega
    obtain ⟨hI', hL⟩ := hstep m s i l[i] (List.getElem?_eq_getElem hi) hI
    rw [hL, ih (i + 1) _ m (by omega) (by omega) (by omega) hI', List.drop_eq_getElem_cons hi]; rfl
theorem foldI0 {α σ γ : Type} {L : Nat → σ → Int → Option γ} (l : List α) (F : σ → α → σ) (fin : σ → γ) (I : Nat → σ → Prop) (hl : l.length ≤ 9223372036854775807)
    (hend : ∀ m s, I l.length s → L (m + 1) s (l.length : Int) = some (fin s))
    (hstep : ∀ m s i a, l[i]? = some a → I i s → I (i + 1) (F s a) ∧ L (m + 1) s (i : Int) = L m (F s a) ((i + 1 : Nat) : Int)) (s : σ) (h0 : I 0 s) : L FU s 0 = some (fin (l.foldl F s)) := by
  have := foldI l F fin I hend hstep l.length 0 s FU (by omega) (by omega) (FU_gt hl) h0
  simpa using this
theorem foldl_app {α β : Type} (f : α → List β) : ∀ (l : List α) (o : List β), l.foldl (fun o a => o ++ f a) o = o ++ l.flatMap f
  | [], o => by simp
  | a :: l, o => by rw [List.foldl_cons, foldl_app f l]; simp
theorem allB {p : UInt8 → Prop} (h : ∀ n, n < 256 → p (UInt8.ofNat n)) (c : UInt8) : p c := by
  have := h c.toNat c.toNat_lt
  rwa [UInt8.ofNat_toNat] at this
theorem failed_eq (a b : Int) : basic_Failed (a, b) = some (!decide (a = 0)) := rfl
theorem fault_eq (a b : Int) : basic_Fault a b = some (a, b) := by unfold basic_Fault; rfl
theorem none_eq : basic_None = some (0, 0) := rfl
theorem at_eq (a b : Int) : R_At a b = some (a, b) := rfl
theorem rin_eq (a b c : Int) : R_In a b c = some (decide (b ≤ a ∧ a ≤ c)) := by
  unfold R_In
  by_cases h : b ≤ a <;> simp [h]
def tkB (c : UInt8) : Bool := decide (33 ≤ c.toNat) && (decide (c.toNat ≤ 126) && !([40, 41, 60, 62, 64, 44, 59, 58, 92, 34, 47, 91, 93, 63, 61, 42, 37, 39] : List UInt8).any (fun x => decide (x = c)))
theorem tokenByte_eq (c : UInt8) : media_tokenByte c = some (tkB c) := by
  refine allB (p := fun c => media_tokenByte c = some (tkB c)) ?_ c
  decide +kernel
theorem rtokenByte_eq (c : UInt8) : R_TokenByte c = some (tkB c) := by
  refine allB (p := fun c => R_TokenByte c = some (tkB c)) ?_ c
  decide +kernel
theorem all_eq (l : List UInt8) (hl : Big l) (g : UInt8 → Option Bool) (p : UInt8 → Bool) (hg : ∀ c, g c = some (p c)) : basic_All l g = some (l.all p) := by
  unfold basic_All
  rw [scan0 (L := basic_All_L1 l g) (l := l) (p := fun c => !p c) (stop := .inl ()) (r := .inr false) (FU_gt (by omega)) (fun m => by rw [basic_All_L1, if_neg (by omega)]) (fun m i h => by
    rw [basic_All_L1, if_pos (by omega), idx_nat, List.getElem?_eq_getElem h, chk_succ (by have := hl; omega)]
    simp only [bsome, hg]
    cases p l[i] <;> simp)]
  simp only [bsome]
  rw [List.all_eq_not_any_not]
  cases l.any (fun c => !p c) <;> simp
def tkT (l : List UInt8) : Bool := l.all tkB && decide (1 ≤ l.length ∧ l.length ≤ 60)
theorem token_eq (l : List UInt8) (hl : Big l) : media_token l = some (tkT l) := by
  unfold media_token tkT
  by_cases h : l = []
  · subst h; rfl
  · have hpos : 1 ≤ l.length := by cases l <;> simp_all
    rw [if_neg h]
    by_cases h2 : l.length ≤ 60
    · rw [if_pos (by omega), all_eq l hl _ tkB tokenByte_eq]
      simp [hpos, h2]
    · rw [if_neg (by omega)]
      simp [h2]
theorem rtoken_eq (l : List UInt8) (hl : Big l) : R_TokenText l = some (tkT l) := by
  unfold R_TokenText
  rw [scan0 (L := R_TokenText_L1 l) (l := l) (p := fun c => !tkB c) (stop := .inl ()) (r := .inr false) (FU_gt (by omega)) (fun m => by rw [R_TokenText_L1, if_neg (by omega)]) (fun m i h => by
    rw [R_TokenText_L1, if_pos (by omega), idx_nat, List.getElem?_eq_getElem h, chk_succ (by have := hl; omega)]
    simp only [bsome, rtokenByte_eq]
    cases tkB l[i] <;> simp), bsome]
  unfold tkT
  rw [List.all_eq_not_any_not]
  cases l.any (fun c => !tkB c)
  · rw [if_neg (by decide)]
    dsimp only
    rw [rin_eq, bsome]
    congr 1
    rw [Bool.not_false, Bool.true_and]
    exact decide_eq_decide.2 (by omega)
  · rfl
theorem tkT_len {l : List UInt8} (h : tkT l = true) : 1 ≤ l.length ∧ l.length ≤ 60 := by
  unfold tkT at h
  rw [Bool.and_eq_true, decide_eq_true_eq] at h
  exact h.2
theorem same_eq {a b : List UInt8} (ha : Big a) (hb : Big b) : basic_Same a b = some (decide (lower a = lower b)) := by
  unfold basic_Same; unfold Big at ha hb; rw [if_pos ⟨by omega, by omega⟩]
theorem alike_eq {a b : List UInt8} (ha : Big a) (hb : Big b) : R_Alike a b = some (decide (lower a = lower b)) := by
  unfold R_Alike; unfold Big at ha hb; rw [if_pos ⟨by omega, by omega⟩]
abbrev Par : Type := List UInt8 × List UInt8
abbrev Med : Type := List UInt8 × List UInt8 × List Par
abbrev BigP (l : List Par) : Prop := ∀ x ∈ l, Big x.1 ∧ Big x.2
abbrev BigM (m : Med) : Prop := Big m.1 ∧ Big m.2.1 ∧ BigP m.2.2
def smP (x y : Par) : Bool := decide (lower y.1 = lower x.1)
def pf1 (pre : List Par) (x : Par) : Int := if tkT x.1 = true ∧ x.1.length ≤ 20 then (if pre.any (smP x) = true then 7 else if 500 < x.2.length then 1 else if vld x.2 = true then 0 else 5) else 10
def pfz (pre : List Par) : List Par → Int × Int
  | [] => (0, 0)
  | x :: r => if pf1 pre x = 0 then pfz (pre ++ [x]) r else (pf1 pre x, (pre.length : Int))
theorem pfz_zero : ∀ {l pre : List Par}, (pfz pre l).1 = 0 → pfz pre l = (0, 0)
  | [], pre, h => rfl
  | x :: r, pre, h => by
    rw [pfz] at h ⊢
    by_cases hx : pf1 pre x = 0
    · rw [if_pos hx] at h ⊢
      exact pfz_zero h
    · rw [if_neg hx] at h
      exact absurd h hx
theorem ffr {α : Type} {a : Int} (ha : a ≠ 0) (i : Int) (X : Int × Int) (u : α) : (if (if a = 0 then X else (a, i)).1 = 0 then (.inl u : α ⊕ (Int × Int)) else .inr (if a = 0 then X else (a, i))) = .inr (a, i) := by rw [if_neg ha, if_neg ha]
theorem indexF (l : List Par) (hl : l.length ≤ 1000) (f : Par → Option Bool) (p : Par → Bool) (hf : ∀ x ∈ l, f x = some (p x)) : slices_ContainsFunc_Param l f = some (l.any p) := by
  unfold slices_ContainsFunc_Param slices_IndexFunc_Param
  rcases scanP (fun m i => slices_IndexFunc_Param_L1 l f m i) l (fun i x => if p x = true then some (.inr (i : Int)) else none) (.inl ()) (fun m => by rw [slices_IndexFunc_Param_L1, if_neg (by omega)]) (fun m i h => by
    rw [slices_IndexFunc_Param_L1, if_pos (by omega), idx_nat, List.getElem?_eq_getElem h, bsome]
    have e : f (l[i].1, l[i].2) = some (p l[i]) := hf _ (List.getElem_mem h)
    rw [e, bsome, chk_succ (by omega), bsome]
    cases p l[i] <;> rfl) l.length 0 FU (by omega) (FU_gt (by omega)) (by omega) with ⟨j, hj, r, a1, a2, a3, a4⟩ | ⟨a1, a2⟩
  · rw [Int.natCast_zero] at a4
    have hp : p l[j] = true := by
      cases h : p l[j] with
      | true => rfl
      | false => rw [h, if_neg (by decide)] at a2; cases a2
    rw [hp, if_pos rfl] at a2
    cases a2
    rw [a4, bsome, bsome]
    rw [show l.any p = true from List.any_eq_true.2 ⟨_, List.getElem_mem hj, hp⟩, decide_eq_true (by omega)]
  · rw [Int.natCast_zero] at a2
    rw [a2, bsome, bsome]
    have : l.any p = false := by
      rw [List.any_eq_false]
      intro x hx hp
      obtain ⟨i, hi, rfl⟩ := List.getElem_of_mem hx
      have := a1 i hi (by omega)
      rw [hp, if_pos rfl] at this
      cases this
    rw [this]; rfl
theorem take_drop_cons {α : Type} {l : List α} {i : Nat} (h : i < l.length) : l.take (i + 1) = l.take i ++ [l[i]] := by
  rw [List.take_succ_eq_append_getElem h]
theorem valid_L1 (m0 : Med) (hl : m0.2.2.length ≤ 60) (hb : BigP m0.2.2) (n9 n10 : Int) : ∀ (d i m : Nat), m0.2.2.length - i ≤ d → d < m → i ≤ m0.2.2.length →
    media_Validate_L1 m0 m n9 n10 (i : Int) = some (if (pfz (m0.2.2.take i) (m0.2.2.drop i)).1 = 0 then .inl (n9, n10) else .inr (pfz (m0.2.2.take i) (m0.2.2.drop i))) := by
  obtain ⟨ty, sb, l⟩ := m0
  dsimp only at hl hb ⊢
  intro d
  induction d with
  | zero =>
    intro i m h1 h2 h3
    obtain ⟨m, rfl⟩ : ∃ k, m = k + 1 := ⟨m - 1, by omega⟩
    rw [media_Validate_L1, if_neg (by dsimp only; omega), List.drop_eq_nil_of_le (by omega)]; rfl
  | succ d ih =>
    intro i m h1 h2 h3
    obtain ⟨m, rfl⟩ : ∃ k, m = k + 1 := ⟨m - 1, by omega⟩
    by_cases hi : i < l.length
    · have hx := hb l[i] (List.getElem_mem hi)
      rw [media_Validate_L1]
      dsimp only
      rw [if_pos (by omega), idx_nat, List.getElem?_eq_getElem hi, bsome, List.drop_eq_getElem_cons hi, pfz, ← take_drop_cons hi]
      have hlen : (l.take i).length = i := by rw [List.length_take]; omega
      rw [hlen]
      unfold pf1
      rw [token_eq _ hx.1, bsome]
      by_cases c1 : tkT l[i].1 = true ∧ l[i].1.length ≤ 20
      · rw [if_pos c1, c1.1, if_pos rfl, bsome, decide_eq_false (by have := c1.2; omega), if_neg Bool.false_ne_true, cut_to rfl (by omega), bsome,
          indexF (l.take i) (by omega) _ (smP l[i]) (fun x hx' => by unfold media_Validate_1 smP; rw [same_eq (hb x (List.mem_of_mem_take hx')).1 hx.1]; rfl), bsome]
        by_cases c2 : (l.take i).any (smP l[i]) = true
        · rw [if_pos c2, if_pos c2, fault_eq, bsome, ffr (by decide)]
        · rw [if_neg c2, if_neg c2]
          by_cases c3 : 500 < l[i].2.length
          · rw [if_pos (by omega), if_pos c3, fault_eq, bsome, ffr (by decide)]
          · rw [if_neg (by omega), if_neg c3]
            unfold utf8_ValidString
            rw [if_pos (by omega), bsome]
            by_cases c4 : vld l[i].2 = true
            · rw [if_pos c4, if_pos c4, if_pos rfl, chk_succ (by omega), bsome]
              exact ih (i + 1) m (by omega) (by omega) (by omega)
            · rw [if_neg c4, if_neg c4, fault_eq, bsome, ffr (by decide)]
      · have e : (if tkT l[i].1 = true then some (decide ((20 : Int) < (l[i].1.length : Int))) else some true) = some true := by
          by_cases h : tkT l[i].1 = true
          · rw [if_pos h, decide_eq_true (by have := Nat.lt_of_not_le (fun h2 => c1 ⟨h, h2⟩); omega)]
          · rw [if_neg h]
        rw [if_neg c1, e, bsome, if_pos rfl, fault_eq, bsome, ffr (by decide)]
    · rw [media_Validate_L1, if_neg (by dsimp only; omega), List.drop_eq_nil_of_le (by omega)]; rfl
def valM (m : Med) : Int × Int := if tkT m.1 = true ∧ tkT m.2.1 = true then (if 60 < m.2.2.length then (2, -3) else pfz [] m.2.2) else (10, -2)
theorem tk2 (a b : Bool) : (if a = true then some (!b) else some true : Option Bool) = some (!(a && b)) := by cases a <;> simp
theorem validate_eq (m : Med) (hb : BigM m) : media_Validate m = some (valM m) := by
  unfold media_Validate valM
  rw [token_eq _ hb.1, bsome, token_eq _ hb.2.1, bsome, tk2, bsome]
  by_cases h : tkT m.1 = true ∧ tkT m.2.1 = true
  · rw [if_pos h, h.1, h.2, if_neg (by decide)]
    by_cases h6 : 60 < m.2.2.length
    · rw [if_pos (by omega), fault_eq, bsome, if_pos h6]
    · have := valid_L1 m (by omega) hb.2.2 0 0 m.2.2.length 0 FU (by omega) (by unfold FU; omega) (by omega)
      rw [Int.natCast_zero, List.drop_zero, List.take_zero] at this
      rw [if_neg (by omega), this, bsome, if_neg h6]
      by_cases hz : (pfz [] m.2.2).1 = 0
      · rw [if_pos hz]
        dsimp only
        rw [pfz_zero hz, none_eq, bsome]
      · rw [if_neg hz]
  · have : (tkT m.1 && tkT m.2.1) = false := by
      cases h1 : tkT m.1 <;> cases h2 : tkT m.2.1 <;> simp_all
    rw [this, if_pos (by decide), if_neg h, fault_eq, bsome]
theorem rdup (l : List Par) (hl : l.length ≤ 60) (hb : BigP l) (ty sb : List UInt8) (i : Nat) (hi : i < l.length) (n9 n10 : Int) :
    R_MediaFault_L2 (ty, sb, l) (i : Int) l[i] FU n9 n10 0 = some (if (l.take i).any (smP l[i]) = true then .inr (7, (i : Int)) else .inl (n9, n10)) := by
  have hx := hb l[i] (List.getElem_mem hi)
  have hlen : (l.take i).length = i := by rw [List.length_take]; omega
  refine scan0 (L := fun m k => R_MediaFault_L2 (ty, sb, l) (i : Int) l[i] m n9 n10 k) (l := l.take i) (FU_gt (by omega)) (fun m => by rw [R_MediaFault_L2, if_neg (by omega)]) (fun m k hk => ?_)
  have hk' : k < i := by omega
  rw [R_MediaFault_L2, if_pos (by omega)]
  dsimp only
  rw [idx_nat, List.getElem?_eq_getElem (by omega : k < l.length), bsome, alike_eq (hb _ (List.getElem_mem _)).1 hx.1, bsome, at_eq, bsome, chk_succ (by omega), bsome, List.getElem_take]
  rfl
theorem rvalid_L1 (m0 : Med) (hl : m0.2.2.length ≤ 60) (hb : BigP m0.2.2) (n9 n10 : Int) : ∀ (d i m : Nat), m0.2.2.length - i ≤ d → d < m → i ≤ m0.2.2.length →
    R_MediaFault_L1 m0 m n9 n10 (i : Int) = some (if (pfz (m0.2.2.take i) (m0.2.2.drop i)).1 = 0 then .inl (n9, n10) else .inr (pfz (m0.2.2.take i) (m0.2.2.drop i))) := by
  obtain ⟨ty, sb, l⟩ := m0
  dsimp only at hl hb ⊢
  intro d
  induction d with
  | zero =>
    intro i m h1 h2 h3
    obtain ⟨m, rfl⟩ : ∃ k, m = k + 1 := ⟨m - 1, by omega⟩
    rw [R_MediaFault_L1, if_neg (by dsimp only; omega), List.drop_eq_nil_of_le (by omega)]; rfl
  | succ d ih =>
    intro i m h1 h2 h3
    obtain ⟨m, rfl⟩ : ∃ k, m = k + 1 := ⟨m - 1, by omega⟩
    by_cases hi : i < l.length
    · have hx := hb l[i] (List.getElem_mem hi)
      rw [R_MediaFault_L1]
      dsimp only
      rw [if_pos (by omega), idx_nat, List.getElem?_eq_getElem hi, bsome, List.drop_eq_getElem_cons hi, pfz, ← take_drop_cons hi]
      have hlen : (l.take i).length = i := by rw [List.length_take]; omega
      rw [hlen]
      unfold pf1
      rw [rtoken_eq _ hx.1, bsome]
      by_cases c1 : tkT l[i].1 = true ∧ l[i].1.length ≤ 20
      · rw [if_pos c1, c1.1, if_pos rfl, bsome, decide_eq_false (by have := c1.2; omega), if_neg Bool.false_ne_true, rdup l hl hb ty sb i hi n9 n10, bsome]
        by_cases c2 : (l.take i).any (smP l[i]) = true
        · rw [if_pos c2, if_pos c2, ffr (by decide)]
        · rw [if_neg c2, if_neg c2]
          dsimp only
          by_cases c3 : 500 < l[i].2.length
          · rw [if_pos (by omega), if_pos c3, at_eq, bsome, ffr (by decide)]
          · rw [if_neg (by omega), if_neg c3]
            unfold R_Valid
            rw [if_pos (by omega), bsome]
            by_cases c4 : vld l[i].2 = true
            · rw [if_pos c4, if_pos c4, if_pos rfl, chk_succ (by omega), bsome]
              exact ih (i + 1) m (by omega) (by omega) (by omega)
            · rw [if_neg c4, if_neg c4, at_eq, bsome, ffr (by decide)]
      · have e : (if tkT l[i].1 = true then some (decide ((20 : Int) < (l[i].1.length : Int))) else some true) = some true := by
          by_cases h : tkT l[i].1 = true
          · rw [if_pos h, decide_eq_true (by have := Nat.lt_of_not_le (fun h2 => c1 ⟨h, h2⟩); omega)]
          · rw [if_neg h]
        rw [if_neg c1, e, bsome, if_pos rfl, at_eq, bsome, ffr (by decide)]
    · rw [R_MediaFault_L1, if_neg (by dsimp only; omega), List.drop_eq_nil_of_le (by omega)]; rfl
theorem rfault_eq (m : Med) (hb : BigM m) : R_MediaFault m = some (valM m) := by
  unfold R_MediaFault valM
  rw [rtoken_eq _ hb.1, bsome, rtoken_eq _ hb.2.1, bsome, tk2, bsome]
  by_cases h : tkT m.1 = true ∧ tkT m.2.1 = true
  · rw [if_pos h, h.1, h.2, if_neg (by decide)]
    by_cases h6 : 60 < m.2.2.length
    · rw [if_pos (by omega), at_eq, bsome, if_pos h6]
    · have := rvalid_L1 m (by omega) hb.2.2 0 0 m.2.2.length 0 FU (by omega) (by unfold FU; omega) (by omega)
      rw [Int.natCast_zero, List.drop_zero, List.take_zero] at this
      rw [if_neg (by omega), this, bsome, if_neg h6]
      by_cases hz : (pfz [] m.2.2).1 = 0
      · rw [if_pos hz]
        dsimp only
        rw [pfz_zero hz]
      · rw [if_neg hz]
  · have : (tkT m.1 && tkT m.2.1) = false := by
      cases h1 : tkT m.1 <;> cases h2 : tkT m.2.1 <;> simp_all
    rw [this, if_pos (by decide), if_neg h, at_eq, bsome]
theorem valM_zero {m : Med} (h : (valM m).1 = 0) : tkT m.1 = true ∧ tkT m.2.1 = true ∧ m.2.2.length ≤ 60 ∧ (pfz [] m.2.2).1 = 0 ∧ valM m = (0, 0) := by
  unfold valM at h ⊢
  by_cases h1 : tkT m.1 = true ∧ tkT m.2.1 = true
  · rw [if_pos h1] at h ⊢
    by_cases h2 : 60 < m.2.2.length
    · rw [if_pos h2] at h; exact absurd h (by decide)
    · rw [if_neg h2] at h ⊢
      exact ⟨h1.1, h1.2, by omega, h, pfz_zero h⟩
  · rw [if_neg h1] at h; exact absurd h (by decide)
end Go.Ph.Md
end
section
set_option linter.unusedVariables false
set_option linter.unusedSimpArgs false
namespace Go.Ph.Md
open Go.Ph.Pl Go.Ph.Pf
open Go.Ph.Chs (vld lower)
def hexd : List UInt8 := [48, 49, 50, 51, 52, 53, 54, 55, 56, 57, 65, 66, 67, 68, 69, 70]
def hx (n : Nat) : UInt8 := hexd.getD n 0
theorem digit_hi (c : UInt8) : basic_Digit (UInt8.ofNat (c.toNat / 2 ^ 4)) = some (hx (c.toNat / 16)) := by
  refine allB (p := fun c => basic_Digit (UInt8.ofNat (c.toNat / 2 ^ 4)) = some (hx (c.toNat / 16))) ?_ c
  decide +kernel
theorem digit_lo (c : UInt8) : basic_Digit c = some (hx (c.toNat % 16)) := by
  refine allB (p := fun c => basic_Digit c = some (hx (c.toNat % 16))) ?_ c
  decide +kernel
theorem two_eq (c : UInt8) : R_Two c = some [hx (c.toNat / 16), hx (c.toNat % 16)] := by
  refine allB (p := fun c => R_Two c = some [hx (c.toNat / 16), hx (c.toNat % 16)]) ?_ c
  decide +kernel
theorem dgF_len : ∀ (m n : Nat), (dgF m n).length ≤ m
  | 0, n => Nat.le_refl _
  | m + 1, n => by
    rw [dgF]
    have := dgF_len m (n / 10)
    split
    · simp
    · rw [List.length_append, List.length_singleton]; omega
theorem itoa_len (n : Int) : (itoaP n).length ≤ 21 := by
  unfold itoaP
  have h1 := dgF_len 20 n.natAbs
  have h2 := dgF_len 20 n.toNat
  split
  · rw [List.length_cons]; omega
  · omega
theorem itoa_eq (n : Nat) (h : n ≤ 9223372036854775807) : strconv_Itoa (n : Int) = some (itoaP n) := by
  unfold strconv_Itoa; rw [if_pos ⟨by omega, by omega⟩]
theorem dec10 : ∀ p : Nat, p < 10 → (([48, 49, 50, 51, 52, 53, 54, 55, 56, 57] : List UInt8).take (p + 1)).drop p = [UInt8.ofNat (48 + p)] := by decide
theorem decC (p : Nat) (h : p < 10) : cut ([48, 49, 50, 51, 52, 53, 54, 55, 56, 57] : List UInt8) (p : Int) (IntKind.u64.wrap ((p : Int) + 1)) = some [UInt8.ofNat (48 + p)] := by
  rw [u64_in (by omega), show ((p : Int) + 1) = ((p + 1 : Nat) : Int) by omega, cut_of rfl rfl (by omega) (by simp; omega), dec10 p h]
theorem decR (k : Nat) : ∀ (n m : Nat), k ≤ 100 → n < 10 ^ (k + 1) → n < 1000000000000 → k < m → R_decimal_R m (n : Int) = some (dgF (k + 1) n) := by
  induction k with
  | zero =>
    intro n m hk h h9 hm
    obtain ⟨m, rfl⟩ : ∃ j, m = j + 1 := ⟨m - 1, by omega⟩
    have hn : n < 10 := by simpa using h
    rw [R_decimal_R, R_decimal_B, dgF, if_pos (by omega), if_pos hn, decC n hn, bsome]
  | succ k ih =>
    intro n m hk h h9 hm
    obtain ⟨m, rfl⟩ : ∃ j, m = j + 1 := ⟨m - 1, by omega⟩
    rw [R_decimal_R, R_decimal_B, dgF]
    by_cases hn : n < 10
    · rw [if_pos (by omega), if_pos hn, decC n hn, bsome]
    · have e1 : Int.tdiv (n : Int) 10 = ((n / 10 : Nat) : Int) := by rw [Int.tdiv_eq_ediv_of_nonneg (by omega)]; omega
      have e2 : Int.tmod (n : Int) 10 = ((n % 10 : Nat) : Int) := by rw [Int.tmod_eq_emod_of_nonneg (by omega)]; omega
      have hd := dgF_len (k + 1) (n / 10)
      rw [if_neg (by omega), if_neg hn, e1, u64_in (by omega), ih (n / 10) m (by omega) (by rw [Nat.div_lt_iff_lt_mul (by omega), ← Nat.pow_succ]; exact h) (by omega) (by omega), bsome, e2, decC _ (Nat.mod_lt _ (by omega)), bsome, cat_ok (by rw [List.length_singleton]; omega), bsome]
theorem number_eq (n : Nat) (h : n < 1000000000000) : R_Number (n : Int) = some (itoaP n) := by
  unfold R_Number R_decimal
  rw [if_neg (by omega), u64_in (by omega), decR 19 n FU (by omega) (by omega) h (by rw [FU_eq]; omega), bsome]
  unfold itoaP
  rw [if_neg (by omega), Int.toNat_natCast]
def esc (c : UInt8) : Option (List UInt8) := if c = 34 then some [92, 34] else if c = 92 then some [92, 92] else none
def q1 (c : UInt8) : List UInt8 := (esc c).getD [c]
def qt (p : List UInt8) : List UInt8 := p.flatMap q1
def cnt (p : List UInt8) : Nat := p.countP fun c => (esc c).isSome
theorem tab_at (c : UInt8) : idxO (tabk 2) (c.toNat : Int) = some (esc c) := by
  refine allB (p := fun c => idxO (tabk 2) (c.toNat : Int) = some (esc c)) ?_ c
  decide +kernel
theorem esc_two {c : UInt8} {s : List UInt8} (h : esc c = some s) : s.length = 2 := by
  unfold esc at h
  split at h
  · cases h; rfl
  · split at h
    · cases h; rfl
    · cases h
theorem qt_cons (c : UInt8) (p : List UInt8) : qt (c :: p) = q1 c ++ qt p := rfl
theorem qt_len : ∀ p : List UInt8, (qt p).length = p.length + cnt p
  | [] => rfl
  | c :: p => by
    rw [qt_cons, List.length_append, qt_len p, List.length_cons]
    unfold cnt q1
    rw [List.countP_cons]
    cases h : esc c with
    | none => simp; omega
    | some s => have := esc_two h; simp; omega
theorem qt_id : ∀ p : List UInt8, cnt p = 0 → qt p = p
  | [], h => rfl
  | c :: p, h => by
    unfold cnt at h
    rw [List.countP_cons] at h
    have h2 := qt_id p (by unfold cnt; omega)
    rw [qt_cons, h2]
    unfold q1
    cases h3 : esc c with
    | none => rfl
    | some s => rw [h3] at h; simp at h
theorem cnt_split : ∀ p : List UInt8, cnt p = (p.countP fun c => decide (([34] : List UInt8) = [c])) + (p.countP fun c => decide (([92] : List UInt8) = [c]))
  | [] => rfl
  | c :: p => by
    have := cnt_split p
    unfold cnt at this ⊢
    rw [List.countP_cons, List.countP_cons, List.countP_cons, this]
    unfold esc
    by_cases h1 : c = 34
    · subst h1; simp; omega
    · have h1' : ¬ (34 : UInt8) = c := fun e => h1 e.symm
      by_cases h2 : c = 92
      · subst h2; simp; omega
      · have h2' : ¬ (92 : UInt8) = c := fun e => h2 e.symm
        simp [h1, h2, h1', h2']
theorem rep_L1 (p : List UInt8) (hp : p.length ≤ 1000) : strings_byteStringReplacer_Replace_L1 (tabk 2, trk 2) p FU (p.length : Int) false 0 = some (((p.length + cnt p : Nat) : Int), decide (cnt p ≠ 0)) := by
  rw [cnt_split]
  have c1 : (p.countP fun c => decide (([34] : List UInt8) = [c])) ≤ p.length := List.countP_le_length
  have c2 : (p.countP fun c => decide (([92] : List UInt8) = [c])) ≤ p.length := List.countP_le_length
  have k1 : strings_Count p [34] = some ((p.countP fun c => decide (([34] : List UInt8) = [c]) : Nat) : Int) := by unfold strings_Count; rw [if_pos ⟨rfl, by omega⟩]
  have k2 : strings_Count p [92] = some ((p.countP fun c => decide (([92] : List UInt8) = [c]) : Nat) : Int) := by unfold strings_Count; rw [if_pos ⟨rfl, by omega⟩]
  generalize (p.countP fun c => decide (([34] : List UInt8) = [c])) = a at *
  generalize (p.countP fun c => decide (([92] : List UInt8) = [c])) = b at *
  have t34 : idxO (tabk 2) ((34 : UInt8).toNat : Int) = some (some [92, 34]) := tab_at 34
  have t92 : idxO (tabk 2) ((92 : UInt8).toNat : Int) = some (some [92, 92]) := tab_at 92
  have e0 : idx (trk 2) 0 = some [34] := rfl
  have e1 : idx (trk 2) 1 = some [92] := rfl
  have l2 : ((trk 2).length : Int) = 2 := rfl
  have i34 : idx ([34] : List UInt8) 0 = some 34 := rfl
  have i92 : idx ([92] : List UInt8) 0 = some 92 := rfl
  have g2 : chk (((Option.getD (some ([92, 34] : List UInt8)) []).length : Int) - 1) = some 1 := rfl
  have g3 : chk (((Option.getD (some ([92, 92] : List UInt8)) []).length : Int) - 1) = some 1 := rfl
  have hend : ∀ m x y, strings_byteStringReplacer_Replace_L1 (tabk 2, trk 2) p (m + 1) x y 2 = some (x, y) := fun m x y => by
    rw [strings_byteStringReplacer_Replace_L1]
    dsimp only
    rw [l2, if_neg (by decide)]
  have h1 : ∀ m (x : Nat) y, x ≤ 3000 → strings_byteStringReplacer_Replace_L1 (tabk 2, trk 2) p (m + 1 + 1) (x : Int) y 1 = some (((x + b : Nat) : Int), if b = 0 then y else true) := fun m x y hx => by
    rw [strings_byteStringReplacer_Replace_L1]
    dsimp only
    rw [l2, if_pos (by decide), e1, bsome, k2, bsome]
    by_cases hb : b = 0
    · subst hb
      rw [if_pos rfl, show chk ((1 : Int) + 1) = some 2 from rfl, bsome, hend]; rfl
    · rw [if_neg (by omega), i92, bsome, t92, bsome, g3, bsome, chk_ok (by omega) (by omega), bsome, chk_ok (by omega) (by omega), bsome, show chk ((1 : Int) + 1) = some 2 from rfl, bsome, hend, if_neg hb, show ((x : Int) + (b : Int) * 1) = ((x + b : Nat) : Int) by omega]
  obtain ⟨K, hK⟩ : ∃ K, FU = K + 1 + 1 + 1 := ⟨18446744073709551613, rfl⟩
  rw [hK, strings_byteStringReplacer_Replace_L1]
  dsimp only
  rw [l2, if_pos (by decide), e0, bsome, k1, bsome]
  by_cases ha : a = 0
  · subst ha
    rw [if_pos (show ((0 : Nat) : Int) = 0 from rfl), show chk ((0 : Int) + 1) = some 1 from rfl, bsome, h1 _ _ _ (by omega), Nat.zero_add]
    by_cases hb : b = 0
    · subst hb; rfl
    · rw [if_neg hb, decide_eq_true hb]
  · rw [if_neg (by omega), i34, bsome, t34, bsome, g2, bsome, chk_ok (by omega) (by omega), bsome, chk_ok (by omega) (by omega), bsome, show chk ((0 : Int) + 1) = some 1 from rfl, bsome, show ((p.length : Int) + (a : Int) * 1) = ((p.length + a : Nat) : Int) by omega, h1 _ _ _ (by omega), decide_eq_true (by omega), ite_self, Nat.add_assoc]
theorem rep_L2 (p : List UInt8) (hp : p.length ≤ 1000) : strings_byteStringReplacer_Replace_L2 (tabk 2, trk 2) p FU (p.length : Int) false 0 = some (((p.length + cnt p : Nat) : Int), decide (cnt p ≠ 0)) := by
  have hf : ∀ (l : List UInt8) (a : Nat), l.foldl (fun (s : Nat) c => if (esc c).isSome = true then s + 1 else s) a = a + cnt l := by
    intro l
    induction l with
    | nil => intro a; rfl
    | cons c l ih =>
      intro a
      rw [List.foldl_cons, ih]
      unfold cnt
      rw [List.countP_cons]
      split <;> omega
  have := foldI0 (L := fun m (s : Nat) i => strings_byteStringReplacer_Replace_L2 (tabk 2, trk 2) p m ((p.length + s : Nat) : Int) (decide (s ≠ 0)) i) p (fun (s : Nat) c => if (esc c).isSome = true then s + 1 else s) (fun s => (((p.length + s : Nat) : Int), decide (s ≠ 0))) (fun i s => s ≤ i) (by omega) ?_ ?_ 0 (by omega)
  · rw [hf, Nat.zero_add] at this
    exact this
  · intro m s hs
    rw [strings_byteStringReplacer_Replace_L2, if_neg (by omega)]
  · intro m s i x hx hs
    have hi := (List.getElem?_eq_some_iff.1 hx).1
    refine ⟨by split <;> omega, ?_⟩
    rw [strings_byteStringReplacer_Replace_L2, if_pos (by omega), idx_nat, hx, bsome, tab_at, bsome]
    by_cases h : (esc x).isSome = true
    · obtain ⟨s2, hs2⟩ := Option.isSome_iff_exists.1 h
      have := esc_two hs2
      rw [if_pos h, if_pos h, bsome, hs2, Option.getD_some, this, show chk (((2 : Nat) : Int) - 1) = some 1 from rfl, bsome, chk_ok (by omega) (by omega), bsome, chk_succ (by omega), bsome, decide_eq_true (show s + 1 ≠ 0 by omega)]
      rfl
    · rw [if_neg h, if_neg h, chk_succ (by omega), bsome]
theorem rep_L3 (p : List UInt8) (hp : p.length ≤ 1000) : ∀ (d i m : Nat) (A : List UInt8), p.length - i ≤ d → d < m → i ≤ p.length → A.length ≤ 2 * i →
    strings_byteStringReplacer_Replace_L3 (tabk 2, trk 2) p m (A ++ List.replicate (qt (p.drop i)).length 0) (A.length : Int) (i : Int) = some (A ++ qt (p.drop i)) := by
  intro d
  induction d with
  | zero =>
    intro i m A h1 h2 h3 hA
    obtain ⟨m, rfl⟩ : ∃ k, m = k + 1 := ⟨m - 1, by omega⟩
    rw [strings_byteStringReplacer_Replace_L3, if_neg (by omega), List.drop_eq_nil_of_le (by omega)]; rfl
  | succ d ih =>
    intro i m A h1 h2 h3 hA
    obtain ⟨m, rfl⟩ : ∃ k, m = k + 1 := ⟨m - 1, by omega⟩
    by_cases hi : i < p.length
    · rw [strings_byteStringReplacer_Replace_L3, if_pos (by omega), idx_nat, List.getElem?_eq_getElem hi, bsome, tab_at, bsome, List.drop_eq_getElem_cons hi, qt_cons]
      unfold q1
      cases h : esc p[i] with
      | some s =>
        have hs := esc_two h
        have ht := tab_at p[i]
        rw [Option.isSome_some, if_pos rfl, frm_ok (by simp), bsome, bsome, Option.getD_some, Option.getD_some]
        have hc : cpyO (A ++ List.replicate (s ++ qt (p.drop (i + 1))).length 0) (A.length : Int) s = some ((A ++ s) ++ List.replicate (qt (p.drop (i + 1))).length 0, 2) := by
          unfold cpyO
          rw [Int.toNat_natCast, List.take_left]
          have e1 : s.take ((A ++ List.replicate (s ++ qt (p.drop (i + 1))).length (0 : UInt8)).length - A.length) = s := List.take_of_length_le (by rw [List.length_append, List.length_replicate, List.length_append]; omega)
          rw [e1, hs, List.drop_append, List.drop_eq_nil_of_le (by omega), List.nil_append, List.drop_replicate, show (s ++ qt (p.drop (i + 1))).length - (A.length + 2 - A.length) = (qt (p.drop (i + 1))).length by rw [List.length_append]; omega]
          rfl
        rw [hc, bsome]
        dsimp only
        rw [chk_ok (by omega) (by omega), bsome, chk_succ (by omega), bsome]
        have := ih (i + 1) m (A ++ s) (by omega) (by omega) (by omega) (by simp; omega)
        rw [show ((A ++ s).length : Int) = (A.length : Int) + 2 by simp; omega] at this
        rw [this, List.append_assoc]
      | none =>
        rw [Option.isSome_none, if_neg (by decide), Option.getD_none]
        have e0 : A ++ List.replicate ([p[i]] ++ qt (p.drop (i + 1))).length (0 : UInt8) = A ++ 0 :: List.replicate (qt (p.drop (i + 1))).length 0 := by
          rw [List.length_append, List.length_singleton, Nat.add_comm, List.replicate_succ]
        rw [e0, idx_nat, List.getElem?_append_right (Nat.le_refl _), Nat.sub_self, List.getElem?_cons_zero, bsome, put_ok (by omega) (by simp; omega), bsome, chk_succ (by omega), bsome, chk_succ (by omega), bsome, Int.toNat_natCast, List.set_append_right (h := Nat.le_refl _), Nat.sub_self, List.set_cons_zero]
        have := ih (i + 1) m (A ++ [p[i]]) (by omega) (by omega) (by omega) (by simp; omega)
        rw [show ((A ++ [p[i]]).length : Int) = ((A.length + 1 : Nat) : Int) by simp, List.append_assoc] at this
        rw [show (p[i] :: List.replicate (qt (p.drop (i + 1))).length (0 : UInt8)) = [p[i]] ++ List.replicate (qt (p.drop (i + 1))).length 0 from rfl, this, List.append_assoc]
    · rw [strings_byteStringReplacer_Replace_L3, if_neg (by omega), List.drop_eq_nil_of_le (by omega)]; rfl
theorem replace_eq (p : List UInt8) (hp : p.length ≤ 1000) : strings_Replacer_Replace p = some (qt p) := by
  unfold strings_Replacer_Replace strings_byteStringReplacer_Replace
  have hc : cnt p ≤ p.length := List.countP_le_length
  dsimp only
  rw [show chk (((trk 2).length : Int) * 8) = some 16 from rfl, bsome, rep_L1 p hp, rep_L2 p hp, bsome]
  dsimp only
  rw [ite_self, bsome]
  dsimp only
  by_cases h : cnt p = 0
  · rw [decide_eq_false (by omega), if_neg (by decide), qt_id p h]
  · rw [decide_eq_true h, if_pos rfl, mkS_ok (by omega) (by omega) (by omega) (by omega), bsome, Int.toNat_natCast, ← qt_len]
    have := rep_L3 p hp p.length 0 FU [] (by omega) (FU_gt (by omega)) (by omega) (by simp)
    simp only [List.length_nil, Int.natCast_zero, List.drop_zero, List.nil_append] at this
    rw [this, bsome]
theorem rquote_eq (p : List UInt8) (hp : p.length ≤ 1000) : R_Quote p = some ([34] ++ qt p ++ [34]) := by
  unfold R_Quote
  rw [foldI0 (L := fun m s i => R_Quote_L1 p m s i) p (fun o c => o ++ q1 c) id (fun i s => s.length ≤ 2 * i + 1) (by omega) ?_ ?_ [34] (by simp), foldl_app, bsome]
  · rw [cat_ok (by have := qt_len p; have hc : cnt p ≤ p.length := List.countP_le_length; unfold qt at this; simp at this ⊢; omega), bsome]; rfl
  · intro m s hs
    rw [R_Quote_L1, if_neg (by omega)]; rfl
  · intro m s i x hx hs
    have hi := (List.getElem?_eq_some_iff.1 hx).1
    have hq : q1 x = if x = 34 ∨ x = 92 then [92, x] else [x] := by
      unfold q1 esc
      by_cases h1 : x = 34
      · subst h1; rfl
      · by_cases h2 : x = 92
        · subst h2; rfl
        · simp [h1, h2]
    have hc : (p.take (i + 1)).drop i = [x] := by
      rw [List.getElem?_eq_getElem hi] at hx
      cases hx
      rw [List.drop_take, show i + 1 - i = 1 by omega, List.drop_eq_getElem_cons hi]; rfl
    refine ⟨by rw [hq, List.length_append]; split <;> simp <;> omega, ?_⟩
    rw [R_Quote_L1, if_pos (by omega), idx_nat, hx, bsome, bsome, hq, chk_succ (by omega)]
    by_cases h : x = 34 ∨ x = 92
    · have e : (if x = 34 then some true else some (decide (x = 92))) = some true := by
        rcases h with rfl | rfl <;> rfl
      rw [e, bsome, if_pos rfl, if_pos h, cat_ok (by simp; omega), bsome, bsome, bsome, cut_of rfl rfl (by omega) (by omega), bsome, hc, cat_ok (by simp; omega), bsome, bsome, List.append_assoc]; rfl
    · have e : (if x = 34 then some true else some (decide (x = 92))) = some false := by
        rw [if_neg (fun e => h (.inl e)), decide_eq_false (fun e => h (.inr e))]
      rw [e, bsome, if_neg (by decide), if_neg h, bsome, bsome, cut_of rfl rfl (by omega) (by omega), bsome, hc, cat_ok (by simp; omega), bsome, bsome]
end Go.Ph.Md
end
section
set_option linter.unusedVariables false
set_option linter.unusedSimpArgs false
namespace Go.Ph.Md
open Go.Ph.Pl Go.Ph.Pf
open Go.Ph.Chs (vld lower)
def pct1 (c : UInt8) : List UInt8 := if tkB c = true then [c] else [37, hx (c.toNat / 16), hx (c.toNat % 16)]
theorem pct1_len (c : UInt8) : 1 ≤ (pct1 c).length ∧ (pct1 c).length ≤ 3 := by unfold pct1; split <;> simp
def pre8 : List UInt8 := [117, 116, 102, 56, 39, 39]
abbrev PS : Type := List (List UInt8) × List UInt8
def psS (st : PS) (c : UInt8) : PS := if st.2.length + (pct1 c).length ≤ 60 then (st.1, st.2 ++ pct1 c) else (st.1 ++ [st.2], pct1 c)
def psF (v : List UInt8) : PS := v.foldl psS ([], pre8)
def pieces (v : List UInt8) : List (List UInt8) := (psF v).1 ++ [(psF v).2]
def psI (i : Nat) (st : PS) : Prop := st.1.length ≤ i ∧ st.2.length ≤ 60 ∧ ∀ p ∈ st.1, p.length ≤ 60
theorem psI_step {i : Nat} {st : PS} (c : UInt8) (h : psI i st) : psI (i + 1) (psS st c) := by
  obtain ⟨h1, h2, h3⟩ := h
  have := pct1_len c
  unfold psS
  split
  · refine ⟨by dsimp only; omega, by dsimp only; rw [List.length_append]; omega, h3⟩
  · refine ⟨by dsimp only; rw [List.length_append, List.length_singleton]; omega, by dsimp only; omega, fun p hp => ?_⟩
    rcases List.mem_append.1 hp with hp | hp
    · exact h3 p hp
    · rw [List.mem_singleton.1 hp]; exact h2
theorem psI_fold : ∀ (v : List UInt8) (i : Nat) (st : PS), psI i st → psI (i + v.length) (v.foldl psS st)
  | [], i, st, h => h
  | c :: v, i, st, h => by
    have := psI_fold v (i + 1) _ (psI_step c h)
    rw [List.foldl_cons, List.length_cons, show i + (v.length + 1) = i + 1 + v.length by omega]
    exact this
theorem psI_of (v : List UInt8) : psI v.length (psF v) := by
  have := psI_fold v 0 ([], pre8) ⟨Nat.le_refl _, by decide, fun p hp => by cases hp⟩
  rwa [Nat.zero_add] at this
theorem last_idx {α : Type} (A : List α) (x : α) : idx (A ++ [x]) (A.length : Int) = some x := by
  rw [idx_nat, List.getElem?_append_right (Nat.le_refl _), Nat.sub_self]; rfl
theorem last_put {α : Type} (A : List α) (x y : α) : put (A ++ [x]) (A.length : Int) y = some (A ++ [y]) := by
  rw [put_ok (by omega) (by simp; omega), Int.toNat_natCast, List.set_append_right (h := Nat.le_refl _), Nat.sub_self]; rfl
theorem last_chk {α : Type} (A : List α) (x : α) (h : A.length ≤ 1000000) : chk (((A ++ [x]).length : Int) - 1) = some (A.length : Int) := by
  rw [List.length_append, List.length_singleton, chk_pred (by omega) (by omega)]; rfl
theorem cut_one {v : List UInt8} {i : Nat} {x : UInt8} (hx : v[i]? = some x) : cut v (i : Int) ((i + 1 : Nat) : Int) = some [x] := by
  have hi := (List.getElem?_eq_some_iff.1 hx).1
  rw [List.getElem?_eq_getElem hi] at hx
  cases hx
  rw [cut_of rfl rfl (by omega) (by omega), List.drop_take, show i + 1 - i = 1 by omega, List.drop_eq_getElem_cons hi]; rfl
theorem pieces_eq (v : List UInt8) (hv : v.length ≤ 500) : media_pieces v = some (pieces v) := by
  unfold media_pieces
  have := foldI0 (L := fun m (st : PS) i => media_pieces_L1 v m (st.1 ++ [st.2]) i) v psS (fun st => st.1 ++ [st.2]) psI (by omega) ?_ ?_ ([], pre8) ⟨Nat.le_refl _, by decide, fun p hp => by cases hp⟩
  · rw [show ([[117, 116, 102, 56, 39, 39]] : List (List UInt8)) = [] ++ [pre8] from rfl, this, bsome]; rfl
  · intro m st hs
    rw [media_pieces_L1, if_neg (by omega)]
  · intro m st i x hx hs
    have hi := (List.getElem?_eq_some_iff.1 hx).1
    refine ⟨psI_step x hs, ?_⟩
    obtain ⟨A, p⟩ := st
    obtain ⟨hA, hp, hB⟩ := hs
    dsimp only at hA hp hB ⊢
    have hl := pct1_len x
    rw [media_pieces_L1, if_pos (by omega), chk_succ (by omega), bsome, cut_one hx, bsome, idx_nat, hx, bsome, tokenByte_eq, bsome, bsome, digit_hi, bsome, bsome, digit_lo, bsome]
    have e : (if tkB x = true then some [x] else some [37, Md.hx (x.toNat / 16), Md.hx (x.toNat % 16)]) = some (pct1 x) := by unfold pct1; split <;> rfl
    rw [e, bsome, last_chk _ _ (by omega), bsome, last_idx, bsome, chk_ok (by omega) (by omega), bsome, bsome]
    unfold psS
    dsimp only
    by_cases h60 : p.length + (pct1 x).length ≤ 60
    · rw [if_pos (by omega), if_pos h60, cat_ok (by omega), bsome, bsome, last_put, bsome, bsome]
    · rw [if_neg (by omega), if_neg h60, app_ok (by simp; omega), bsome, bsome]
def exU (n : List UInt8) (i : Nat) (p : List UInt8) : List UInt8 := [59, 32] ++ n ++ [42] ++ itoaP i ++ [42, 61] ++ p
def exT (n : List UInt8) : Nat → List (List UInt8) → List UInt8
  | _, [] => []
  | i, p :: r => exU n i p ++ exT n (i + 1) r
theorem exT_app (n : List UInt8) : ∀ (A B : List (List UInt8)) (i : Nat), exT n i (A ++ B) = exT n i A ++ exT n (i + A.length) B
  | [], B, i => rfl
  | p :: A, B, i => by
    rw [List.cons_append, exT, exT, exT_app n A B (i + 1), List.append_assoc, List.length_cons, show i + 1 + A.length = i + (A.length + 1) by omega]
theorem exU_len (n : List UInt8) (i : Nat) (p : List UInt8) : (exU n i p).length ≤ n.length + p.length + 30 := by
  unfold exU
  have := itoa_len i
  simp only [List.length_append, List.length_cons, List.length_nil]
  omega
theorem exT_len (n : List UInt8) : ∀ (A : List (List UInt8)) (i : Nat), (∀ p ∈ A, p.length ≤ 60) → (exT n i A).length ≤ A.length * (n.length + 90)
  | [], i, h => by simp [exT]
  | p :: A, i, h => by
    have h1 := exT_len n A (i + 1) (fun q hq => h q (by simp [hq]))
    have h2 := exU_len n i p
    have h3 := h p (by simp)
    rw [exT, List.length_append, List.length_cons, Nat.succ_mul]
    omega
theorem pieces_len (v : List UInt8) : (pieces v).length ≤ v.length + 1 ∧ ∀ p ∈ pieces v, p.length ≤ 60 := by
  obtain ⟨h1, h2, h3⟩ := psI_of v
  unfold pieces
  refine ⟨by rw [List.length_append, List.length_singleton]; omega, fun p hp => ?_⟩
  rcases List.mem_append.1 hp with hp | hp
  · exact h3 p hp
  · rw [List.mem_singleton.1 hp]; exact h2
theorem exU_cat (n p o : List UInt8) (i : Nat) (hn : n.length ≤ 1000) (hp : p.length ≤ 1000) (ho : o.length ≤ 10000000) {γ : Type} (k : List UInt8 → Option γ) :
    ((cat o [59, 32]).bind fun s61 => (cat s61 n).bind fun s62 => (cat s62 [42]).bind fun s63 => (some (itoaP i)).bind fun s64 => (cat s63 s64).bind fun s66 => (cat s66 [42, 61]).bind fun s67 => (cat s67 p).bind k) = k (o ++ exU n i p) := by
  have := itoa_len i
  rw [cat_ok (by simp; omega), bsome, cat_ok (by simp; omega), bsome, cat_ok (by simp; omega), bsome, bsome, cat_ok (by simp; omega), bsome, cat_ok (by simp; omega), bsome, cat_ok (by simp; omega), bsome]
  congr 1
  unfold exU
  simp only [List.append_assoc]
theorem param_L1 (x : Par) (l : List (List UInt8)) (hx : x.1.length ≤ 60) (hl : l.length ≤ 1000) (h60 : ∀ p ∈ l, p.length ≤ 60) : ∀ (d i m : Nat) (s : List UInt8), l.length - i ≤ d → d < m → i ≤ l.length → s.length ≤ 1000 * i →
    media_param_L1 x l m s (i : Int) = some (s ++ exT x.1 i (l.drop i)) := by
  intro d
  induction d with
  | zero =>
    intro i m s h1 h2 h3 hs
    obtain ⟨m, rfl⟩ : ∃ k, m = k + 1 := ⟨m - 1, by omega⟩
    rw [media_param_L1, if_neg (by omega), List.drop_eq_nil_of_le (by omega), exT, List.append_nil]
  | succ d ih =>
    intro i m s h1 h2 h3 hs
    obtain ⟨m, rfl⟩ : ∃ k, m = k + 1 := ⟨m - 1, by omega⟩
    by_cases hi : i < l.length
    · have hp := h60 _ (List.getElem_mem hi)
      have hit := itoa_len i
      have hu := exU_len x.1 i l[i]
      rw [media_param_L1, if_pos (by omega), idx_nat, List.getElem?_eq_getElem hi, bsome, cat_ok (by simp; omega), bsome, cat_ok (by simp; omega), bsome, itoa_eq i (by omega), bsome, cat_ok (by simp; omega), bsome, cat_ok (by simp; omega), bsome, cat_ok (by simp; omega), bsome, chk_succ (by omega)]
      rw [show [59, 32] ++ x.1 ++ [42] ++ itoaP (i : Int) ++ [42, 61] ++ l[i] = exU x.1 i l[i] from rfl, cat_ok (by omega), bsome, bsome, ih (i + 1) m _ (by omega) (by omega) (by omega) (by rw [List.length_append]; omega), List.drop_eq_getElem_cons hi, exT, List.append_assoc]
    · rw [media_param_L1, if_neg (by omega), List.drop_eq_nil_of_le (by omega), exT, List.append_nil]
def prB (c : UInt8) : Bool := decide (32 ≤ c.toNat ∧ c.toNat ≤ 126)
theorem pr_eq (c : UInt8) : media_param_1 c = some (prB c) := by
  refine allB (p := fun c => media_param_1 c = some (prB c)) ?_ c
  decide +kernel
def simp60 (v : List UInt8) : Bool := decide (v.length ≤ 60) && v.all prB
def paramT (x : Par) : List UInt8 :=
  if tkT x.2 = true then [59, 32] ++ x.1 ++ [61] ++ x.2 else if simp60 x.2 = true then [59, 32] ++ x.1 ++ [61, 34] ++ qt x.2 ++ [34] else exT x.1 0 (pieces x.2)
theorem exTp_len (x : Par) (h1 : x.1.length ≤ 20) (h2 : x.2.length ≤ 500) : (exT x.1 0 (pieces x.2)).length ≤ 60000 := by
  obtain ⟨a, b⟩ := pieces_len x.2
  have := exT_len x.1 (pieces x.2) 0 b
  have h3 : (pieces x.2).length * (x.1.length + 90) ≤ 501 * 110 := Nat.mul_le_mul (by omega) (by omega)
  omega
theorem paramT_len (x : Par) (h1 : x.1.length ≤ 20) (h2 : x.2.length ≤ 500) : (paramT x).length ≤ 60000 := by
  unfold paramT
  have hq := qt_len x.2
  have hc : cnt x.2 ≤ x.2.length := List.countP_le_length
  split
  · simp; omega
  · split
    · simp; omega
    · exact exTp_len x h1 h2
theorem param_eq (x : Par) (h1 : x.1.length ≤ 20) (h2 : x.2.length ≤ 500) : media_param x = some (paramT x) := by
  unfold media_param paramT
  have hq := qt_len x.2
  have hc : cnt x.2 ≤ x.2.length := List.countP_le_length
  rw [token_eq _ (by unfold Big; omega), bsome]
  by_cases h : tkT x.2 = true
  · rw [if_pos h, if_pos h, cat_ok (by simp; omega), bsome, cat_ok (by simp; omega), bsome, cat_ok (by simp; omega), bsome]
  · rw [if_neg h, if_neg h, all_eq x.2 (by unfold Big; omega) _ prB pr_eq, bsome]
    have e : (if (x.2.length : Int) ≤ 60 then some (x.2.all prB) else some false) = some (simp60 x.2) := by
      unfold simp60
      by_cases h6 : x.2.length ≤ 60
      · rw [if_pos (by omega), decide_eq_true h6, Bool.true_and]
      · rw [if_neg (by omega), decide_eq_false h6, Bool.false_and]
    rw [e, bsome]
    by_cases hs : simp60 x.2 = true
    · rw [if_pos hs, if_pos hs, cat_ok (by simp; omega), bsome, cat_ok (by simp; omega), bsome]
      unfold strings_NewReplacer
      rw [if_pos rfl, bsome, replace_eq _ (by omega), bsome, cat_ok (by simp; omega), bsome, cat_ok (by simp; omega), bsome]
    · rw [if_neg hs, if_neg hs, pieces_eq _ h2, bsome]
      obtain ⟨a, b⟩ := pieces_len x.2
      have := param_L1 x (pieces x.2) (by omega) (by omega) b (pieces x.2).length 0 FU [] (by omega) (FU_gt (by omega)) (by omega) (by simp)
      rw [Int.natCast_zero, List.drop_zero, List.nil_append] at this
      rw [this, bsome]
theorem rsimple_eq (x : Par) (hx : x.2.length ≤ 500) : R_ParamText_L1 x FU (decide ((x.2.length : Int) ≤ 60)) 0 = some (simp60 x.2) := by
  have hf : ∀ (l : List UInt8) (b : Bool), l.foldl (fun b c => b && prB c) b = (b && l.all prB) := by
    intro l
    induction l with
    | nil => intro b; simp
    | cons c l ih => intro b; rw [List.foldl_cons, ih, List.all_cons, Bool.and_assoc]
  have := foldI0 (L := fun m b i => R_ParamText_L1 x m b i) x.2 (fun b c => b && prB c) id (fun _ _ => True) (by omega) ?_ ?_ (decide ((x.2.length : Int) ≤ 60)) trivial
  · rw [this, hf]
    unfold simp60
    rw [show decide ((x.2.length : Int) ≤ 60) = decide (x.2.length ≤ 60) from decide_eq_decide.2 (by omega)]; rfl
  · intro m b _
    rw [R_ParamText_L1, if_neg (by omega)]; rfl
  · intro m b i c hc _
    have hi := (List.getElem?_eq_some_iff.1 hc).1
    refine ⟨trivial, ?_⟩
    rw [R_ParamText_L1, if_pos (by omega), idx_nat, hc, bsome, rin_eq, bsome, chk_succ (by omega)]
    have e : (if b = true then some (decide ((32 : Int) ≤ (c.toNat : Int) ∧ (c.toNat : Int) ≤ 126)) else some false) = some (b && prB c) := by
      unfold prB
      cases b
      · rfl
      · rw [if_pos rfl, Bool.true_and]; congr 1; exact decide_eq_decide.2 (by omega)
    rw [e, bsome, bsome]
theorem rpieces_eq (x : Par) (h1 : x.1.length ≤ 20) (h2 : x.2.length ≤ 500) : R_ParamText_L2 x FU [] [117, 116, 102, 56, 39, 39] 0 0 = some (exT x.1 0 (psF x.2).1, (psF x.2).2, ((psF x.2).1.length : Int)) := by
  have := foldI0 (L := fun m (st : PS) i => R_ParamText_L2 x m (exT x.1 0 st.1) st.2 (st.1.length : Int) i) x.2 psS (fun st => (exT x.1 0 st.1, st.2, (st.1.length : Int))) psI (by omega) ?_ ?_ ([], pre8) ⟨Nat.le_refl _, by decide, fun p hp => by cases hp⟩
  · exact this
  · intro m st hs
    rw [R_ParamText_L2, if_neg (by omega)]
  · intro m st i c hx hs
    have hi := (List.getElem?_eq_some_iff.1 hx).1
    refine ⟨psI_step c hs, ?_⟩
    obtain ⟨A, p⟩ := st
    obtain ⟨hA, hp, hB⟩ := hs
    dsimp only at hA hp hB ⊢
    have hl := pct1_len c
    have hE := exT_len x.1 A 0 hB
    have hE2 : A.length * (x.1.length + 90) ≤ 500 * 110 := Nat.mul_le_mul (by omega) (by omega)
    rw [R_ParamText_L2, if_pos (by omega), idx_nat, hx, bsome, two_eq, bsome, cat_ok (by simp), bsome, bsome, rtokenByte_eq, bsome, chk_succ (by omega), bsome, cut_one hx, bsome]
    have e : (if tkB c = true then some [c] else some ([37] ++ [Md.hx (c.toNat / 16), Md.hx (c.toNat % 16)])) = some (pct1 c) := by unfold pct1; split <;> rfl
    rw [e, bsome, chk_ok (by omega) (by omega), bsome, number_eq _ (by omega), exU_cat _ _ _ _ (by omega) (by omega) (by omega), chk_succ (by omega), bsome]
    unfold psS
    dsimp only
    by_cases h60 : p.length + (pct1 c).length ≤ 60
    · rw [if_neg (by omega), if_pos h60, bsome]
      dsimp only
      rw [cat_ok (by omega), bsome, bsome]
    · rw [if_pos (by omega), if_neg h60, bsome]
      dsimp only
      rw [cat_ok (by simp; omega), bsome, bsome, exT_app, exT, exT, List.append_nil, Nat.zero_add, List.length_append, List.length_singleton]; rfl
theorem rparam_eq (x : Par) (h1 : x.1.length ≤ 20) (h2 : x.2.length ≤ 500) : R_ParamText x = some (paramT x) := by
  unfold R_ParamText paramT
  have hq := qt_len x.2
  have hc : cnt x.2 ≤ x.2.length := List.countP_le_length
  rw [rtoken_eq _ (by unfold Big; omega), bsome]
  by_cases h : tkT x.2 = true
  · rw [if_pos h, if_pos h, cat_ok (by simp; omega), bsome, cat_ok (by simp; omega), bsome, cat_ok (by simp; omega), bsome]
  · rw [if_neg h, if_neg h, rsimple_eq x h2, bsome]
    by_cases hs : simp60 x.2 = true
    · rw [if_pos hs, if_pos hs, cat_ok (by simp; omega), bsome, cat_ok (by simp; omega), bsome, rquote_eq _ (by omega), bsome, cat_ok (by simp; omega), bsome]
      simp
    · rw [if_neg hs, if_neg hs, rpieces_eq x h1 h2, bsome]
      dsimp only
      obtain ⟨a, b, c⟩ := psI_of x.2
      have hE := exT_len x.1 (psF x.2).1 0 c
      have hE2 : (psF x.2).1.length * (x.1.length + 90) ≤ 500 * 110 := Nat.mul_le_mul (by omega) (by omega)
      rw [number_eq _ (by omega), exU_cat _ _ _ _ (by omega) (by omega) (by omega)]
      unfold pieces
      rw [exT_app, exT, exT, List.append_nil, Nat.zero_add]
def mediaT (m : Med) : List UInt8 := m.1 ++ [47] ++ m.2.1 ++ m.2.2.flatMap paramT
theorem flat_len {l : List Par} (h : ∀ x ∈ l, (paramT x).length ≤ 60000) : (l.flatMap paramT).length ≤ 60000 * l.length := by
  induction l with
  | nil => simp
  | cons x l ih =>
    have h1 := ih (fun y hy => h y (by simp [hy]))
    have h2 := h x (by simp)
    rw [List.flatMap_cons, List.length_append, List.length_cons, Nat.mul_succ]; omega
theorem pfz_all : ∀ (l pre : List Par), (pfz pre l).1 = 0 → ∀ x ∈ l, tkT x.1 = true ∧ x.1.length ≤ 20 ∧ x.2.length ≤ 500 ∧ vld x.2 = true
  | [], pre, h, x, hx => by cases hx
  | y :: l, pre, h, x, hx => by
    rw [pfz] at h
    by_cases hy : pf1 pre y = 0
    · rw [if_pos hy] at h
      rcases List.mem_cons.1 hx with rfl | hx
      · unfold pf1 at hy
        by_cases c1 : tkT x.1 = true ∧ x.1.length ≤ 20
        · rw [if_pos c1] at hy
          by_cases c2 : pre.any (smP x) = true
          · rw [if_pos c2] at hy; exact absurd hy (by decide)
          · rw [if_neg c2] at hy
            by_cases c3 : 500 < x.2.length
            · rw [if_pos c3] at hy; exact absurd hy (by decide)
            · rw [if_neg c3] at hy
              by_cases c4 : vld x.2 = true
              · exact ⟨c1.1, c1.2, by omega, c4⟩
              · rw [if_neg c4] at hy; exact absurd hy (by decide)
        · rw [if_neg c1] at hy; exact absurd hy (by decide)
      · exact pfz_all l _ h x hx
    · rw [if_neg hy] at h; exact absurd h hy
theorem valid_all {m : Med} (h : (valM m).1 = 0) : ∀ x ∈ m.2.2, tkT x.1 = true ∧ x.1.length ≤ 20 ∧ x.2.length ≤ 500 ∧ vld x.2 = true := pfz_all _ _ (valM_zero h).2.2.2.1
def printR (m : Med) : List UInt8 × (Int × Int) := if (valM m).1 = 0 then (if 4000 < (mediaT m).length then ([], (1, -4)) else (mediaT m, (0, 0))) else ([], valM m)
theorem textL (l : List Par) (hl : l.length ≤ 60) (hv : ∀ x ∈ l, x.1.length ≤ 20 ∧ x.2.length ≤ 500) {L : Nat → List UInt8 → Int → Option (List UInt8)} (hend : ∀ m s, L (m + 1) s (l.length : Int) = some s)
    (hstep : ∀ m s i x, l[i]? = some x → s.length ≤ 130 + 60000 * i → i < l.length → L (m + 1) s (i : Int) = L m (s ++ paramT x) ((i + 1 : Nat) : Int)) (s : List UInt8) (hs : s.length ≤ 130) : L FU s 0 = some (s ++ l.flatMap paramT) := by
  rw [foldI0 (L := L) l (fun o x => o ++ paramT x) id (fun i s => s.length ≤ 130 + 60000 * i) (by omega) ?_ ?_ s (by omega), foldl_app]
  · rfl
  · intro m s _
    exact hend m s
  · intro m s i x hx hI
    have h1 := hv x (List.mem_of_getElem? hx)
    have h2 := paramT_len x h1.1 h1.2
    exact ⟨by rw [List.length_append]; omega, hstep m s i x hx hI (List.getElem?_eq_some_iff.1 hx).1⟩
theorem mediaT_len {m : Med} (h : (valM m).1 = 0) : (mediaT m).length ≤ 4000000 := by
  obtain ⟨h1, h2, h3, _⟩ := valM_zero h
  have hv := valid_all h
  have a := tkT_len h1
  have b := tkT_len h2
  have c := flat_len (l := m.2.2) (fun x hx => paramT_len x (hv x hx).2.1 (hv x hx).2.2.1)
  unfold mediaT
  simp only [List.length_append, List.length_singleton]
  omega
theorem print_eq (m : Med) (hb : BigM m) : media_Print m = some (printR m) := by
  unfold media_Print printR
  rw [show (m.1, m.2.1, m.2.2) = m from rfl, validate_eq m hb, bsome]
  have hz := @valM_zero m
  have hv := @valid_all m
  have hT := @mediaT_len m
  obtain ⟨⟨a, b⟩, he⟩ : ∃ p, valM m = p := ⟨_, rfl⟩
  rw [he] at hz hv hT ⊢
  dsimp only at hz hv hT ⊢
  rw [failed_eq, bsome]
  by_cases ha : a = 0
  · obtain ⟨h1, h2, h3, _⟩ := hz ha
    have t1 := tkT_len h1
    have t2 := tkT_len h2
    rw [decide_eq_true ha, if_neg (by decide), if_pos ha, cat_ok (by simp; omega), bsome, cat_ok (by simp; omega), bsome, textL m.2.2 h3 (fun x hx => ⟨(hv ha x hx).2.1, (hv ha x hx).2.2.1⟩) (L := fun k s i => media_Print_L1 m k s i) ?_ ?_ _ (by simp; omega), bsome]
    · rw [show m.1 ++ [47] ++ m.2.1 ++ m.2.2.flatMap paramT = mediaT m from rfl]
      by_cases h4 : 4000 < (mediaT m).length
      · rw [if_pos (by omega), if_pos h4, fault_eq, bsome]
      · rw [if_neg (by omega), if_neg h4, none_eq, bsome]
    · intro k s
      rw [media_Print_L1, if_neg (by omega)]
    · intro k s i x hx hs hi
      have hxv := hv ha x (List.mem_of_getElem? hx)
      have := paramT_len x hxv.2.1 hxv.2.2.1
      rw [media_Print_L1, if_pos (by omega), idx_nat, hx, bsome, show (x.1, x.2) = x from rfl, param_eq x hxv.2.1 hxv.2.2.1, bsome, cat_ok (by omega), bsome, chk_succ (by omega), bsome]
  · rw [decide_eq_false ha, if_pos (by decide), if_neg ha]
theorem rtext_eq (m : Med) (h : (valM m).1 = 0) : R_MediaText m = some (mediaT m) := by
  obtain ⟨h1, h2, h3, _⟩ := valM_zero h
  have hv := valid_all h
  have t1 := tkT_len h1
  have t2 := tkT_len h2
  unfold R_MediaText
  rw [cat_ok (by simp; omega), bsome, cat_ok (by simp; omega), bsome, textL m.2.2 h3 (fun x hx => ⟨(hv x hx).2.1, (hv x hx).2.2.1⟩) (L := fun k s i => R_MediaText_L1 m k s i) ?_ ?_ _ (by simp; omega), bsome]
  · rfl
  · intro k s
    rw [R_MediaText_L1, if_neg (by omega)]
  · intro k s i x hx hs hi
    have hxv := hv x (List.mem_of_getElem? hx)
    have := paramT_len x hxv.2.1 hxv.2.2.1
    rw [R_MediaText_L1, if_pos (by omega), idx_nat, hx, bsome, show (x.1, x.2) = x from rfl, rparam_eq x hxv.2.1 hxv.2.2.1, bsome, cat_ok (by omega), bsome, chk_succ (by omega), bsome]
theorem print_law (ex : L_mediaExample = some true) (m : Med) (hb : BigM m) : L_MediaPrintMatchesSpec m = some true := by
  unfold L_MediaPrintMatchesSpec
  rw [show (m.1, m.2.1, m.2.2) = m from rfl, ex, bsome, if_pos rfl, validate_eq m hb, rfault_eq m hb, print_eq m hb]
  have hT := @rtext_eq m
  unfold printR
  obtain ⟨⟨a, b⟩, he⟩ : ∃ p, valM m = p := ⟨_, rfl⟩
  rw [he] at hT ⊢
  dsimp only at hT ⊢
  rw [bsome, bsome]
  dsimp only
  rw [show (!decide (a = a ∧ b = b)) = false by simp, bsome, if_neg (by decide)]
  by_cases ha : a = 0
  · by_cases h4 : 4000 < (mediaT m).length
    · have h4' : (4000 : Int) < ((mediaT m).length : Int) := by omega
      rw [if_pos ha, if_pos h4]
      simp [hT ha, ha, h4', at_eq]
    · have h4' : ¬ (4000 : Int) < ((mediaT m).length : Int) := by omega
      rw [if_pos ha, if_neg h4]
      simp [hT ha, ha, h4', at_eq]
  · rw [if_neg ha]
    simp [ha, at_eq]
end Go.Ph.Md
end
section
set_option linter.unusedVariables false
set_option linter.unusedSimpArgs false
namespace Go.Ph.Md
open Go.Ph.Pl Go.Ph.Pf
theorem ex_law : L_mediaExample = some true := by decide +kernel
theorem bigM_of {z : List UInt8 × List UInt8 × List (List UInt8 × List UInt8)} (h : z.1.length ≤ 140737488351232 ∧ z.2.1.length ≤ 140737488351232 ∧ ∀ a ∈ z.2.2, a.1.length ≤ 140737488351232 ∧ a.2.length ≤ 140737488351232) : BigM z :=
  ⟨Nat.le_trans h.1 (by decide), Nat.le_trans h.2.1 (by decide), fun a ha => ⟨Nat.le_trans (h.2.2 a ha).1 (by decide), Nat.le_trans (h.2.2 a ha).2 (by decide)⟩⟩
end Go.Ph.Md
end
