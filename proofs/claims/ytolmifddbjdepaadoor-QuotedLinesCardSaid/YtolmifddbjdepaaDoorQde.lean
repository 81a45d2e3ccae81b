/-
  quoted.Decode: walks over the program's own operations, written by a program of this repository (wip/tools/gen.py) out of a plan.
-/
import Derived.Test.YtolmifddbjdepaaDoorQle
import Derived.KernelRfl
set_option linter.unusedVariables false
set_option linter.unusedSimpArgs false
namespace Go.Proofs.YtolmifddbjdepaaDoor
open Go Go.RowKit Go.Ph

open Go.Ph.Qp Go.Ph.Chs
theorem qdec_big (v : Value) (l : List UInt8) (hs : 48000 < l.length) : Ct Tryd.prog 19 [v] (fun M => Bs M v l) (fun r _ => r = .tuple #[.slice none 0 0, fault 1 (-1)]) := by
  refine Ct.of Tryd.func19 (enters Tryd.func19 (by kernel_rfl) rfl) rfl rfl rfl ?_
  intro w0 M0 H hp
  refine WC.seq ?_
  refine WC.region ?_
  refine WR.step (Ex.assign rfl) (Wn.none rfl) rfl rfl ?_
  refine WR.alloc [_, _] H Tryd.zeroValue25 rfl (Wn.none rfl) rfl ?_
  intro b3 w H
  refine WR.nil ?_
  refine WQ.then ?_
  refine WC.seq ?_
  refine WC.region ?_
  refine WR.step (Ex.move rfl) (Wn.none rfl) rfl rfl ?_
  refine WR.call H (qlen_big _ _ hs) rfl (by assumption) (Wn.none rfl) rfl ?_
  intro v10 M w H hle hr10
  replace hp := hp.mono hle
  obtain rfl := hr10
  refine WR.step (Ex.move rfl) (Wn.none rfl) rfl rfl ?_
  refine WR.step (Ex.extract rfl rfl) (Wn.none rfl) rfl rfl ?_
  refine WR.step (Ex.extract rfl rfl) (Wn.none rfl) rfl rfl ?_
  refine WR.alloc [_, _] H Tryd.zeroValue25 rfl (Wn.none rfl) rfl ?_
  intro b5 w H
  refine WR.step (Ex.assign rfl) (Wn.none rfl) rfl rfl ?_
  refine WR.store [_, _] H rfl rfl rfl (by repeat (first | exact Upd.head | apply Upd.tail)) Tryd.sizeOf25 rfl (by rfl) (by rfl) (Wn.none rfl) ?_
  intro w H
  refine WR.nil ?_
  refine WQ.then ?_
  refine WC.seq ?_
  refine WC.seq ?_
  refine WC.region ?_
  first | refine WR.step (Ex.loadAgg H rfl (by repeat (first | exact List.Mem.head _ | apply List.Mem.tail)) Tryd.isAgg25 Tryd.sizeOf25 (by rfl)) (Wn.none rfl) rfl rfl ?_ | refine WR.step (Ex.loadAggM H rfl (by assumption) Tryd.isAgg25 Tryd.sizeOf25 (by rfl)) (Wn.none rfl) rfl rfl ?_
  refine WR.call H (failed_spec _ _) rfl (trivial) (Wn.none rfl) rfl ?_
  intro v14 M w H hle hr14
  replace hp := hp.mono hle
  obtain rfl := hr14
  refine WR.nil ?_
  refine WQ.then ?_
  refine WC.condT rfl ?_
  refine WC.seq ?_
  refine WC.draw (m := 3) rfl rfl H ?_
  intro w H
  refine WA.take (i := 1) rfl (by kernel_rfl) (by kernel_rfl) (by kernel_rfl) (fun _ => Ex.assign rfl) (Wn.none rfl) rfl rfl (fun _ _ => rfl) ?_
  refine WA.one (i := 0) (by kernel_rfl) rfl ?_
  first | refine WR.step (Ex.loadAgg H rfl (by repeat (first | exact List.Mem.head _ | apply List.Mem.tail)) Tryd.isAgg25 Tryd.sizeOf25 (by rfl)) (Wn.none rfl) rfl rfl ?_ | refine WR.step (Ex.loadAggM H rfl (by assumption) Tryd.isAgg25 Tryd.sizeOf25 (by rfl)) (Wn.none rfl) rfl rfl ?_
  refine WR.nil (WQ.any ?_)
  refine WA.one (i := 2) (by kernel_rfl) rfl ?_
  refine WR.store [_, _] H rfl rfl rfl (by repeat (first | exact Upd.head | apply Upd.tail)) Tryd.sizeOf25 rfl (by rfl) (by rfl) (Wn.none rfl) ?_
  intro w H
  refine WR.nil (WQ.any ?_)
  refine WA.done (by kernel_rfl) ?_
  refine WQ.then ?_
  refine WC.ret ?_
  (repeat (first | refine WQ.thenRet ?_ | refine WQ.inBlockRet ?_))
  refine WQ.ret2 rfl rfl ⟨_, rfl, H.loadAgg (by repeat (first | exact List.Mem.head _ | apply List.Mem.tail)) Tryd.isAgg25 Tryd.sizeOf25 (by rfl)⟩ H.ext ?_
  exact rfl

theorem qdec_long (v : Value) (l : List UInt8) (hs : l.length ≤ 48000) (ho : 12000 < (lenient l).length) : Ct Tryd.prog 19 [v] (fun M => Bs M v l) (fun r _ => r = .tuple #[.slice none 0 0, fault 11 (-2)]) := by
  refine Ct.of Tryd.func19 (enters Tryd.func19 (by kernel_rfl) rfl) rfl rfl rfl ?_
  intro w0 M0 H hp
  refine WC.seq ?_
  refine WC.region ?_
  refine WR.step (Ex.assign rfl) (Wn.none rfl) rfl rfl ?_
  refine WR.alloc [_, _] H Tryd.zeroValue25 rfl (Wn.none rfl) rfl ?_
  intro b3 w H
  refine WR.nil ?_
  refine WQ.then ?_
  refine WC.seq ?_
  refine WC.region ?_
  refine WR.step (Ex.move rfl) (Wn.none rfl) rfl rfl ?_
  refine WR.call H (qlen_spec _ l hs) rfl (by assumption) (Wn.none rfl) rfl ?_
  intro v10 M w H hle hr10
  replace hp := hp.mono hle
  obtain ⟨v10, rfl, hf10⟩ := hr10
  refine WR.step (Ex.move rfl) (Wn.none rfl) rfl rfl ?_
  refine WR.step (Ex.extract rfl rfl) (Wn.none rfl) rfl rfl ?_
  refine WR.step (Ex.extract rfl rfl) (Wn.none rfl) rfl rfl ?_
  refine WR.alloc [_, _] H Tryd.zeroValue25 rfl (Wn.none rfl) rfl ?_
  intro b5 w H
  refine WR.step (Ex.assign rfl) (Wn.none rfl) rfl rfl ?_
  refine WR.store [_, _] H rfl rfl rfl (by repeat (first | exact Upd.head | apply Upd.tail)) Tryd.sizeOf25 rfl (by rfl) (by rfl) (Wn.none rfl) ?_
  intro w H
  refine WR.nil ?_
  refine WQ.then ?_
  refine WC.seq ?_
  refine WC.seq ?_
  refine WC.region ?_
  first | refine WR.step (Ex.loadAgg H rfl (by repeat (first | exact List.Mem.head _ | apply List.Mem.tail)) Tryd.isAgg25 Tryd.sizeOf25 (by rfl)) (Wn.none rfl) rfl rfl ?_ | refine WR.step (Ex.loadAggM H rfl (by assumption) Tryd.isAgg25 Tryd.sizeOf25 (by rfl)) (Wn.none rfl) rfl rfl ?_
  refine WR.call H (failed_spec _ _) rfl (trivial) (Wn.none rfl) rfl ?_
  intro v14 M w H hle hr14
  replace hp := hp.mono hle
  replace hf10 := hf10.mono hle
  obtain rfl := hr14
  refine WR.nil ?_
  refine WQ.then ?_
  refine WC.condF rfl ?_
  refine WC.skip ?_
  refine WQ.then ?_
  refine WC.seq ?_
  refine WC.seq ?_
  refine WC.region ?_
  refine WR.step (Ex.move rfl) (Wn.none rfl) rfl rfl ?_
  refine WR.call H (qenc_big _ _ ho) rfl (by assumption) (Wn.none rfl) rfl ?_
  intro v18 M w H hle hr18
  replace hp := hp.mono hle
  replace hf10 := hf10.mono hle
  obtain rfl := hr18
  refine WR.step (Ex.move rfl) (Wn.none rfl) rfl rfl ?_
  refine WR.step (Ex.extract rfl rfl) (Wn.none rfl) rfl rfl ?_
  refine WR.step (Ex.extract rfl rfl) (Wn.none rfl) rfl rfl ?_
  refine WR.alloc [_, _] H Tryd.zeroValue25 rfl (Wn.none rfl) rfl ?_
  intro b7 w H
  refine WR.step (Ex.assign rfl) (Wn.none rfl) rfl rfl ?_
  refine WR.store [_, _] H rfl rfl rfl (by repeat (first | exact Upd.head | apply Upd.tail)) Tryd.sizeOf25 rfl (by rfl) (by rfl) (Wn.none rfl) ?_
  intro w H
  refine WR.nil ?_
  refine WQ.then ?_
  refine WC.seq ?_
  refine WC.region ?_
  first | refine WR.step (Ex.loadAgg H rfl (by repeat (first | exact List.Mem.head _ | apply List.Mem.tail)) Tryd.isAgg25 Tryd.sizeOf25 (by rfl)) (Wn.none rfl) rfl rfl ?_ | refine WR.step (Ex.loadAggM H rfl (by assumption) Tryd.isAgg25 Tryd.sizeOf25 (by rfl)) (Wn.none rfl) rfl rfl ?_
  refine WR.call H (failed_spec _ _) rfl (trivial) (Wn.none rfl) rfl ?_
  intro v22 M w H hle hr22
  replace hp := hp.mono hle
  replace hf10 := hf10.mono hle
  obtain rfl := hr22
  refine WR.step (Ex.move rfl) (Wn.none rfl) rfl rfl ?_
  refine WR.skipG (b := true) rfl rfl rfl rfl rfl ?_
  refine WR.skipG (b := true) rfl rfl rfl rfl rfl ?_
  refine WR.skipG (b := true) rfl rfl rfl rfl rfl ?_
  refine WR.skipG (b := true) rfl rfl rfl rfl rfl ?_
  refine WR.step (Ex.pickT rfl rfl) (Wn.none rfl) rfl rfl ?_
  refine WR.nil ?_
  refine WQ.then ?_
  refine WC.condT rfl ?_
  refine WC.seq ?_
  refine WC.region ?_
  refine WR.call H (fault_spec _ _) rfl (trivial) (Wn.none rfl) rfl ?_
  intro v29 M w H hle hr29
  replace hp := hp.mono hle
  replace hf10 := hf10.mono hle
  obtain rfl := hr29
  refine WR.step (Ex.assign rfl) (Wn.none rfl) rfl rfl ?_
  refine WR.store [_, _] H rfl rfl rfl (by repeat (first | exact Upd.head | apply Upd.tail)) Tryd.sizeOf25 rfl (by rfl) (by rfl) (Wn.none rfl) ?_
  intro w H
  refine WR.nil ?_
  refine WQ.then ?_
  refine WC.ret ?_
  (repeat (first | refine WQ.thenRet ?_ | refine WQ.inBlockRet ?_))
  refine WQ.ret2 rfl rfl ⟨_, rfl, H.loadAgg (by repeat (first | exact List.Mem.head _ | apply List.Mem.tail)) Tryd.isAgg25 Tryd.sizeOf25 (by rfl)⟩ H.ext ?_
  exact rfl

theorem qdec_diff (v : Value) (l : List UInt8) (hs : l.length ≤ 48000) (ho : (lenient l).length ≤ 12000) (he : ¬ enc 0 (lenient l) = l) : Ct Tryd.prog 19 [v] (fun M => Bs M v l) (fun r _ => r = .tuple #[.slice none 0 0, fault 11 (-2)]) := by
  refine Ct.of Tryd.func19 (enters Tryd.func19 (by kernel_rfl) rfl) rfl rfl rfl ?_
  intro w0 M0 H hp
  refine WC.seq ?_
  refine WC.region ?_
  refine WR.step (Ex.assign rfl) (Wn.none rfl) rfl rfl ?_
  refine WR.alloc [_, _] H Tryd.zeroValue25 rfl (Wn.none rfl) rfl ?_
  intro b3 w H
  refine WR.nil ?_
  refine WQ.then ?_
  refine WC.seq ?_
  refine WC.region ?_
  refine WR.step (Ex.move rfl) (Wn.none rfl) rfl rfl ?_
  refine WR.call H (qlen_spec _ l hs) rfl (by assumption) (Wn.none rfl) rfl ?_
  intro v10 M w H hle hr10
  replace hp := hp.mono hle
  obtain ⟨v10, rfl, hf10⟩ := hr10
  refine WR.step (Ex.move rfl) (Wn.none rfl) rfl rfl ?_
  refine WR.step (Ex.extract rfl rfl) (Wn.none rfl) rfl rfl ?_
  refine WR.step (Ex.extract rfl rfl) (Wn.none rfl) rfl rfl ?_
  refine WR.alloc [_, _] H Tryd.zeroValue25 rfl (Wn.none rfl) rfl ?_
  intro b5 w H
  refine WR.step (Ex.assign rfl) (Wn.none rfl) rfl rfl ?_
  refine WR.store [_, _] H rfl rfl rfl (by repeat (first | exact Upd.head | apply Upd.tail)) Tryd.sizeOf25 rfl (by rfl) (by rfl) (Wn.none rfl) ?_
  intro w H
  refine WR.nil ?_
  refine WQ.then ?_
  refine WC.seq ?_
  refine WC.seq ?_
  refine WC.region ?_
  first | refine WR.step (Ex.loadAgg H rfl (by repeat (first | exact List.Mem.head _ | apply List.Mem.tail)) Tryd.isAgg25 Tryd.sizeOf25 (by rfl)) (Wn.none rfl) rfl rfl ?_ | refine WR.step (Ex.loadAggM H rfl (by assumption) Tryd.isAgg25 Tryd.sizeOf25 (by rfl)) (Wn.none rfl) rfl rfl ?_
  refine WR.call H (failed_spec _ _) rfl (trivial) (Wn.none rfl) rfl ?_
  intro v14 M w H hle hr14
  replace hp := hp.mono hle
  replace hf10 := hf10.mono hle
  obtain rfl := hr14
  refine WR.nil ?_
  refine WQ.then ?_
  refine WC.condF rfl ?_
  refine WC.skip ?_
  refine WQ.then ?_
  refine WC.seq ?_
  refine WC.seq ?_
  refine WC.region ?_
  refine WR.step (Ex.move rfl) (Wn.none rfl) rfl rfl ?_
  refine WR.call H (qenc_spec _ (lenient l) ho) rfl (by assumption) (Wn.none rfl) rfl ?_
  intro v18 M w H hle hr18
  replace hp := hp.mono hle
  replace hf10 := hf10.mono hle
  obtain ⟨v18, rfl, hf18⟩ := hr18
  refine WR.step (Ex.move rfl) (Wn.none rfl) rfl rfl ?_
  refine WR.step (Ex.extract rfl rfl) (Wn.none rfl) rfl rfl ?_
  refine WR.step (Ex.extract rfl rfl) (Wn.none rfl) rfl rfl ?_
  refine WR.alloc [_, _] H Tryd.zeroValue25 rfl (Wn.none rfl) rfl ?_
  intro b7 w H
  refine WR.step (Ex.assign rfl) (Wn.none rfl) rfl rfl ?_
  refine WR.store [_, _] H rfl rfl rfl (by repeat (first | exact Upd.head | apply Upd.tail)) Tryd.sizeOf25 rfl (by rfl) (by rfl) (Wn.none rfl) ?_
  intro w H
  refine WR.nil ?_
  refine WQ.then ?_
  refine WC.seq ?_
  refine WC.region ?_
  first | refine WR.step (Ex.loadAgg H rfl (by repeat (first | exact List.Mem.head _ | apply List.Mem.tail)) Tryd.isAgg25 Tryd.sizeOf25 (by rfl)) (Wn.none rfl) rfl rfl ?_ | refine WR.step (Ex.loadAggM H rfl (by assumption) Tryd.isAgg25 Tryd.sizeOf25 (by rfl)) (Wn.none rfl) rfl rfl ?_
  refine WR.call H (failed_spec _ _) rfl (trivial) (Wn.none rfl) rfl ?_
  intro v22 M w H hle hr22
  replace hp := hp.mono hle
  replace hf10 := hf10.mono hle
  replace hf18 := hf18.mono hle
  obtain rfl := hr22
  refine WR.step (Ex.move rfl) (Wn.none rfl) rfl rfl ?_
  refine WR.step (Ex.move rfl) (Wn.some rfl rfl rfl) rfl rfl ?_
  refine WR.step (Ex.move rfl) (Wn.some rfl rfl rfl) rfl rfl ?_
  refine WR.call H (Ct.mono (equal_spec _ _ (enc 0 (lenient l)) l) (R' := fun r _ => r = .bool false) (fun _ _ h => h.trans (congrArg Value.bool (decide_eq_false he)))) rfl (⟨by assumption, by assumption⟩) (Wn.some rfl rfl rfl) rfl ?_
  intro v26 M w H hle hr26
  replace hp := hp.mono hle
  replace hf10 := hf10.mono hle
  replace hf18 := hf18.mono hle
  obtain rfl := hr26
  refine WR.step (Ex.notF rfl) (Wn.some rfl rfl rfl) rfl rfl ?_
  refine WR.step (Ex.pickF rfl rfl) (Wn.none rfl) rfl rfl ?_
  refine WR.nil ?_
  refine WQ.then ?_
  refine WC.condT rfl ?_
  refine WC.seq ?_
  refine WC.region ?_
  refine WR.call H (fault_spec _ _) rfl (trivial) (Wn.none rfl) rfl ?_
  intro v29 M w H hle hr29
  replace hp := hp.mono hle
  replace hf10 := hf10.mono hle
  replace hf18 := hf18.mono hle
  obtain rfl := hr29
  refine WR.step (Ex.assign rfl) (Wn.none rfl) rfl rfl ?_
  refine WR.store [_, _] H rfl rfl rfl (by repeat (first | exact Upd.head | apply Upd.tail)) Tryd.sizeOf25 rfl (by rfl) (by rfl) (Wn.none rfl) ?_
  intro w H
  refine WR.nil ?_
  refine WQ.then ?_
  refine WC.ret ?_
  (repeat (first | refine WQ.thenRet ?_ | refine WQ.inBlockRet ?_))
  refine WQ.ret2 rfl rfl ⟨_, rfl, H.loadAgg (by repeat (first | exact List.Mem.head _ | apply List.Mem.tail)) Tryd.isAgg25 Tryd.sizeOf25 (by rfl)⟩ H.ext ?_
  exact rfl

theorem qdec_ok (v : Value) (l : List UInt8) (hs : l.length ≤ 48000) (ho : (lenient l).length ≤ 12000) (he : enc 0 (lenient l) = l) : Ct Tryd.prog 19 [v] (fun M => Bs M v l) (fun r M => ∃ x, r = .tuple #[x, fault 0 0] ∧ Bs M x (lenient l)) := by
  refine Ct.of Tryd.func19 (enters Tryd.func19 (by kernel_rfl) rfl) rfl rfl rfl ?_
  intro w0 M0 H hp
  refine WC.seq ?_
  refine WC.region ?_
  refine WR.step (Ex.assign rfl) (Wn.none rfl) rfl rfl ?_
  refine WR.alloc [_, _] H Tryd.zeroValue25 rfl (Wn.none rfl) rfl ?_
  intro b3 w H
  refine WR.nil ?_
  refine WQ.then ?_
  refine WC.seq ?_
  refine WC.region ?_
  refine WR.step (Ex.move rfl) (Wn.none rfl) rfl rfl ?_
  refine WR.call H (qlen_spec _ l hs) rfl (by assumption) (Wn.none rfl) rfl ?_
  intro v10 M w H hle hr10
  replace hp := hp.mono hle
  obtain ⟨v10, rfl, hf10⟩ := hr10
  refine WR.step (Ex.move rfl) (Wn.none rfl) rfl rfl ?_
  refine WR.step (Ex.extract rfl rfl) (Wn.none rfl) rfl rfl ?_
  refine WR.step (Ex.extract rfl rfl) (Wn.none rfl) rfl rfl ?_
  refine WR.alloc [_, _] H Tryd.zeroValue25 rfl (Wn.none rfl) rfl ?_
  intro b5 w H
  refine WR.step (Ex.assign rfl) (Wn.none rfl) rfl rfl ?_
  refine WR.store [_, _] H rfl rfl rfl (by repeat (first | exact Upd.head | apply Upd.tail)) Tryd.sizeOf25 rfl (by rfl) (by rfl) (Wn.none rfl) ?_
  intro w H
  refine WR.nil ?_
  refine WQ.then ?_
  refine WC.seq ?_
  refine WC.seq ?_
  refine WC.region ?_
  first | refine WR.step (Ex.loadAgg H rfl (by repeat (first | exact List.Mem.head _ | apply List.Mem.tail)) Tryd.isAgg25 Tryd.sizeOf25 (by rfl)) (Wn.none rfl) rfl rfl ?_ | refine WR.step (Ex.loadAggM H rfl (by assumption) Tryd.isAgg25 Tryd.sizeOf25 (by rfl)) (Wn.none rfl) rfl rfl ?_
  refine WR.call H (failed_spec _ _) rfl (trivial) (Wn.none rfl) rfl ?_
  intro v14 M w H hle hr14
  replace hp := hp.mono hle
  replace hf10 := hf10.mono hle
  obtain rfl := hr14
  refine WR.nil ?_
  refine WQ.then ?_
  refine WC.condF rfl ?_
  refine WC.skip ?_
  refine WQ.then ?_
  refine WC.seq ?_
  refine WC.seq ?_
  refine WC.region ?_
  refine WR.step (Ex.move rfl) (Wn.none rfl) rfl rfl ?_
  refine WR.call H (qenc_spec _ (lenient l) ho) rfl (by assumption) (Wn.none rfl) rfl ?_
  intro v18 M w H hle hr18
  replace hp := hp.mono hle
  replace hf10 := hf10.mono hle
  obtain ⟨v18, rfl, hf18⟩ := hr18
  refine WR.step (Ex.move rfl) (Wn.none rfl) rfl rfl ?_
  refine WR.step (Ex.extract rfl rfl) (Wn.none rfl) rfl rfl ?_
  refine WR.step (Ex.extract rfl rfl) (Wn.none rfl) rfl rfl ?_
  refine WR.alloc [_, _] H Tryd.zeroValue25 rfl (Wn.none rfl) rfl ?_
  intro b7 w H
  refine WR.step (Ex.assign rfl) (Wn.none rfl) rfl rfl ?_
  refine WR.store [_, _] H rfl rfl rfl (by repeat (first | exact Upd.head | apply Upd.tail)) Tryd.sizeOf25 rfl (by rfl) (by rfl) (Wn.none rfl) ?_
  intro w H
  refine WR.nil ?_
  refine WQ.then ?_
  refine WC.seq ?_
  refine WC.region ?_
  first | refine WR.step (Ex.loadAgg H rfl (by repeat (first | exact List.Mem.head _ | apply List.Mem.tail)) Tryd.isAgg25 Tryd.sizeOf25 (by rfl)) (Wn.none rfl) rfl rfl ?_ | refine WR.step (Ex.loadAggM H rfl (by assumption) Tryd.isAgg25 Tryd.sizeOf25 (by rfl)) (Wn.none rfl) rfl rfl ?_
  refine WR.call H (failed_spec _ _) rfl (trivial) (Wn.none rfl) rfl ?_
  intro v22 M w H hle hr22
  replace hp := hp.mono hle
  replace hf10 := hf10.mono hle
  replace hf18 := hf18.mono hle
  obtain rfl := hr22
  refine WR.step (Ex.move rfl) (Wn.none rfl) rfl rfl ?_
  refine WR.step (Ex.move rfl) (Wn.some rfl rfl rfl) rfl rfl ?_
  refine WR.step (Ex.move rfl) (Wn.some rfl rfl rfl) rfl rfl ?_
  refine WR.call H (Ct.mono (equal_spec _ _ (enc 0 (lenient l)) l) (R' := fun r _ => r = .bool true) (fun _ _ h => h.trans (congrArg Value.bool (decide_eq_true he)))) rfl (⟨by assumption, by assumption⟩) (Wn.some rfl rfl rfl) rfl ?_
  intro v26 M w H hle hr26
  replace hp := hp.mono hle
  replace hf10 := hf10.mono hle
  replace hf18 := hf18.mono hle
  obtain rfl := hr26
  refine WR.step (Ex.notT rfl) (Wn.some rfl rfl rfl) rfl rfl ?_
  refine WR.step (Ex.pickF rfl rfl) (Wn.none rfl) rfl rfl ?_
  refine WR.nil ?_
  refine WQ.then ?_
  refine WC.condF rfl ?_
  refine WC.skip ?_
  refine WQ.then ?_
  refine WC.seq ?_
  refine WC.region ?_
  refine WR.step (Ex.move rfl) (Wn.none rfl) rfl rfl ?_
  refine WR.call H (none_spec) rfl (trivial) (Wn.none rfl) rfl ?_
  intro v31 M w H hle hr31
  replace hp := hp.mono hle
  replace hf10 := hf10.mono hle
  replace hf18 := hf18.mono hle
  obtain rfl := hr31
  refine WR.step (Ex.assign rfl) (Wn.none rfl) rfl rfl ?_
  refine WR.store [_, _] H rfl rfl rfl (by repeat (first | exact Upd.head | apply Upd.tail)) Tryd.sizeOf25 rfl (by rfl) (by rfl) (Wn.none rfl) ?_
  intro w H
  refine WR.nil ?_
  refine WQ.then ?_
  refine WC.ret ?_
  (repeat (first | refine WQ.thenRet ?_ | refine WQ.inBlockRet ?_))
  refine WQ.ret2 rfl rfl ⟨_, rfl, H.loadAgg (by repeat (first | exact List.Mem.head _ | apply List.Mem.tail)) Tryd.isAgg25 Tryd.sizeOf25 (by rfl)⟩ H.ext ?_
  exact ⟨_, rfl, by assumption⟩

end Go.Proofs.YtolmifddbjdepaaDoor
