/-
  the program: strict decoding, the examples: walks over the program's own operations, written by a program of this repository (wip/tools/gen.py) out of a plan.
-/
import Derived.Test.YtgkpcfgbbgpihaaDec
import Derived.Test.YtgkpcfgbbgpihaaGrp
import Derived.KernelRfl
namespace Go.Proofs.Ytgkpcfgbbgpihaa
open Go Go.RowKit Go.Ph

open Go.Ph.B64

theorem decode_big (bv : Value) (l : List UInt8) (hs : 24000 < l.length) : Ct Try.prog 15 [bv] (fun M => Bs M bv l) (fun r _ => r = .tuple #[.slice none 0 0, fault 1 (-1)]) := by
  refine Ct.of Try.func15 (enters Try.func15 (by kernel_rfl) rfl) rfl rfl rfl ?_
  intro w0 M0 H hp
  refine WC.seq ?_
  refine WC.region ?_
  refine WR.step (Ex.assign rfl) (Wn.none rfl) rfl rfl ?_
  refine WR.alloc [_, _] H Try.zeroValue25 rfl (Wn.none rfl) rfl ?_
  intro b3 w H
  refine WR.nil ?_
  refine WQ.then ?_
  refine WC.seq ?_
  refine WC.region ?_
  refine WR.step (Ex.move rfl) (Wn.none rfl) rfl rfl ?_
  refine WR.call H (lenient_big _ _ hs) rfl (by assumption) (Wn.none rfl) rfl ?_
  intro v10 M w H hle hr10
  replace hp := hp.mono hle
  obtain rfl := hr10
  refine WR.step (Ex.move rfl) (Wn.none rfl) rfl rfl ?_
  refine WR.step (Ex.extract rfl rfl) (Wn.none rfl) rfl rfl ?_
  refine WR.step (Ex.extract rfl rfl) (Wn.none rfl) rfl rfl ?_
  refine WR.alloc [_, _] H Try.zeroValue25 rfl (Wn.none rfl) rfl ?_
  intro b5 w H
  refine WR.step (Ex.assign rfl) (Wn.none rfl) rfl rfl ?_
  refine WR.store [_, _] H rfl rfl rfl (by repeat (first | exact Upd.head | apply Upd.tail)) Try.sizeOf25 rfl (by rfl) (by rfl) (Wn.none rfl) ?_
  intro w H
  refine WR.nil ?_
  refine WQ.then ?_
  refine WC.seq ?_
  refine WC.seq ?_
  refine WC.region ?_
  refine WR.step (Ex.loadAgg H rfl (by repeat (first | exact List.Mem.head _ | apply List.Mem.tail)) Try.isAgg25 Try.sizeOf25 (by rfl)) (Wn.none rfl) rfl rfl ?_
  refine WR.call H (failed_spec _ _) rfl (trivial) (Wn.none rfl) rfl ?_
  intro v14 M w H hle hr14
  replace hp := hp.mono hle
  obtain rfl := hr14
  refine WR.nil ?_
  refine WQ.then ?_
  refine WC.condT rfl ?_
  refine WC.seq ?_
  refine WC.draw (m := 3) rfl rfl H ?_
  intro w H
  refine WA.take (i := 1) rfl (by kernel_rfl) (by kernel_rfl) (by kernel_rfl) (fun _ => Ex.assign rfl) (Wn.none rfl) rfl rfl (fun _ _ => rfl) ?_
  refine WA.one (i := 0) (by kernel_rfl) rfl ?_
  refine WR.step (Ex.loadAgg H rfl (by repeat (first | exact List.Mem.head _ | apply List.Mem.tail)) Try.isAgg25 Try.sizeOf25 (by rfl)) (Wn.none rfl) rfl rfl ?_
  refine WR.nil (WQ.any ?_)
  refine WA.one (i := 2) (by kernel_rfl) rfl ?_
  refine WR.store [_, _] H rfl rfl rfl (by repeat (first | exact Upd.head | apply Upd.tail)) Try.sizeOf25 rfl (by rfl) (by rfl) (Wn.none rfl) ?_
  intro w H
  refine WR.nil (WQ.any ?_)
  refine WA.done (by kernel_rfl) ?_
  refine WQ.then ?_
  refine WC.ret ?_
  (repeat (first | refine WQ.thenRet ?_ | refine WQ.inBlockRet ?_))
  refine WQ.ret2 rfl rfl ⟨_, rfl, H.loadAgg (by repeat (first | exact List.Mem.head _ | apply List.Mem.tail)) Try.isAgg25 Try.sizeOf25 (by rfl)⟩ H.ext ?_
  exact rfl

theorem decode_long (bv : Value) (l : List UInt8) (hs : l.length ≤ 24000) (ho : 12000 < (lenient l).length) : Ct Try.prog 15 [bv] (fun M => Bs M bv l) (fun r _ => r = .tuple #[.slice none 0 0, fault 11 (-2)]) := by
  refine Ct.of Try.func15 (enters Try.func15 (by kernel_rfl) rfl) rfl rfl rfl ?_
  intro w0 M0 H hp
  refine WC.seq ?_
  refine WC.region ?_
  refine WR.step (Ex.assign rfl) (Wn.none rfl) rfl rfl ?_
  refine WR.alloc [_, _] H Try.zeroValue25 rfl (Wn.none rfl) rfl ?_
  intro b3 w H
  refine WR.nil ?_
  refine WQ.then ?_
  refine WC.seq ?_
  refine WC.region ?_
  refine WR.step (Ex.move rfl) (Wn.none rfl) rfl rfl ?_
  refine WR.call H (lenient_spec _ _ hs) rfl (by assumption) (Wn.none rfl) rfl ?_
  intro v10 M w H hle hr10
  replace hp := hp.mono hle
  obtain ⟨w10, rfl, hf10⟩ := hr10
  refine WR.step (Ex.move rfl) (Wn.none rfl) rfl rfl ?_
  refine WR.step (Ex.extract rfl rfl) (Wn.none rfl) rfl rfl ?_
  refine WR.step (Ex.extract rfl rfl) (Wn.none rfl) rfl rfl ?_
  refine WR.alloc [_, _] H Try.zeroValue25 rfl (Wn.none rfl) rfl ?_
  intro b5 w H
  refine WR.step (Ex.assign rfl) (Wn.none rfl) rfl rfl ?_
  refine WR.store [_, _] H rfl rfl rfl (by repeat (first | exact Upd.head | apply Upd.tail)) Try.sizeOf25 rfl (by rfl) (by rfl) (Wn.none rfl) ?_
  intro w H
  refine WR.nil ?_
  refine WQ.then ?_
  refine WC.seq ?_
  refine WC.seq ?_
  refine WC.region ?_
  refine WR.step (Ex.loadAgg H rfl (by repeat (first | exact List.Mem.head _ | apply List.Mem.tail)) Try.isAgg25 Try.sizeOf25 (by rfl)) (Wn.none rfl) rfl rfl ?_
  refine WR.call H (failed_spec _ _) rfl (trivial) (Wn.none rfl) rfl ?_
  intro v14 M w H hle hr14
  replace hp := hp.mono hle
  replace hf10 := hf10.mono hle
  obtain rfl := hr14
  refine WR.nil ?_
  refine WQ.then ?_
  refine WC.condF rfl ?_
  refine WC.skip ?_
  refine WQ.then ?_
  refine WC.seq ?_
  refine WC.seq ?_
  refine WC.region ?_
  refine WR.step (Ex.move rfl) (Wn.none rfl) rfl rfl ?_
  refine WR.call H (encode_big _ _ ho) rfl (by assumption) (Wn.none rfl) rfl ?_
  intro v18 M w H hle hr18
  replace hp := hp.mono hle
  replace hf10 := hf10.mono hle
  obtain rfl := hr18
  refine WR.step (Ex.move rfl) (Wn.none rfl) rfl rfl ?_
  refine WR.step (Ex.extract rfl rfl) (Wn.none rfl) rfl rfl ?_
  refine WR.step (Ex.extract rfl rfl) (Wn.none rfl) rfl rfl ?_
  refine WR.alloc [_, _] H Try.zeroValue25 rfl (Wn.none rfl) rfl ?_
  intro b7 w H
  refine WR.step (Ex.assign rfl) (Wn.none rfl) rfl rfl ?_
  refine WR.store [_, _] H rfl rfl rfl (by repeat (first | exact Upd.head | apply Upd.tail)) Try.sizeOf25 rfl (by rfl) (by rfl) (Wn.none rfl) ?_
  intro w H
  refine WR.nil ?_
  refine WQ.then ?_
  refine WC.seq ?_
  refine WC.region ?_
  refine WR.step (Ex.loadAgg H rfl (by repeat (first | exact List.Mem.head _ | apply List.Mem.tail)) Try.isAgg25 Try.sizeOf25 (by rfl)) (Wn.none rfl) rfl rfl ?_
  refine WR.call H (failed_spec _ _) rfl (trivial) (Wn.none rfl) rfl ?_
  intro v22 M w H hle hr22
  replace hp := hp.mono hle
  replace hf10 := hf10.mono hle
  obtain rfl := hr22
  refine WR.step (Ex.move rfl) (Wn.none rfl) rfl rfl ?_
  refine WR.skipG (b := true) rfl rfl rfl rfl rfl ?_
  refine WR.skipG (b := true) rfl rfl rfl rfl rfl ?_
  refine WR.skipG (b := true) rfl rfl rfl rfl rfl ?_
  refine WR.skipG (b := true) rfl rfl rfl rfl rfl ?_
  refine WR.step (Ex.pickT rfl rfl) (Wn.none rfl) rfl rfl ?_
  refine WR.nil ?_
  refine WQ.then ?_
  refine WC.condT rfl ?_
  refine WC.seq ?_
  refine WC.region ?_
  refine WR.call H (fault_spec _ _) rfl (trivial) (Wn.none rfl) rfl ?_
  intro v29 M w H hle hr29
  replace hp := hp.mono hle
  replace hf10 := hf10.mono hle
  obtain rfl := hr29
  refine WR.step (Ex.assign rfl) (Wn.none rfl) rfl rfl ?_
  refine WR.store [_, _] H rfl rfl rfl (by repeat (first | exact Upd.head | apply Upd.tail)) Try.sizeOf25 rfl (by rfl) (by rfl) (Wn.none rfl) ?_
  intro w H
  refine WR.nil ?_
  refine WQ.then ?_
  refine WC.ret ?_
  (repeat (first | refine WQ.thenRet ?_ | refine WQ.inBlockRet ?_))
  refine WQ.ret2 rfl rfl ⟨_, rfl, H.loadAgg (by repeat (first | exact List.Mem.head _ | apply List.Mem.tail)) Try.isAgg25 Try.sizeOf25 (by rfl)⟩ H.ext ?_
  exact rfl

theorem decode_diff (bv : Value) (l : List UInt8) (hs : l.length ≤ 24000) (ho : (lenient l).length ≤ 12000) (he : ¬ encode (lenient l) = l) : Ct Try.prog 15 [bv] (fun M => Bs M bv l) (fun r _ => r = .tuple #[.slice none 0 0, fault 11 (-2)]) := by
  refine Ct.of Try.func15 (enters Try.func15 (by kernel_rfl) rfl) rfl rfl rfl ?_
  intro w0 M0 H hp
  refine WC.seq ?_
  refine WC.region ?_
  refine WR.step (Ex.assign rfl) (Wn.none rfl) rfl rfl ?_
  refine WR.alloc [_, _] H Try.zeroValue25 rfl (Wn.none rfl) rfl ?_
  intro b3 w H
  refine WR.nil ?_
  refine WQ.then ?_
  refine WC.seq ?_
  refine WC.region ?_
  refine WR.step (Ex.move rfl) (Wn.none rfl) rfl rfl ?_
  refine WR.call H (lenient_spec _ _ hs) rfl (by assumption) (Wn.none rfl) rfl ?_
  intro v10 M w H hle hr10
  replace hp := hp.mono hle
  obtain ⟨w10, rfl, hf10⟩ := hr10
  refine WR.step (Ex.move rfl) (Wn.none rfl) rfl rfl ?_
  refine WR.step (Ex.extract rfl rfl) (Wn.none rfl) rfl rfl ?_
  refine WR.step (Ex.extract rfl rfl) (Wn.none rfl) rfl rfl ?_
  refine WR.alloc [_, _] H Try.zeroValue25 rfl (Wn.none rfl) rfl ?_
  intro b5 w H
  refine WR.step (Ex.assign rfl) (Wn.none rfl) rfl rfl ?_
  refine WR.store [_, _] H rfl rfl rfl (by repeat (first | exact Upd.head | apply Upd.tail)) Try.sizeOf25 rfl (by rfl) (by rfl) (Wn.none rfl) ?_
  intro w H
  refine WR.nil ?_
  refine WQ.then ?_
  refine WC.seq ?_
  refine WC.seq ?_
  refine WC.region ?_
  refine WR.step (Ex.loadAgg H rfl (by repeat (first | exact List.Mem.head _ | apply List.Mem.tail)) Try.isAgg25 Try.sizeOf25 (by rfl)) (Wn.none rfl) rfl rfl ?_
  refine WR.call H (failed_spec _ _) rfl (trivial) (Wn.none rfl) rfl ?_
  intro v14 M w H hle hr14
  replace hp := hp.mono hle
  replace hf10 := hf10.mono hle
  obtain rfl := hr14
  refine WR.nil ?_
  refine WQ.then ?_
  refine WC.condF rfl ?_
  refine WC.skip ?_
  refine WQ.then ?_
  refine WC.seq ?_
  refine WC.seq ?_
  refine WC.region ?_
  refine WR.step (Ex.move rfl) (Wn.none rfl) rfl rfl ?_
  refine WR.call H (encode_spec _ _ ho) rfl (by assumption) (Wn.none rfl) rfl ?_
  intro v18 M w H hle hr18
  replace hp := hp.mono hle
  replace hf10 := hf10.mono hle
  obtain ⟨w18, rfl, hf18⟩ := hr18
  refine WR.step (Ex.move rfl) (Wn.none rfl) rfl rfl ?_
  refine WR.step (Ex.extract rfl rfl) (Wn.none rfl) rfl rfl ?_
  refine WR.step (Ex.extract rfl rfl) (Wn.none rfl) rfl rfl ?_
  refine WR.alloc [_, _] H Try.zeroValue25 rfl (Wn.none rfl) rfl ?_
  intro b7 w H
  refine WR.step (Ex.assign rfl) (Wn.none rfl) rfl rfl ?_
  refine WR.store [_, _] H rfl rfl rfl (by repeat (first | exact Upd.head | apply Upd.tail)) Try.sizeOf25 rfl (by rfl) (by rfl) (Wn.none rfl) ?_
  intro w H
  refine WR.nil ?_
  refine WQ.then ?_
  refine WC.seq ?_
  refine WC.region ?_
  refine WR.step (Ex.loadAgg H rfl (by repeat (first | exact List.Mem.head _ | apply List.Mem.tail)) Try.isAgg25 Try.sizeOf25 (by rfl)) (Wn.none rfl) rfl rfl ?_
  refine WR.call H (failed_spec _ _) rfl (trivial) (Wn.none rfl) rfl ?_
  intro v22 M w H hle hr22
  replace hp := hp.mono hle
  replace hf10 := hf10.mono hle
  replace hf18 := hf18.mono hle
  obtain rfl := hr22
  refine WR.step (Ex.move rfl) (Wn.none rfl) rfl rfl ?_
  refine WR.step (Ex.move rfl) (Wn.some rfl rfl rfl) rfl rfl ?_
  refine WR.step (Ex.move rfl) (Wn.some rfl rfl rfl) rfl rfl ?_
  refine WR.call H (Ct.mono (equal_spec _ _ _ _) (R' := fun r _ => r = .bool false) (fun _ _ h => h.trans (congrArg Value.bool (decide_eq_false he)))) rfl (⟨by assumption, by assumption⟩) (Wn.some rfl rfl rfl) rfl ?_
  intro v26 M w H hle hr26
  replace hp := hp.mono hle
  replace hf10 := hf10.mono hle
  replace hf18 := hf18.mono hle
  obtain rfl := hr26
  refine WR.step (Ex.notF rfl) (Wn.some rfl rfl rfl) rfl rfl ?_
  refine WR.step (Ex.pickF rfl rfl) (Wn.none rfl) rfl rfl ?_
  refine WR.nil ?_
  refine WQ.then ?_
  refine WC.condT rfl ?_
  refine WC.seq ?_
  refine WC.region ?_
  refine WR.call H (fault_spec _ _) rfl (trivial) (Wn.none rfl) rfl ?_
  intro v29 M w H hle hr29
  replace hp := hp.mono hle
  replace hf10 := hf10.mono hle
  replace hf18 := hf18.mono hle
  obtain rfl := hr29
  refine WR.step (Ex.assign rfl) (Wn.none rfl) rfl rfl ?_
  refine WR.store [_, _] H rfl rfl rfl (by repeat (first | exact Upd.head | apply Upd.tail)) Try.sizeOf25 rfl (by rfl) (by rfl) (Wn.none rfl) ?_
  intro w H
  refine WR.nil ?_
  refine WQ.then ?_
  refine WC.ret ?_
  (repeat (first | refine WQ.thenRet ?_ | refine WQ.inBlockRet ?_))
  refine WQ.ret2 rfl rfl ⟨_, rfl, H.loadAgg (by repeat (first | exact List.Mem.head _ | apply List.Mem.tail)) Try.isAgg25 Try.sizeOf25 (by rfl)⟩ H.ext ?_
  exact rfl

theorem decode_ok (bv : Value) (l : List UInt8) (hs : l.length ≤ 24000) (ho : (lenient l).length ≤ 12000) (he : encode (lenient l) = l) : Ct Try.prog 15 [bv] (fun M => Bs M bv l) (fun r M => ∃ v, r = .tuple #[v, fault 0 0] ∧ Bs M v (lenient l)) := by
  refine Ct.of Try.func15 (enters Try.func15 (by kernel_rfl) rfl) rfl rfl rfl ?_
  intro w0 M0 H hp
  refine WC.seq ?_
  refine WC.region ?_
  refine WR.step (Ex.assign rfl) (Wn.none rfl) rfl rfl ?_
  refine WR.alloc [_, _] H Try.zeroValue25 rfl (Wn.none rfl) rfl ?_
  intro b3 w H
  refine WR.nil ?_
  refine WQ.then ?_
  refine WC.seq ?_
  refine WC.region ?_
  refine WR.step (Ex.move rfl) (Wn.none rfl) rfl rfl ?_
  refine WR.call H (lenient_spec _ _ hs) rfl (by assumption) (Wn.none rfl) rfl ?_
  intro v10 M w H hle hr10
  replace hp := hp.mono hle
  obtain ⟨w10, rfl, hf10⟩ := hr10
  refine WR.step (Ex.move rfl) (Wn.none rfl) rfl rfl ?_
  refine WR.step (Ex.extract rfl rfl) (Wn.none rfl) rfl rfl ?_
  refine WR.step (Ex.extract rfl rfl) (Wn.none rfl) rfl rfl ?_
  refine WR.alloc [_, _] H Try.zeroValue25 rfl (Wn.none rfl) rfl ?_
  intro b5 w H
  refine WR.step (Ex.assign rfl) (Wn.none rfl) rfl rfl ?_
  refine WR.store [_, _] H rfl rfl rfl (by repeat (first | exact Upd.head | apply Upd.tail)) Try.sizeOf25 rfl (by rfl) (by rfl) (Wn.none rfl) ?_
  intro w H
  refine WR.nil ?_
  refine WQ.then ?_
  refine WC.seq ?_
  refine WC.seq ?_
  refine WC.region ?_
  refine WR.step (Ex.loadAgg H rfl (by repeat (first | exact List.Mem.head _ | apply List.Mem.tail)) Try.isAgg25 Try.sizeOf25 (by rfl)) (Wn.none rfl) rfl rfl ?_
  refine WR.call H (failed_spec _ _) rfl (trivial) (Wn.none rfl) rfl ?_
  intro v14 M w H hle hr14
  replace hp := hp.mono hle
  replace hf10 := hf10.mono hle
  obtain rfl := hr14
  refine WR.nil ?_
  refine WQ.then ?_
  refine WC.condF rfl ?_
  refine WC.skip ?_
  refine WQ.then ?_
  refine WC.seq ?_
  refine WC.seq ?_
  refine WC.region ?_
  refine WR.step (Ex.move rfl) (Wn.none rfl) rfl rfl ?_
  refine WR.call H (encode_spec _ _ ho) rfl (by assumption) (Wn.none rfl) rfl ?_
  intro v18 M w H hle hr18
  replace hp := hp.mono hle
  replace hf10 := hf10.mono hle
  obtain ⟨w18, rfl, hf18⟩ := hr18
  refine WR.step (Ex.move rfl) (Wn.none rfl) rfl rfl ?_
  refine WR.step (Ex.extract rfl rfl) (Wn.none rfl) rfl rfl ?_
  refine WR.step (Ex.extract rfl rfl) (Wn.none rfl) rfl rfl ?_
  refine WR.alloc [_, _] H Try.zeroValue25 rfl (Wn.none rfl) rfl ?_
  intro b7 w H
  refine WR.step (Ex.assign rfl) (Wn.none rfl) rfl rfl ?_
  refine WR.store [_, _] H rfl rfl rfl (by repeat (first | exact Upd.head | apply Upd.tail)) Try.sizeOf25 rfl (by rfl) (by rfl) (Wn.none rfl) ?_
  intro w H
  refine WR.nil ?_
  refine WQ.then ?_
  refine WC.seq ?_
  refine WC.region ?_
  refine WR.step (Ex.loadAgg H rfl (by repeat (first | exact List.Mem.head _ | apply List.Mem.tail)) Try.isAgg25 Try.sizeOf25 (by rfl)) (Wn.none rfl) rfl rfl ?_
  refine WR.call H (failed_spec _ _) rfl (trivial) (Wn.none rfl) rfl ?_
  intro v22 M w H hle hr22
  replace hp := hp.mono hle
  replace hf10 := hf10.mono hle
  replace hf18 := hf18.mono hle
  obtain rfl := hr22
  refine WR.step (Ex.move rfl) (Wn.none rfl) rfl rfl ?_
  refine WR.step (Ex.move rfl) (Wn.some rfl rfl rfl) rfl rfl ?_
  refine WR.step (Ex.move rfl) (Wn.some rfl rfl rfl) rfl rfl ?_
  refine WR.call H (Ct.mono (equal_spec _ _ _ _) (R' := fun r _ => r = .bool true) (fun _ _ h => h.trans (congrArg Value.bool (decide_eq_true he)))) rfl (⟨by assumption, by assumption⟩) (Wn.some rfl rfl rfl) rfl ?_
  intro v26 M w H hle hr26
  replace hp := hp.mono hle
  replace hf10 := hf10.mono hle
  replace hf18 := hf18.mono hle
  obtain rfl := hr26
  refine WR.step (Ex.notT rfl) (Wn.some rfl rfl rfl) rfl rfl ?_
  refine WR.step (Ex.pickF rfl rfl) (Wn.none rfl) rfl rfl ?_
  refine WR.nil ?_
  refine WQ.then ?_
  refine WC.condF rfl ?_
  refine WC.skip ?_
  refine WQ.then ?_
  refine WC.seq ?_
  refine WC.region ?_
  refine WR.step (Ex.move rfl) (Wn.none rfl) rfl rfl ?_
  refine WR.call H (none_spec) rfl (trivial) (Wn.none rfl) rfl ?_
  intro v31 M w H hle hr31
  replace hp := hp.mono hle
  replace hf10 := hf10.mono hle
  replace hf18 := hf18.mono hle
  obtain rfl := hr31
  refine WR.step (Ex.assign rfl) (Wn.none rfl) rfl rfl ?_
  refine WR.store [_, _] H rfl rfl rfl (by repeat (first | exact Upd.head | apply Upd.tail)) Try.sizeOf25 rfl (by rfl) (by rfl) (Wn.none rfl) ?_
  intro w H
  refine WR.nil ?_
  refine WQ.then ?_
  refine WC.ret ?_
  (repeat (first | refine WQ.thenRet ?_ | refine WQ.inBlockRet ?_))
  refine WQ.ret2 rfl rfl ⟨_, rfl, H.loadAgg (by repeat (first | exact List.Mem.head _ | apply List.Mem.tail)) Try.isAgg25 Try.sizeOf25 (by rfl)⟩ H.ext ?_
  exact ⟨_, rfl, by assumption⟩

theorem ex1 : encode [65] = [81, 81, 61, 61, 13, 10] := by decide
theorem ex2 : lenient [81, 81, 61, 61, 13, 10] = [65] := by decide
theorem ex3 : lenient [81, 45, 81] = [65] := by decide

theorem example_spec  : Ct Try.prog 8 [] (fun _ => True) (fun r _ => r = .bool true) := by
  refine Ct.of Try.func8 (enters Try.func8 (by kernel_rfl) rfl) rfl rfl rfl ?_
  intro w0 M0 H hp
  refine WC.seq ?_
  refine WC.region ?_
  refine WR.step (Ex.assign rfl) (Wn.none rfl) rfl rfl ?_
  refine WR.nil ?_
  refine WQ.then ?_
  refine WC.seq ?_
  refine WC.region ?_
  refine WR.lit (enc := encB) ty22 [65] H rfl (by rfl) (fun _ => rfl) rfl rfl (Wn.none rfl) rfl ?_
  intro v8 M w H hle hl8
  refine WR.call H (encode_spec _ [65] (by decide)) rfl (by assumption) (Wn.none rfl) rfl ?_
  intro v9 M w H hle hr9
  replace hl8 := hl8.mono hle
  obtain ⟨w9, rfl, hf9⟩ := hr9
  refine WR.step (Ex.move rfl) (Wn.none rfl) rfl rfl ?_
  refine WR.step (Ex.extract rfl rfl) (Wn.none rfl) rfl rfl ?_
  refine WR.step (Ex.extract rfl rfl) (Wn.none rfl) rfl rfl ?_
  refine WR.alloc [_, _] H Try.zeroValue25 rfl (Wn.none rfl) rfl ?_
  intro b2 w H
  refine WR.step (Ex.assign rfl) (Wn.none rfl) rfl rfl ?_
  refine WR.store [_, _] H rfl rfl rfl (by repeat (first | exact Upd.head | apply Upd.tail)) Try.sizeOf25 rfl (by rfl) (by rfl) (Wn.none rfl) ?_
  intro w H
  refine WR.nil ?_
  refine WQ.then ?_
  refine WC.seq ?_
  refine WC.region ?_
  refine WR.litC ty22 Try.underlying5 [81, 81, 61, 61, 13, 10] H rfl (by rfl) rfl rfl (Wn.none rfl) rfl (fun _ => Wn.none rfl) rfl ?_
  intro v14 M w H hle hl14
  replace hl8 := hl8.mono hle
  replace hf9 := hf9.mono hle
  refine WR.call H (decode_ok _ [81, 81, 61, 61, 13, 10] (by decide) (by rw [ex2]; decide) (by rw [ex2]; exact ex1)) rfl (by assumption) (Wn.none rfl) rfl ?_
  intro v15 M w H hle hr15
  replace hl8 := hl8.mono hle
  replace hf9 := hf9.mono hle
  replace hl14 := hl14.mono hle
  obtain ⟨w15, rfl, hf15⟩ := hr15
  refine WR.step (Ex.move rfl) (Wn.none rfl) rfl rfl ?_
  refine WR.step (Ex.extract rfl rfl) (Wn.none rfl) rfl rfl ?_
  refine WR.step (Ex.extract rfl rfl) (Wn.none rfl) rfl rfl ?_
  refine WR.alloc [_, _] H Try.zeroValue25 rfl (Wn.none rfl) rfl ?_
  intro b4 w H
  refine WR.step (Ex.assign rfl) (Wn.none rfl) rfl rfl ?_
  refine WR.store [_, _] H rfl rfl rfl (by repeat (first | exact Upd.head | apply Upd.tail)) Try.sizeOf25 rfl (by rfl) (by rfl) (Wn.none rfl) ?_
  intro w H
  refine WR.nil ?_
  refine WQ.then ?_
  refine WC.seq ?_
  refine WC.region ?_
  refine WR.litC ty22 Try.underlying5 [81, 45, 81] H rfl (by rfl) rfl rfl (Wn.none rfl) rfl (fun _ => Wn.none rfl) rfl ?_
  intro v20 M w H hle hl20
  replace hl8 := hl8.mono hle
  replace hf9 := hf9.mono hle
  replace hl14 := hl14.mono hle
  replace hf15 := hf15.mono hle
  refine WR.call H (lenient_spec _ [81, 45, 81] (by decide)) rfl (by assumption) (Wn.none rfl) rfl ?_
  intro v21 M w H hle hr21
  replace hl8 := hl8.mono hle
  replace hf9 := hf9.mono hle
  replace hl14 := hl14.mono hle
  replace hf15 := hf15.mono hle
  replace hl20 := hl20.mono hle
  obtain ⟨w21, rfl, hf21⟩ := hr21
  refine WR.step (Ex.move rfl) (Wn.none rfl) rfl rfl ?_
  refine WR.step (Ex.extract rfl rfl) (Wn.none rfl) rfl rfl ?_
  refine WR.step (Ex.extract rfl rfl) (Wn.none rfl) rfl rfl ?_
  refine WR.alloc [_, _] H Try.zeroValue25 rfl (Wn.none rfl) rfl ?_
  intro b6 w H
  refine WR.step (Ex.assign rfl) (Wn.none rfl) rfl rfl ?_
  refine WR.store [_, _] H rfl rfl rfl (by repeat (first | exact Upd.head | apply Upd.tail)) Try.sizeOf25 rfl (by rfl) (by rfl) (Wn.none rfl) ?_
  intro w H
  refine WR.nil ?_
  refine WQ.then ?_
  refine WC.seq ?_
  refine WC.region ?_
  refine WR.step (Ex.fieldAddr Try.underlying25 rfl Try.sizeOf3 (by decide) rfl) (Wn.none rfl) rfl rfl ?_
  first | refine WR.step (Ex.loadM H rfl (by assumption) Try.isAgg3) (Wn.none rfl) rfl rfl ?_ | refine WR.step (Ex.load1 H rfl (by repeat (first | exact List.Mem.head _ | apply List.Mem.tail)) Try.isAgg3 (by rfl)) (Wn.none rfl) rfl rfl ?_
  refine WR.stepT (Ex.eql rfl rfl) rfl (Wn.none rfl) rfl rfl ?_
  refine WR.step (Ex.move rfl) (Wn.none rfl) rfl rfl ?_
  refine WR.step (Ex.fieldAddr Try.underlying25 rfl Try.sizeOf3 (by decide) rfl) (Wn.some rfl rfl rfl) rfl rfl ?_
  first | refine WR.step (Ex.loadM H rfl (by assumption) Try.isAgg3) (Wn.some rfl rfl rfl) rfl rfl ?_ | refine WR.step (Ex.load1 H rfl (by repeat (first | exact List.Mem.head _ | apply List.Mem.tail)) Try.isAgg3 (by rfl)) (Wn.some rfl rfl rfl) rfl rfl ?_
  refine WR.stepT (Ex.eql rfl rfl) rfl (Wn.some rfl rfl rfl) rfl rfl ?_
  refine WR.step (Ex.pickT rfl rfl) (Wn.none rfl) rfl rfl ?_
  refine WR.step (Ex.move rfl) (Wn.none rfl) rfl rfl ?_
  refine WR.step (Ex.fieldAddr Try.underlying25 rfl Try.sizeOf3 (by decide) rfl) (Wn.some rfl rfl rfl) rfl rfl ?_
  first | refine WR.step (Ex.loadM H rfl (by assumption) Try.isAgg3) (Wn.some rfl rfl rfl) rfl rfl ?_ | refine WR.step (Ex.load1 H rfl (by repeat (first | exact List.Mem.head _ | apply List.Mem.tail)) Try.isAgg3 (by rfl)) (Wn.some rfl rfl rfl) rfl rfl ?_
  refine WR.stepT (Ex.eql rfl rfl) rfl (Wn.some rfl rfl rfl) rfl rfl ?_
  refine WR.step (Ex.pickT rfl rfl) (Wn.none rfl) rfl rfl ?_
  refine WR.step (Ex.move rfl) (Wn.none rfl) rfl rfl ?_
  refine WR.step (Ex.move rfl) (Wn.some rfl rfl rfl) rfl rfl ?_
  refine WR.step (Ex.toStr Try.underlying22 Try.underlying5 Try.underlying9 H (by assumption) rfl) (Wn.some rfl rfl rfl) rfl rfl ?_
  refine WR.stepT (Ex.strEql rfl rfl) ex1 (Wn.some rfl rfl rfl) rfl rfl ?_
  refine WR.step (Ex.pickT rfl rfl) (Wn.none rfl) rfl rfl ?_
  refine WR.step (Ex.move rfl) (Wn.none rfl) rfl rfl ?_
  refine WR.step (Ex.move rfl) (Wn.some rfl rfl rfl) rfl rfl ?_
  refine WR.lit (enc := encB) ty22 [65] H rfl (by rfl) (fun _ => rfl) rfl rfl (Wn.some rfl rfl rfl) rfl ?_
  intro v44 M w H hle hl44
  replace hl8 := hl8.mono hle
  replace hf9 := hf9.mono hle
  replace hl14 := hl14.mono hle
  replace hf15 := hf15.mono hle
  replace hl20 := hl20.mono hle
  replace hf21 := hf21.mono hle
  refine WR.call H (Ct.mono (bytes_spec _ _ _ _) (R' := fun r _ => r = .bool true) (fun _ _ h => h.trans (congrArg Value.bool (decide_eq_true ex2)))) rfl (⟨by assumption, by assumption⟩) (Wn.some rfl rfl rfl) rfl ?_
  intro v45 M w H hle hr45
  replace hl8 := hl8.mono hle
  replace hf9 := hf9.mono hle
  replace hl14 := hl14.mono hle
  replace hf15 := hf15.mono hle
  replace hl20 := hl20.mono hle
  replace hf21 := hf21.mono hle
  replace hl44 := hl44.mono hle
  obtain rfl := hr45
  refine WR.step (Ex.pickT rfl rfl) (Wn.none rfl) rfl rfl ?_
  refine WR.step (Ex.move rfl) (Wn.none rfl) rfl rfl ?_
  refine WR.step (Ex.move rfl) (Wn.some rfl rfl rfl) rfl rfl ?_
  refine WR.lit (enc := encB) ty22 [65] H rfl (by rfl) (fun _ => rfl) rfl rfl (Wn.some rfl rfl rfl) rfl ?_
  intro v49 M w H hle hl49
  replace hl8 := hl8.mono hle
  replace hf9 := hf9.mono hle
  replace hl14 := hl14.mono hle
  replace hf15 := hf15.mono hle
  replace hl20 := hl20.mono hle
  replace hf21 := hf21.mono hle
  replace hl44 := hl44.mono hle
  refine WR.call H (Ct.mono (bytes_spec _ _ _ _) (R' := fun r _ => r = .bool true) (fun _ _ h => h.trans (congrArg Value.bool (decide_eq_true ex3)))) rfl (⟨by assumption, by assumption⟩) (Wn.some rfl rfl rfl) rfl ?_
  intro v50 M w H hle hr50
  replace hl8 := hl8.mono hle
  replace hf9 := hf9.mono hle
  replace hl14 := hl14.mono hle
  replace hf15 := hf15.mono hle
  replace hl20 := hl20.mono hle
  replace hf21 := hf21.mono hle
  replace hl44 := hl44.mono hle
  replace hl49 := hl49.mono hle
  obtain rfl := hr50
  refine WR.step (Ex.pickT rfl rfl) (Wn.none rfl) rfl rfl ?_
  refine WR.step (Ex.assign rfl) (Wn.none rfl) rfl rfl ?_
  refine WR.nil ?_
  refine WQ.then ?_
  refine WC.ret ?_
  (repeat (first | refine WQ.thenRet ?_ | refine WQ.inBlockRet ?_))
  refine WQ.ret1 rfl rfl H.ext ?_
  exact rfl

end Go.Proofs.Ytgkpcfgbbgpihaa
