/-
  the laws: walks over the program's own operations, written by a program of this repository (wip/tools/gen.py) out of a plan.
-/
import Derived.Test.YtgkpcfgbbgpihaaTop
import Derived.Test.YtgkpcfgbbgpihaaB64Law
import Derived.KernelRfl
namespace Go.Proofs.Ytgkpcfgbbgpihaa
open Go Go.RowKit Go.Ph

open Go.Ph.B64

theorem l1_big (bv : Value) (l : List UInt8) (hs : 12000 < l.length) : Ct Try.prog 3 [bv] (fun M => Bs M bv l) (fun r _ => r = .bool true) := by
  refine Ct.of Try.func3 (enters Try.func3 (by kernel_rfl) rfl) rfl rfl rfl ?_
  intro w0 M0 H hp
  refine WC.seq ?_
  refine WC.region ?_
  refine WR.step (Ex.assign rfl) (Wn.none rfl) rfl rfl ?_
  refine WR.nil ?_
  refine WQ.then ?_
  refine WC.seq ?_
  refine WC.seq ?_
  refine WC.region ?_
  refine WR.call H (example_spec) rfl (trivial) (Wn.none rfl) rfl ?_
  intro v5 M w H hle hr5
  replace hp := hp.mono hle
  obtain rfl := hr5
  refine WR.step (Ex.notT rfl) (Wn.none rfl) rfl rfl ?_
  refine WR.nil ?_
  refine WQ.then ?_
  refine WC.condF rfl ?_
  refine WC.skip ?_
  refine WQ.then ?_
  refine WC.seq ?_
  refine WC.region ?_
  refine WR.step (Ex.move rfl) (Wn.none rfl) rfl rfl ?_
  refine WR.call H (encode_big _ _ hs) rfl (by assumption) (Wn.none rfl) rfl ?_
  intro v9 M w H hle hr9
  replace hp := hp.mono hle
  obtain rfl := hr9
  refine WR.step (Ex.move rfl) (Wn.none rfl) rfl rfl ?_
  refine WR.step (Ex.extract rfl rfl) (Wn.none rfl) rfl rfl ?_
  refine WR.step (Ex.extract rfl rfl) (Wn.none rfl) rfl rfl ?_
  refine WR.alloc [_, _] H Try.zeroValue25 rfl (Wn.none rfl) rfl ?_
  intro b4 w H
  refine WR.step (Ex.assign rfl) (Wn.none rfl) rfl rfl ?_
  refine WR.store [_, _] H rfl rfl rfl (by repeat (first | exact Upd.head | apply Upd.tail)) Try.sizeOf25 rfl (by rfl) (by rfl) (Wn.none rfl) ?_
  intro w H
  refine WR.nil ?_
  refine WQ.then ?_
  refine WC.seq ?_
  refine WC.seq ?_
  refine WC.region ?_
  refine WR.step (Ex.move rfl) (Wn.none rfl) rfl rfl ?_
  first | refine WR.step (Ex.lenSl Try.underlying22 (by assumption) rfl) (Wn.none rfl) rfl rfl ?_ | refine WR.step (Ex.lenRow Try.underlying22 H (by repeat (first | exact List.Mem.head _ | apply List.Mem.tail)) rfl) (Wn.none rfl) rfl rfl ?_ | refine WR.step (Ex.lenSlice Try.underlying22 rfl) (Wn.none rfl) rfl rfl ?_
  refine WR.stepT (Ex.gtr rfl rfl) (by omega) (Wn.none rfl) rfl rfl ?_
  refine WR.nil ?_
  refine WQ.then ?_
  refine WC.condT rfl ?_
  refine WC.seq ?_
  refine WC.draw (m := 9) rfl rfl H ?_
  intro w H
  refine WA.two (i := 0) (j := 1) (by kernel_rfl) rfl rfl ?_ ?_
  ·
    refine WR.step (Ex.loadAgg H rfl (by repeat (first | exact List.Mem.head _ | apply List.Mem.tail)) Try.isAgg25 Try.sizeOf25 (by rfl)) (Wn.none rfl) rfl rfl ?_
    refine WR.nil (WQ.any ?_)
    refine WA.one (i := 1) (by kernel_rfl) rfl ?_
    refine WR.call H (at_spec _ _) rfl (trivial) (Wn.none rfl) rfl ?_
    intro v16 M w H hle hr16
    replace hp := hp.mono hle
    obtain rfl := hr16
    refine WR.nil (WQ.any ?_)
    refine WA.one (i := 2) (by kernel_rfl) rfl ?_
    refine WR.stepT (Ex.eqlAgg rfl rfl (by kernel_rfl) (eq25 _ _ _ _)) ⟨rfl, rfl⟩ (Wn.none rfl) rfl rfl ?_
    refine WR.nil (WQ.any ?_)
    refine WA.one (i := 3) (by kernel_rfl) rfl ?_
    refine WR.step (Ex.move rfl) (Wn.none rfl) rfl rfl ?_
    refine WR.nil (WQ.any ?_)
    refine WA.one (i := 4) (by kernel_rfl) rfl ?_
    refine WR.step (Ex.move rfl) (Wn.some rfl rfl rfl) rfl rfl ?_
    refine WR.nil (WQ.any ?_)
    refine WA.one (i := 5) (by kernel_rfl) rfl ?_
    first | refine WR.step (Ex.lenSl Try.underlying22 (by assumption) rfl) (Wn.some rfl rfl rfl) rfl rfl ?_ | refine WR.step (Ex.lenRow Try.underlying22 H (by repeat (first | exact List.Mem.head _ | apply List.Mem.tail)) rfl) (Wn.some rfl rfl rfl) rfl rfl ?_ | refine WR.step (Ex.lenSlice Try.underlying22 rfl) (Wn.some rfl rfl rfl) rfl rfl ?_
    refine WR.nil (WQ.any ?_)
    refine WA.one (i := 6) (by kernel_rfl) rfl ?_
    refine WR.stepT (Ex.eql rfl rfl) rfl (Wn.some rfl rfl rfl) rfl rfl ?_
    refine WR.nil (WQ.any ?_)
    refine WA.one (i := 7) (by kernel_rfl) rfl ?_
    refine WR.step (Ex.pickT rfl rfl) (Wn.none rfl) rfl rfl ?_
    refine WR.nil (WQ.any ?_)
    refine WA.one (i := 8) (by kernel_rfl) rfl ?_
    refine WR.step (Ex.assign rfl) (Wn.none rfl) rfl rfl ?_
    refine WR.nil (WQ.any ?_)
    refine WA.done (by kernel_rfl) ?_
    refine WQ.then ?_
    refine WC.ret ?_
    (repeat (first | refine WQ.thenRet ?_ | refine WQ.inBlockRet ?_))
    refine WQ.ret1 rfl rfl H.ext ?_
    exact rfl
  ·
    refine WR.call H (at_spec _ _) rfl (trivial) (Wn.none rfl) rfl ?_
    intro v16 M w H hle hr16
    replace hp := hp.mono hle
    obtain rfl := hr16
    refine WR.nil (WQ.any ?_)
    refine WA.one (i := 0) (by kernel_rfl) rfl ?_
    refine WR.step (Ex.loadAgg H rfl (by repeat (first | exact List.Mem.head _ | apply List.Mem.tail)) Try.isAgg25 Try.sizeOf25 (by rfl)) (Wn.none rfl) rfl rfl ?_
    refine WR.nil (WQ.any ?_)
    refine WA.one (i := 2) (by kernel_rfl) rfl ?_
    refine WR.stepT (Ex.eqlAgg rfl rfl (by kernel_rfl) (eq25 _ _ _ _)) ⟨rfl, rfl⟩ (Wn.none rfl) rfl rfl ?_
    refine WR.nil (WQ.any ?_)
    refine WA.one (i := 3) (by kernel_rfl) rfl ?_
    refine WR.step (Ex.move rfl) (Wn.none rfl) rfl rfl ?_
    refine WR.nil (WQ.any ?_)
    refine WA.one (i := 4) (by kernel_rfl) rfl ?_
    refine WR.step (Ex.move rfl) (Wn.some rfl rfl rfl) rfl rfl ?_
    refine WR.nil (WQ.any ?_)
    refine WA.one (i := 5) (by kernel_rfl) rfl ?_
    first | refine WR.step (Ex.lenSl Try.underlying22 (by assumption) rfl) (Wn.some rfl rfl rfl) rfl rfl ?_ | refine WR.step (Ex.lenRow Try.underlying22 H (by repeat (first | exact List.Mem.head _ | apply List.Mem.tail)) rfl) (Wn.some rfl rfl rfl) rfl rfl ?_ | refine WR.step (Ex.lenSlice Try.underlying22 rfl) (Wn.some rfl rfl rfl) rfl rfl ?_
    refine WR.nil (WQ.any ?_)
    refine WA.one (i := 6) (by kernel_rfl) rfl ?_
    refine WR.stepT (Ex.eql rfl rfl) rfl (Wn.some rfl rfl rfl) rfl rfl ?_
    refine WR.nil (WQ.any ?_)
    refine WA.one (i := 7) (by kernel_rfl) rfl ?_
    refine WR.step (Ex.pickT rfl rfl) (Wn.none rfl) rfl rfl ?_
    refine WR.nil (WQ.any ?_)
    refine WA.one (i := 8) (by kernel_rfl) rfl ?_
    refine WR.step (Ex.assign rfl) (Wn.none rfl) rfl rfl ?_
    refine WR.nil (WQ.any ?_)
    refine WA.done (by kernel_rfl) ?_
    refine WQ.then ?_
    refine WC.ret ?_
    (repeat (first | refine WQ.thenRet ?_ | refine WQ.inBlockRet ?_))
    refine WQ.ret1 rfl rfl H.ext ?_
    exact rfl

theorem l1_ok (bv : Value) (l : List UInt8) (hs : l.length ≤ 12000) : Ct Try.prog 3 [bv] (fun M => Bs M bv l) (fun r _ => r = .bool true) := by
  refine Ct.of Try.func3 (enters Try.func3 (by kernel_rfl) rfl) rfl rfl rfl ?_
  intro w0 M0 H hp
  refine WC.seq ?_
  refine WC.region ?_
  refine WR.step (Ex.assign rfl) (Wn.none rfl) rfl rfl ?_
  refine WR.nil ?_
  refine WQ.then ?_
  refine WC.seq ?_
  refine WC.seq ?_
  refine WC.region ?_
  refine WR.call H (example_spec) rfl (trivial) (Wn.none rfl) rfl ?_
  intro v5 M w H hle hr5
  replace hp := hp.mono hle
  obtain rfl := hr5
  refine WR.step (Ex.notT rfl) (Wn.none rfl) rfl rfl ?_
  refine WR.nil ?_
  refine WQ.then ?_
  refine WC.condF rfl ?_
  refine WC.skip ?_
  refine WQ.then ?_
  refine WC.seq ?_
  refine WC.region ?_
  refine WR.step (Ex.move rfl) (Wn.none rfl) rfl rfl ?_
  refine WR.call H (encode_spec _ _ (by omega)) rfl (by assumption) (Wn.none rfl) rfl ?_
  intro v9 M w H hle hr9
  replace hp := hp.mono hle
  obtain ⟨w9, rfl, hf9⟩ := hr9
  refine WR.step (Ex.move rfl) (Wn.none rfl) rfl rfl ?_
  refine WR.step (Ex.extract rfl rfl) (Wn.none rfl) rfl rfl ?_
  refine WR.step (Ex.extract rfl rfl) (Wn.none rfl) rfl rfl ?_
  refine WR.alloc [_, _] H Try.zeroValue25 rfl (Wn.none rfl) rfl ?_
  intro b4 w H
  refine WR.step (Ex.assign rfl) (Wn.none rfl) rfl rfl ?_
  refine WR.store [_, _] H rfl rfl rfl (by repeat (first | exact Upd.head | apply Upd.tail)) Try.sizeOf25 rfl (by rfl) (by rfl) (Wn.none rfl) ?_
  intro w H
  refine WR.nil ?_
  refine WQ.then ?_
  refine WC.seq ?_
  refine WC.seq ?_
  refine WC.region ?_
  refine WR.step (Ex.move rfl) (Wn.none rfl) rfl rfl ?_
  first | refine WR.step (Ex.lenSl Try.underlying22 (by assumption) rfl) (Wn.none rfl) rfl rfl ?_ | refine WR.step (Ex.lenRow Try.underlying22 H (by repeat (first | exact List.Mem.head _ | apply List.Mem.tail)) rfl) (Wn.none rfl) rfl rfl ?_ | refine WR.step (Ex.lenSlice Try.underlying22 rfl) (Wn.none rfl) rfl rfl ?_
  refine WR.stepF (Ex.gtr rfl rfl) (by omega) (Wn.none rfl) rfl rfl ?_
  refine WR.nil ?_
  refine WQ.then ?_
  refine WC.condF rfl ?_
  refine WC.skip ?_
  refine WQ.then ?_
  refine WC.seq ?_
  refine WC.region ?_
  refine WR.step (Ex.fieldAddr Try.underlying25 rfl Try.sizeOf3 (by decide) rfl) (Wn.none rfl) rfl rfl ?_
  first | refine WR.step (Ex.loadM H rfl (by assumption) Try.isAgg3) (Wn.none rfl) rfl rfl ?_ | refine WR.step (Ex.load1 H rfl (by repeat (first | exact List.Mem.head _ | apply List.Mem.tail)) Try.isAgg3 (by rfl)) (Wn.none rfl) rfl rfl ?_
  refine WR.stepT (Ex.eql rfl rfl) rfl (Wn.none rfl) rfl rfl ?_
  refine WR.step (Ex.move rfl) (Wn.none rfl) rfl rfl ?_
  refine WR.step (Ex.move rfl) (Wn.some rfl rfl rfl) rfl rfl ?_
  refine WR.step (Ex.move rfl) (Wn.some rfl rfl rfl) rfl rfl ?_
  refine WR.call H (lines64_spec _ l (by omega) (by rw [chars_len]; omega)) rfl (by assumption) (Wn.some rfl rfl rfl) rfl ?_
  intro v29 M w H hle hr29
  replace hp := hp.mono hle
  replace hf9 := hf9.mono hle
  have hf29 := hr29
  refine WR.call H (Ct.mono (bytes_spec _ _ _ _) (R' := fun r _ => r = .bool true) (fun _ _ h => h.trans (congrArg Value.bool (decide_eq_true (encode_lines l))))) rfl (⟨by assumption, by assumption⟩) (Wn.some rfl rfl rfl) rfl ?_
  intro v30 M w H hle hr30
  replace hp := hp.mono hle
  replace hf9 := hf9.mono hle
  replace hf29 := hf29.mono hle
  obtain rfl := hr30
  refine WR.step (Ex.pickT rfl rfl) (Wn.none rfl) rfl rfl ?_
  refine WR.step (Ex.assign rfl) (Wn.none rfl) rfl rfl ?_
  refine WR.nil ?_
  refine WQ.then ?_
  refine WC.ret ?_
  (repeat (first | refine WQ.thenRet ?_ | refine WQ.inBlockRet ?_))
  refine WQ.ret1 rfl rfl H.ext ?_
  exact rfl

theorem l2_big (bv : Value) (l : List UInt8) (hs : 24000 < l.length) : Ct Try.prog 4 [bv] (fun M => Bs M bv l) (fun r _ => r = .bool true) := by
  refine Ct.of Try.func4 (enters Try.func4 (by kernel_rfl) rfl) rfl rfl rfl ?_
  intro w0 M0 H hp
  refine WC.seq ?_
  refine WC.region ?_
  refine WR.step (Ex.assign rfl) (Wn.none rfl) rfl rfl ?_
  refine WR.nil ?_
  refine WQ.then ?_
  refine WC.seq ?_
  refine WC.seq ?_
  refine WC.region ?_
  refine WR.call H (example_spec) rfl (trivial) (Wn.none rfl) rfl ?_
  intro v5 M w H hle hr5
  replace hp := hp.mono hle
  obtain rfl := hr5
  refine WR.step (Ex.notT rfl) (Wn.none rfl) rfl rfl ?_
  refine WR.nil ?_
  refine WQ.then ?_
  refine WC.condF rfl ?_
  refine WC.skip ?_
  refine WQ.then ?_
  refine WC.seq ?_
  refine WC.region ?_
  refine WR.step (Ex.move rfl) (Wn.none rfl) rfl rfl ?_
  refine WR.call H (lenient_big _ _ hs) rfl (by assumption) (Wn.none rfl) rfl ?_
  intro v9 M w H hle hr9
  replace hp := hp.mono hle
  obtain rfl := hr9
  refine WR.step (Ex.move rfl) (Wn.none rfl) rfl rfl ?_
  refine WR.step (Ex.extract rfl rfl) (Wn.none rfl) rfl rfl ?_
  refine WR.step (Ex.extract rfl rfl) (Wn.none rfl) rfl rfl ?_
  refine WR.alloc [_, _] H Try.zeroValue25 rfl (Wn.none rfl) rfl ?_
  intro b4 w H
  refine WR.step (Ex.assign rfl) (Wn.none rfl) rfl rfl ?_
  refine WR.store [_, _] H rfl rfl rfl (by repeat (first | exact Upd.head | apply Upd.tail)) Try.sizeOf25 rfl (by rfl) (by rfl) (Wn.none rfl) ?_
  intro w H
  refine WR.nil ?_
  refine WQ.then ?_
  refine WC.seq ?_
  refine WC.seq ?_
  refine WC.region ?_
  refine WR.step (Ex.move rfl) (Wn.none rfl) rfl rfl ?_
  first | refine WR.step (Ex.lenSl Try.underlying22 (by assumption) rfl) (Wn.none rfl) rfl rfl ?_ | refine WR.step (Ex.lenRow Try.underlying22 H (by repeat (first | exact List.Mem.head _ | apply List.Mem.tail)) rfl) (Wn.none rfl) rfl rfl ?_ | refine WR.step (Ex.lenSlice Try.underlying22 rfl) (Wn.none rfl) rfl rfl ?_
  refine WR.stepT (Ex.gtr rfl rfl) (by omega) (Wn.none rfl) rfl rfl ?_
  refine WR.nil ?_
  refine WQ.then ?_
  refine WC.condT rfl ?_
  refine WC.seq ?_
  refine WC.draw (m := 9) rfl rfl H ?_
  intro w H
  refine WA.two (i := 0) (j := 1) (by kernel_rfl) rfl rfl ?_ ?_
  ·
    refine WR.step (Ex.loadAgg H rfl (by repeat (first | exact List.Mem.head _ | apply List.Mem.tail)) Try.isAgg25 Try.sizeOf25 (by rfl)) (Wn.none rfl) rfl rfl ?_
    refine WR.nil (WQ.any ?_)
    refine WA.one (i := 1) (by kernel_rfl) rfl ?_
    refine WR.call H (at_spec _ _) rfl (trivial) (Wn.none rfl) rfl ?_
    intro v16 M w H hle hr16
    replace hp := hp.mono hle
    obtain rfl := hr16
    refine WR.nil (WQ.any ?_)
    refine WA.one (i := 2) (by kernel_rfl) rfl ?_
    refine WR.stepT (Ex.eqlAgg rfl rfl (by kernel_rfl) (eq25 _ _ _ _)) ⟨rfl, rfl⟩ (Wn.none rfl) rfl rfl ?_
    refine WR.nil (WQ.any ?_)
    refine WA.one (i := 3) (by kernel_rfl) rfl ?_
    refine WR.step (Ex.move rfl) (Wn.none rfl) rfl rfl ?_
    refine WR.nil (WQ.any ?_)
    refine WA.one (i := 4) (by kernel_rfl) rfl ?_
    refine WR.step (Ex.move rfl) (Wn.some rfl rfl rfl) rfl rfl ?_
    refine WR.nil (WQ.any ?_)
    refine WA.one (i := 5) (by kernel_rfl) rfl ?_
    first | refine WR.step (Ex.lenSl Try.underlying22 (by assumption) rfl) (Wn.some rfl rfl rfl) rfl rfl ?_ | refine WR.step (Ex.lenRow Try.underlying22 H (by repeat (first | exact List.Mem.head _ | apply List.Mem.tail)) rfl) (Wn.some rfl rfl rfl) rfl rfl ?_ | refine WR.step (Ex.lenSlice Try.underlying22 rfl) (Wn.some rfl rfl rfl) rfl rfl ?_
    refine WR.nil (WQ.any ?_)
    refine WA.one (i := 6) (by kernel_rfl) rfl ?_
    refine WR.stepT (Ex.eql rfl rfl) rfl (Wn.some rfl rfl rfl) rfl rfl ?_
    refine WR.nil (WQ.any ?_)
    refine WA.one (i := 7) (by kernel_rfl) rfl ?_
    refine WR.step (Ex.pickT rfl rfl) (Wn.none rfl) rfl rfl ?_
    refine WR.nil (WQ.any ?_)
    refine WA.one (i := 8) (by kernel_rfl) rfl ?_
    refine WR.step (Ex.assign rfl) (Wn.none rfl) rfl rfl ?_
    refine WR.nil (WQ.any ?_)
    refine WA.done (by kernel_rfl) ?_
    refine WQ.then ?_
    refine WC.ret ?_
    (repeat (first | refine WQ.thenRet ?_ | refine WQ.inBlockRet ?_))
    refine WQ.ret1 rfl rfl H.ext ?_
    exact rfl
  ·
    refine WR.call H (at_spec _ _) rfl (trivial) (Wn.none rfl) rfl ?_
    intro v16 M w H hle hr16
    replace hp := hp.mono hle
    obtain rfl := hr16
    refine WR.nil (WQ.any ?_)
    refine WA.one (i := 0) (by kernel_rfl) rfl ?_
    refine WR.step (Ex.loadAgg H rfl (by repeat (first | exact List.Mem.head _ | apply List.Mem.tail)) Try.isAgg25 Try.sizeOf25 (by rfl)) (Wn.none rfl) rfl rfl ?_
    refine WR.nil (WQ.any ?_)
    refine WA.one (i := 2) (by kernel_rfl) rfl ?_
    refine WR.stepT (Ex.eqlAgg rfl rfl (by kernel_rfl) (eq25 _ _ _ _)) ⟨rfl, rfl⟩ (Wn.none rfl) rfl rfl ?_
    refine WR.nil (WQ.any ?_)
    refine WA.one (i := 3) (by kernel_rfl) rfl ?_
    refine WR.step (Ex.move rfl) (Wn.none rfl) rfl rfl ?_
    refine WR.nil (WQ.any ?_)
    refine WA.one (i := 4) (by kernel_rfl) rfl ?_
    refine WR.step (Ex.move rfl) (Wn.some rfl rfl rfl) rfl rfl ?_
    refine WR.nil (WQ.any ?_)
    refine WA.one (i := 5) (by kernel_rfl) rfl ?_
    first | refine WR.step (Ex.lenSl Try.underlying22 (by assumption) rfl) (Wn.some rfl rfl rfl) rfl rfl ?_ | refine WR.step (Ex.lenRow Try.underlying22 H (by repeat (first | exact List.Mem.head _ | apply List.Mem.tail)) rfl) (Wn.some rfl rfl rfl) rfl rfl ?_ | refine WR.step (Ex.lenSlice Try.underlying22 rfl) (Wn.some rfl rfl rfl) rfl rfl ?_
    refine WR.nil (WQ.any ?_)
    refine WA.one (i := 6) (by kernel_rfl) rfl ?_
    refine WR.stepT (Ex.eql rfl rfl) rfl (Wn.some rfl rfl rfl) rfl rfl ?_
    refine WR.nil (WQ.any ?_)
    refine WA.one (i := 7) (by kernel_rfl) rfl ?_
    refine WR.step (Ex.pickT rfl rfl) (Wn.none rfl) rfl rfl ?_
    refine WR.nil (WQ.any ?_)
    refine WA.one (i := 8) (by kernel_rfl) rfl ?_
    refine WR.step (Ex.assign rfl) (Wn.none rfl) rfl rfl ?_
    refine WR.nil (WQ.any ?_)
    refine WA.done (by kernel_rfl) ?_
    refine WQ.then ?_
    refine WC.ret ?_
    (repeat (first | refine WQ.thenRet ?_ | refine WQ.inBlockRet ?_))
    refine WQ.ret1 rfl rfl H.ext ?_
    exact rfl

theorem l2_ok (bv : Value) (l : List UInt8) (hs : l.length ≤ 24000) : Ct Try.prog 4 [bv] (fun M => Bs M bv l) (fun r _ => r = .bool true) := by
  refine Ct.of Try.func4 (enters Try.func4 (by kernel_rfl) rfl) rfl rfl rfl ?_
  intro w0 M0 H hp
  refine WC.seq ?_
  refine WC.region ?_
  refine WR.step (Ex.assign rfl) (Wn.none rfl) rfl rfl ?_
  refine WR.nil ?_
  refine WQ.then ?_
  refine WC.seq ?_
  refine WC.seq ?_
  refine WC.region ?_
  refine WR.call H (example_spec) rfl (trivial) (Wn.none rfl) rfl ?_
  intro v5 M w H hle hr5
  replace hp := hp.mono hle
  obtain rfl := hr5
  refine WR.step (Ex.notT rfl) (Wn.none rfl) rfl rfl ?_
  refine WR.nil ?_
  refine WQ.then ?_
  refine WC.condF rfl ?_
  refine WC.skip ?_
  refine WQ.then ?_
  refine WC.seq ?_
  refine WC.region ?_
  refine WR.step (Ex.move rfl) (Wn.none rfl) rfl rfl ?_
  refine WR.call H (lenient_spec _ _ (by omega)) rfl (by assumption) (Wn.none rfl) rfl ?_
  intro v9 M w H hle hr9
  replace hp := hp.mono hle
  obtain ⟨w9, rfl, hf9⟩ := hr9
  refine WR.step (Ex.move rfl) (Wn.none rfl) rfl rfl ?_
  refine WR.step (Ex.extract rfl rfl) (Wn.none rfl) rfl rfl ?_
  refine WR.step (Ex.extract rfl rfl) (Wn.none rfl) rfl rfl ?_
  refine WR.alloc [_, _] H Try.zeroValue25 rfl (Wn.none rfl) rfl ?_
  intro b4 w H
  refine WR.step (Ex.assign rfl) (Wn.none rfl) rfl rfl ?_
  refine WR.store [_, _] H rfl rfl rfl (by repeat (first | exact Upd.head | apply Upd.tail)) Try.sizeOf25 rfl (by rfl) (by rfl) (Wn.none rfl) ?_
  intro w H
  refine WR.nil ?_
  refine WQ.then ?_
  refine WC.seq ?_
  refine WC.seq ?_
  refine WC.region ?_
  refine WR.step (Ex.move rfl) (Wn.none rfl) rfl rfl ?_
  first | refine WR.step (Ex.lenSl Try.underlying22 (by assumption) rfl) (Wn.none rfl) rfl rfl ?_ | refine WR.step (Ex.lenRow Try.underlying22 H (by repeat (first | exact List.Mem.head _ | apply List.Mem.tail)) rfl) (Wn.none rfl) rfl rfl ?_ | refine WR.step (Ex.lenSlice Try.underlying22 rfl) (Wn.none rfl) rfl rfl ?_
  refine WR.stepF (Ex.gtr rfl rfl) (by omega) (Wn.none rfl) rfl rfl ?_
  refine WR.nil ?_
  refine WQ.then ?_
  refine WC.condF rfl ?_
  refine WC.skip ?_
  refine WQ.then ?_
  refine WC.seq ?_
  refine WC.region ?_
  refine WR.step (Ex.fieldAddr Try.underlying25 rfl Try.sizeOf3 (by decide) rfl) (Wn.none rfl) rfl rfl ?_
  first | refine WR.step (Ex.loadM H rfl (by assumption) Try.isAgg3) (Wn.none rfl) rfl rfl ?_ | refine WR.step (Ex.load1 H rfl (by repeat (first | exact List.Mem.head _ | apply List.Mem.tail)) Try.isAgg3 (by rfl)) (Wn.none rfl) rfl rfl ?_
  refine WR.stepT (Ex.eql rfl rfl) rfl (Wn.none rfl) rfl rfl ?_
  refine WR.step (Ex.move rfl) (Wn.none rfl) rfl rfl ?_
  refine WR.step (Ex.move rfl) (Wn.some rfl rfl rfl) rfl rfl ?_
  refine WR.step (Ex.move rfl) (Wn.some rfl rfl rfl) rfl rfl ?_
  refine WR.call H (loose64_spec _ l (by omega)) rfl (by assumption) (Wn.some rfl rfl rfl) rfl ?_
  intro v29 M w H hle hr29
  replace hp := hp.mono hle
  replace hf9 := hf9.mono hle
  have hf29 := hr29
  refine WR.call H (Ct.mono (bytes_spec _ _ _ _) (R' := fun r _ => r = .bool true) (fun _ _ h => h.trans (congrArg Value.bool (decide_eq_true (lenient_loose l))))) rfl (⟨by assumption, by assumption⟩) (Wn.some rfl rfl rfl) rfl ?_
  intro v30 M w H hle hr30
  replace hp := hp.mono hle
  replace hf9 := hf9.mono hle
  replace hf29 := hf29.mono hle
  obtain rfl := hr30
  refine WR.step (Ex.pickT rfl rfl) (Wn.none rfl) rfl rfl ?_
  refine WR.step (Ex.assign rfl) (Wn.none rfl) rfl rfl ?_
  refine WR.nil ?_
  refine WQ.then ?_
  refine WC.ret ?_
  (repeat (first | refine WQ.thenRet ?_ | refine WQ.inBlockRet ?_))
  refine WQ.ret1 rfl rfl H.ext ?_
  exact rfl

theorem l3_big (bv : Value) (l : List UInt8) (hs : 12000 < l.length) : Ct Try.prog 5 [bv] (fun M => Bs M bv l) (fun r _ => r = .bool true) := by
  refine Ct.of Try.func5 (enters Try.func5 (by kernel_rfl) rfl) rfl rfl rfl ?_
  intro w0 M0 H hp
  refine WC.seq ?_
  refine WC.region ?_
  refine WR.step (Ex.assign rfl) (Wn.none rfl) rfl rfl ?_
  refine WR.nil ?_
  refine WQ.then ?_
  refine WC.seq ?_
  refine WC.seq ?_
  refine WC.region ?_
  refine WR.call H (example_spec) rfl (trivial) (Wn.none rfl) rfl ?_
  intro v9 M w H hle hr9
  replace hp := hp.mono hle
  obtain rfl := hr9
  refine WR.step (Ex.notT rfl) (Wn.none rfl) rfl rfl ?_
  refine WR.nil ?_
  refine WQ.then ?_
  refine WC.condF rfl ?_
  refine WC.skip ?_
  refine WQ.then ?_
  refine WC.seq ?_
  refine WC.region ?_
  refine WR.step (Ex.move rfl) (Wn.none rfl) rfl rfl ?_
  refine WR.call H (encode_big _ _ hs) rfl (by assumption) (Wn.none rfl) rfl ?_
  intro v13 M w H hle hr13
  replace hp := hp.mono hle
  obtain rfl := hr13
  refine WR.step (Ex.move rfl) (Wn.none rfl) rfl rfl ?_
  refine WR.step (Ex.extract rfl rfl) (Wn.none rfl) rfl rfl ?_
  refine WR.step (Ex.extract rfl rfl) (Wn.none rfl) rfl rfl ?_
  refine WR.alloc [_, _] H Try.zeroValue25 rfl (Wn.none rfl) rfl ?_
  intro b4 w H
  refine WR.step (Ex.assign rfl) (Wn.none rfl) rfl rfl ?_
  refine WR.store [_, _] H rfl rfl rfl (by repeat (first | exact Upd.head | apply Upd.tail)) Try.sizeOf25 rfl (by rfl) (by rfl) (Wn.none rfl) ?_
  intro w H
  refine WR.nil ?_
  refine WQ.then ?_
  refine WC.seq ?_
  refine WC.seq ?_
  refine WC.region ?_
  refine WR.step (Ex.fieldAddr Try.underlying25 rfl Try.sizeOf3 (by decide) rfl) (Wn.none rfl) rfl rfl ?_
  first | refine WR.step (Ex.loadM H rfl (by assumption) Try.isAgg3) (Wn.none rfl) rfl rfl ?_ | refine WR.step (Ex.load1 H rfl (by repeat (first | exact List.Mem.head _ | apply List.Mem.tail)) Try.isAgg3 (by rfl)) (Wn.none rfl) rfl rfl ?_
  refine WR.stepT (Ex.neq rfl rfl) (by decide) (Wn.none rfl) rfl rfl ?_
  refine WR.nil ?_
  refine WQ.then ?_
  refine WC.condT rfl ?_
  refine WC.seq ?_
  refine WC.region ?_
  refine WR.step (Ex.move rfl) (Wn.none rfl) rfl rfl ?_
  first | refine WR.step (Ex.lenSl Try.underlying22 (by assumption) rfl) (Wn.none rfl) rfl rfl ?_ | refine WR.step (Ex.lenRow Try.underlying22 H (by repeat (first | exact List.Mem.head _ | apply List.Mem.tail)) rfl) (Wn.none rfl) rfl rfl ?_ | refine WR.step (Ex.lenSlice Try.underlying22 rfl) (Wn.none rfl) rfl rfl ?_
  refine WR.stepT (Ex.eql rfl rfl) rfl (Wn.none rfl) rfl rfl ?_
  refine WR.step (Ex.assign rfl) (Wn.none rfl) rfl rfl ?_
  refine WR.nil ?_
  refine WQ.then ?_
  refine WC.ret ?_
  (repeat (first | refine WQ.thenRet ?_ | refine WQ.inBlockRet ?_))
  refine WQ.ret1 rfl rfl H.ext ?_
  exact rfl

theorem l3_ok (bv : Value) (l : List UInt8) (hs : l.length ≤ 12000) : Ct Try.prog 5 [bv] (fun M => Bs M bv l) (fun r _ => r = .bool true) := by
  refine Ct.of Try.func5 (enters Try.func5 (by kernel_rfl) rfl) rfl rfl rfl ?_
  intro w0 M0 H hp
  refine WC.seq ?_
  refine WC.region ?_
  refine WR.step (Ex.assign rfl) (Wn.none rfl) rfl rfl ?_
  refine WR.nil ?_
  refine WQ.then ?_
  refine WC.seq ?_
  refine WC.seq ?_
  refine WC.region ?_
  refine WR.call H (example_spec) rfl (trivial) (Wn.none rfl) rfl ?_
  intro v9 M w H hle hr9
  replace hp := hp.mono hle
  obtain rfl := hr9
  refine WR.step (Ex.notT rfl) (Wn.none rfl) rfl rfl ?_
  refine WR.nil ?_
  refine WQ.then ?_
  refine WC.condF rfl ?_
  refine WC.skip ?_
  refine WQ.then ?_
  refine WC.seq ?_
  refine WC.region ?_
  refine WR.step (Ex.move rfl) (Wn.none rfl) rfl rfl ?_
  refine WR.call H (encode_spec _ _ (by omega)) rfl (by assumption) (Wn.none rfl) rfl ?_
  intro v13 M w H hle hr13
  replace hp := hp.mono hle
  obtain ⟨w13, rfl, hf13⟩ := hr13
  refine WR.step (Ex.move rfl) (Wn.none rfl) rfl rfl ?_
  refine WR.step (Ex.extract rfl rfl) (Wn.none rfl) rfl rfl ?_
  refine WR.step (Ex.extract rfl rfl) (Wn.none rfl) rfl rfl ?_
  refine WR.alloc [_, _] H Try.zeroValue25 rfl (Wn.none rfl) rfl ?_
  intro b4 w H
  refine WR.step (Ex.assign rfl) (Wn.none rfl) rfl rfl ?_
  refine WR.store [_, _] H rfl rfl rfl (by repeat (first | exact Upd.head | apply Upd.tail)) Try.sizeOf25 rfl (by rfl) (by rfl) (Wn.none rfl) ?_
  intro w H
  refine WR.nil ?_
  refine WQ.then ?_
  refine WC.seq ?_
  refine WC.seq ?_
  refine WC.region ?_
  refine WR.step (Ex.fieldAddr Try.underlying25 rfl Try.sizeOf3 (by decide) rfl) (Wn.none rfl) rfl rfl ?_
  first | refine WR.step (Ex.loadM H rfl (by assumption) Try.isAgg3) (Wn.none rfl) rfl rfl ?_ | refine WR.step (Ex.load1 H rfl (by repeat (first | exact List.Mem.head _ | apply List.Mem.tail)) Try.isAgg3 (by rfl)) (Wn.none rfl) rfl rfl ?_
  refine WR.stepF (Ex.neq rfl rfl) (by decide) (Wn.none rfl) rfl rfl ?_
  refine WR.nil ?_
  refine WQ.then ?_
  refine WC.condF rfl ?_
  refine WC.skip ?_
  refine WQ.then ?_
  refine WC.seq ?_
  refine WC.region ?_
  refine WR.step (Ex.move rfl) (Wn.none rfl) rfl rfl ?_
  refine WR.call H (decode_ok _ (encode l) (by have := encode_len l; omega) (by rw [lenient_encode]; exact hs) (by rw [lenient_encode])) rfl (by assumption) (Wn.none rfl) rfl ?_
  intro v24 M w H hle hr24
  replace hp := hp.mono hle
  replace hf13 := hf13.mono hle
  obtain ⟨w24, rfl, hf24⟩ := hr24
  refine WR.step (Ex.move rfl) (Wn.none rfl) rfl rfl ?_
  refine WR.step (Ex.extract rfl rfl) (Wn.none rfl) rfl rfl ?_
  refine WR.step (Ex.extract rfl rfl) (Wn.none rfl) rfl rfl ?_
  refine WR.alloc [_, _] H Try.zeroValue25 rfl (Wn.none rfl) rfl ?_
  intro b6 w H
  refine WR.step (Ex.assign rfl) (Wn.none rfl) rfl rfl ?_
  refine WR.store [_, _] H rfl rfl rfl (by repeat (first | exact Upd.head | apply Upd.tail)) Try.sizeOf25 rfl (by rfl) (by rfl) (Wn.none rfl) ?_
  intro w H
  refine WR.nil ?_
  refine WQ.then ?_
  refine WC.seq ?_
  refine WC.region ?_
  refine WR.step (Ex.move rfl) (Wn.none rfl) rfl rfl ?_
  refine WR.call H (lenient_spec _ (encode l) (by have := encode_len l; omega)) rfl (by assumption) (Wn.none rfl) rfl ?_
  intro v29 M w H hle hr29
  replace hp := hp.mono hle
  replace hf13 := hf13.mono hle
  replace hf24 := hf24.mono hle
  obtain ⟨w29, rfl, hf29⟩ := hr29
  refine WR.step (Ex.move rfl) (Wn.none rfl) rfl rfl ?_
  refine WR.step (Ex.extract rfl rfl) (Wn.none rfl) rfl rfl ?_
  refine WR.step (Ex.extract rfl rfl) (Wn.none rfl) rfl rfl ?_
  refine WR.alloc [_, _] H Try.zeroValue25 rfl (Wn.none rfl) rfl ?_
  intro b8 w H
  refine WR.step (Ex.assign rfl) (Wn.none rfl) rfl rfl ?_
  refine WR.store [_, _] H rfl rfl rfl (by repeat (first | exact Upd.head | apply Upd.tail)) Try.sizeOf25 rfl (by rfl) (by rfl) (Wn.none rfl) ?_
  intro w H
  refine WR.nil ?_
  refine WQ.then ?_
  refine WC.seq ?_
  refine WC.region ?_
  refine WR.step (Ex.fieldAddr Try.underlying25 rfl Try.sizeOf3 (by decide) rfl) (Wn.none rfl) rfl rfl ?_
  first | refine WR.step (Ex.loadM H rfl (by assumption) Try.isAgg3) (Wn.none rfl) rfl rfl ?_ | refine WR.step (Ex.load1 H rfl (by repeat (first | exact List.Mem.head _ | apply List.Mem.tail)) Try.isAgg3 (by rfl)) (Wn.none rfl) rfl rfl ?_
  refine WR.stepT (Ex.eql rfl rfl) rfl (Wn.none rfl) rfl rfl ?_
  refine WR.step (Ex.move rfl) (Wn.none rfl) rfl rfl ?_
  refine WR.step (Ex.fieldAddr Try.underlying25 rfl Try.sizeOf3 (by decide) rfl) (Wn.some rfl rfl rfl) rfl rfl ?_
  first | refine WR.step (Ex.loadM H rfl (by assumption) Try.isAgg3) (Wn.some rfl rfl rfl) rfl rfl ?_ | refine WR.step (Ex.load1 H rfl (by repeat (first | exact List.Mem.head _ | apply List.Mem.tail)) Try.isAgg3 (by rfl)) (Wn.some rfl rfl rfl) rfl rfl ?_
  refine WR.stepT (Ex.eql rfl rfl) rfl (Wn.some rfl rfl rfl) rfl rfl ?_
  refine WR.step (Ex.pickT rfl rfl) (Wn.none rfl) rfl rfl ?_
  refine WR.step (Ex.move rfl) (Wn.none rfl) rfl rfl ?_
  refine WR.step (Ex.move rfl) (Wn.some rfl rfl rfl) rfl rfl ?_
  refine WR.step (Ex.move rfl) (Wn.some rfl rfl rfl) rfl rfl ?_
  refine WR.call H (Ct.mono (bytes_spec _ _ _ _) (R' := fun r _ => r = .bool true) (fun _ _ h => h.trans (congrArg Value.bool (decide_eq_true (lenient_encode l))))) rfl (⟨by assumption, by assumption⟩) (Wn.some rfl rfl rfl) rfl ?_
  intro v43 M w H hle hr43
  replace hp := hp.mono hle
  replace hf13 := hf13.mono hle
  replace hf24 := hf24.mono hle
  replace hf29 := hf29.mono hle
  obtain rfl := hr43
  refine WR.step (Ex.pickT rfl rfl) (Wn.none rfl) rfl rfl ?_
  refine WR.step (Ex.move rfl) (Wn.none rfl) rfl rfl ?_
  refine WR.step (Ex.move rfl) (Wn.some rfl rfl rfl) rfl rfl ?_
  refine WR.step (Ex.move rfl) (Wn.some rfl rfl rfl) rfl rfl ?_
  refine WR.call H (Ct.mono (bytes_spec _ _ _ _) (R' := fun r _ => r = .bool true) (fun _ _ h => h.trans (congrArg Value.bool (decide_eq_true (lenient_encode l))))) rfl (⟨by assumption, by assumption⟩) (Wn.some rfl rfl rfl) rfl ?_
  intro v48 M w H hle hr48
  replace hp := hp.mono hle
  replace hf13 := hf13.mono hle
  replace hf24 := hf24.mono hle
  replace hf29 := hf29.mono hle
  obtain rfl := hr48
  refine WR.step (Ex.pickT rfl rfl) (Wn.none rfl) rfl rfl ?_
  refine WR.step (Ex.assign rfl) (Wn.none rfl) rfl rfl ?_
  refine WR.nil ?_
  refine WQ.then ?_
  refine WC.ret ?_
  (repeat (first | refine WQ.thenRet ?_ | refine WQ.inBlockRet ?_))
  refine WQ.ret1 rfl rfl H.ext ?_
  exact rfl

theorem l4_big (bv : Value) (l : List UInt8) (hs : 24000 < l.length) : Ct Try.prog 6 [bv] (fun M => Bs M bv l) (fun r _ => r = .bool true) := by
  refine Ct.of Try.func6 (enters Try.func6 (by kernel_rfl) rfl) rfl rfl rfl ?_
  intro w0 M0 H hp
  refine WC.seq ?_
  refine WC.region ?_
  refine WR.step (Ex.assign rfl) (Wn.none rfl) rfl rfl ?_
  refine WR.nil ?_
  refine WQ.then ?_
  refine WC.seq ?_
  refine WC.seq ?_
  refine WC.region ?_
  refine WR.call H (example_spec) rfl (trivial) (Wn.none rfl) rfl ?_
  intro v5 M w H hle hr5
  replace hp := hp.mono hle
  obtain rfl := hr5
  refine WR.step (Ex.notT rfl) (Wn.none rfl) rfl rfl ?_
  refine WR.nil ?_
  refine WQ.then ?_
  refine WC.condF rfl ?_
  refine WC.skip ?_
  refine WQ.then ?_
  refine WC.seq ?_
  refine WC.seq ?_
  refine WC.region ?_
  refine WR.step (Ex.move rfl) (Wn.none rfl) rfl rfl ?_
  first | refine WR.step (Ex.lenSl Try.underlying22 (by assumption) rfl) (Wn.none rfl) rfl rfl ?_ | refine WR.step (Ex.lenRow Try.underlying22 H (by repeat (first | exact List.Mem.head _ | apply List.Mem.tail)) rfl) (Wn.none rfl) rfl rfl ?_ | refine WR.step (Ex.lenSlice Try.underlying22 rfl) (Wn.none rfl) rfl rfl ?_
  refine WR.stepT (Ex.gtr rfl rfl) (by omega) (Wn.none rfl) rfl rfl ?_
  refine WR.nil ?_
  refine WQ.then ?_
  refine WC.condT rfl ?_
  refine WC.seq ?_
  refine WC.region ?_
  refine WR.step (Ex.assign rfl) (Wn.none rfl) rfl rfl ?_
  refine WR.nil ?_
  refine WQ.then ?_
  refine WC.ret ?_
  (repeat (first | refine WQ.thenRet ?_ | refine WQ.inBlockRet ?_))
  refine WQ.ret1 rfl rfl H.ext ?_
  exact rfl

theorem l4_long (bv : Value) (l : List UInt8) (hs : l.length ≤ 24000) (ho : 12000 < (lenient l).length) : Ct Try.prog 6 [bv] (fun M => Bs M bv l) (fun r _ => r = .bool true) := by
  refine Ct.of Try.func6 (enters Try.func6 (by kernel_rfl) rfl) rfl rfl rfl ?_
  intro w0 M0 H hp
  refine WC.seq ?_
  refine WC.region ?_
  refine WR.step (Ex.assign rfl) (Wn.none rfl) rfl rfl ?_
  refine WR.nil ?_
  refine WQ.then ?_
  refine WC.seq ?_
  refine WC.seq ?_
  refine WC.region ?_
  refine WR.call H (example_spec) rfl (trivial) (Wn.none rfl) rfl ?_
  intro v5 M w H hle hr5
  replace hp := hp.mono hle
  obtain rfl := hr5
  refine WR.step (Ex.notT rfl) (Wn.none rfl) rfl rfl ?_
  refine WR.nil ?_
  refine WQ.then ?_
  refine WC.condF rfl ?_
  refine WC.skip ?_
  refine WQ.then ?_
  refine WC.seq ?_
  refine WC.seq ?_
  refine WC.region ?_
  refine WR.step (Ex.move rfl) (Wn.none rfl) rfl rfl ?_
  first | refine WR.step (Ex.lenSl Try.underlying22 (by assumption) rfl) (Wn.none rfl) rfl rfl ?_ | refine WR.step (Ex.lenRow Try.underlying22 H (by repeat (first | exact List.Mem.head _ | apply List.Mem.tail)) rfl) (Wn.none rfl) rfl rfl ?_ | refine WR.step (Ex.lenSlice Try.underlying22 rfl) (Wn.none rfl) rfl rfl ?_
  refine WR.stepF (Ex.gtr rfl rfl) (by omega) (Wn.none rfl) rfl rfl ?_
  refine WR.nil ?_
  refine WQ.then ?_
  refine WC.condF rfl ?_
  refine WC.skip ?_
  refine WQ.then ?_
  refine WC.seq ?_
  refine WC.region ?_
  refine WR.step (Ex.move rfl) (Wn.none rfl) rfl rfl ?_
  refine WR.call H (decode_long _ _ hs ho) rfl (by assumption) (Wn.none rfl) rfl ?_
  intro v12 M w H hle hr12
  replace hp := hp.mono hle
  obtain rfl := hr12
  refine WR.step (Ex.move rfl) (Wn.none rfl) rfl rfl ?_
  refine WR.step (Ex.extract rfl rfl) (Wn.none rfl) rfl rfl ?_
  refine WR.step (Ex.extract rfl rfl) (Wn.none rfl) rfl rfl ?_
  refine WR.alloc [_, _] H Try.zeroValue25 rfl (Wn.none rfl) rfl ?_
  intro b4 w H
  refine WR.step (Ex.assign rfl) (Wn.none rfl) rfl rfl ?_
  refine WR.store [_, _] H rfl rfl rfl (by repeat (first | exact Upd.head | apply Upd.tail)) Try.sizeOf25 rfl (by rfl) (by rfl) (Wn.none rfl) ?_
  intro w H
  refine WR.nil ?_
  refine WQ.then ?_
  refine WC.seq ?_
  refine WC.seq ?_
  refine WC.region ?_
  refine WR.step (Ex.fieldAddr Try.underlying25 rfl Try.sizeOf3 (by decide) rfl) (Wn.none rfl) rfl rfl ?_
  first | refine WR.step (Ex.loadM H rfl (by assumption) Try.isAgg3) (Wn.none rfl) rfl rfl ?_ | refine WR.step (Ex.load1 H rfl (by repeat (first | exact List.Mem.head _ | apply List.Mem.tail)) Try.isAgg3 (by rfl)) (Wn.none rfl) rfl rfl ?_
  refine WR.stepT (Ex.neq rfl rfl) (by decide) (Wn.none rfl) rfl rfl ?_
  refine WR.nil ?_
  refine WQ.then ?_
  refine WC.condT rfl ?_
  refine WC.seq ?_
  refine WC.draw (m := 9) rfl rfl H ?_
  intro w H
  refine WA.two (i := 0) (j := 1) (by kernel_rfl) rfl rfl ?_ ?_
  ·
    refine WR.step (Ex.loadAgg H rfl (by repeat (first | exact List.Mem.head _ | apply List.Mem.tail)) Try.isAgg25 Try.sizeOf25 (by rfl)) (Wn.none rfl) rfl rfl ?_
    refine WR.nil (WQ.any ?_)
    refine WA.one (i := 1) (by kernel_rfl) rfl ?_
    refine WR.call H (at_spec _ _) rfl (trivial) (Wn.none rfl) rfl ?_
    intro v19 M w H hle hr19
    replace hp := hp.mono hle
    obtain rfl := hr19
    refine WR.nil (WQ.any ?_)
    refine WA.one (i := 2) (by kernel_rfl) rfl ?_
    refine WR.stepT (Ex.eqlAgg rfl rfl (by kernel_rfl) (eq25 _ _ _ _)) ⟨rfl, rfl⟩ (Wn.none rfl) rfl rfl ?_
    refine WR.nil (WQ.any ?_)
    refine WA.one (i := 3) (by kernel_rfl) rfl ?_
    refine WR.step (Ex.move rfl) (Wn.none rfl) rfl rfl ?_
    refine WR.nil (WQ.any ?_)
    refine WA.one (i := 4) (by kernel_rfl) rfl ?_
    refine WR.step (Ex.move rfl) (Wn.some rfl rfl rfl) rfl rfl ?_
    refine WR.nil (WQ.any ?_)
    refine WA.one (i := 5) (by kernel_rfl) rfl ?_
    first | refine WR.step (Ex.lenSl Try.underlying22 (by assumption) rfl) (Wn.some rfl rfl rfl) rfl rfl ?_ | refine WR.step (Ex.lenRow Try.underlying22 H (by repeat (first | exact List.Mem.head _ | apply List.Mem.tail)) rfl) (Wn.some rfl rfl rfl) rfl rfl ?_ | refine WR.step (Ex.lenSlice Try.underlying22 rfl) (Wn.some rfl rfl rfl) rfl rfl ?_
    refine WR.nil (WQ.any ?_)
    refine WA.one (i := 6) (by kernel_rfl) rfl ?_
    refine WR.stepT (Ex.eql rfl rfl) rfl (Wn.some rfl rfl rfl) rfl rfl ?_
    refine WR.nil (WQ.any ?_)
    refine WA.one (i := 7) (by kernel_rfl) rfl ?_
    refine WR.step (Ex.pickT rfl rfl) (Wn.none rfl) rfl rfl ?_
    refine WR.nil (WQ.any ?_)
    refine WA.one (i := 8) (by kernel_rfl) rfl ?_
    refine WR.step (Ex.assign rfl) (Wn.none rfl) rfl rfl ?_
    refine WR.nil (WQ.any ?_)
    refine WA.done (by kernel_rfl) ?_
    refine WQ.then ?_
    refine WC.ret ?_
    (repeat (first | refine WQ.thenRet ?_ | refine WQ.inBlockRet ?_))
    refine WQ.ret1 rfl rfl H.ext ?_
    exact rfl
  ·
    refine WR.call H (at_spec _ _) rfl (trivial) (Wn.none rfl) rfl ?_
    intro v19 M w H hle hr19
    replace hp := hp.mono hle
    obtain rfl := hr19
    refine WR.nil (WQ.any ?_)
    refine WA.one (i := 0) (by kernel_rfl) rfl ?_
    refine WR.step (Ex.loadAgg H rfl (by repeat (first | exact List.Mem.head _ | apply List.Mem.tail)) Try.isAgg25 Try.sizeOf25 (by rfl)) (Wn.none rfl) rfl rfl ?_
    refine WR.nil (WQ.any ?_)
    refine WA.one (i := 2) (by kernel_rfl) rfl ?_
    refine WR.stepT (Ex.eqlAgg rfl rfl (by kernel_rfl) (eq25 _ _ _ _)) ⟨rfl, rfl⟩ (Wn.none rfl) rfl rfl ?_
    refine WR.nil (WQ.any ?_)
    refine WA.one (i := 3) (by kernel_rfl) rfl ?_
    refine WR.step (Ex.move rfl) (Wn.none rfl) rfl rfl ?_
    refine WR.nil (WQ.any ?_)
    refine WA.one (i := 4) (by kernel_rfl) rfl ?_
    refine WR.step (Ex.move rfl) (Wn.some rfl rfl rfl) rfl rfl ?_
    refine WR.nil (WQ.any ?_)
    refine WA.one (i := 5) (by kernel_rfl) rfl ?_
    first | refine WR.step (Ex.lenSl Try.underlying22 (by assumption) rfl) (Wn.some rfl rfl rfl) rfl rfl ?_ | refine WR.step (Ex.lenRow Try.underlying22 H (by repeat (first | exact List.Mem.head _ | apply List.Mem.tail)) rfl) (Wn.some rfl rfl rfl) rfl rfl ?_ | refine WR.step (Ex.lenSlice Try.underlying22 rfl) (Wn.some rfl rfl rfl) rfl rfl ?_
    refine WR.nil (WQ.any ?_)
    refine WA.one (i := 6) (by kernel_rfl) rfl ?_
    refine WR.stepT (Ex.eql rfl rfl) rfl (Wn.some rfl rfl rfl) rfl rfl ?_
    refine WR.nil (WQ.any ?_)
    refine WA.one (i := 7) (by kernel_rfl) rfl ?_
    refine WR.step (Ex.pickT rfl rfl) (Wn.none rfl) rfl rfl ?_
    refine WR.nil (WQ.any ?_)
    refine WA.one (i := 8) (by kernel_rfl) rfl ?_
    refine WR.step (Ex.assign rfl) (Wn.none rfl) rfl rfl ?_
    refine WR.nil (WQ.any ?_)
    refine WA.done (by kernel_rfl) ?_
    refine WQ.then ?_
    refine WC.ret ?_
    (repeat (first | refine WQ.thenRet ?_ | refine WQ.inBlockRet ?_))
    refine WQ.ret1 rfl rfl H.ext ?_
    exact rfl

theorem l4_diff (bv : Value) (l : List UInt8) (hs : l.length ≤ 24000) (ho : (lenient l).length ≤ 12000) (he : ¬ encode (lenient l) = l) : Ct Try.prog 6 [bv] (fun M => Bs M bv l) (fun r _ => r = .bool true) := by
  refine Ct.of Try.func6 (enters Try.func6 (by kernel_rfl) rfl) rfl rfl rfl ?_
  intro w0 M0 H hp
  refine WC.seq ?_
  refine WC.region ?_
  refine WR.step (Ex.assign rfl) (Wn.none rfl) rfl rfl ?_
  refine WR.nil ?_
  refine WQ.then ?_
  refine WC.seq ?_
  refine WC.seq ?_
  refine WC.region ?_
  refine WR.call H (example_spec) rfl (trivial) (Wn.none rfl) rfl ?_
  intro v5 M w H hle hr5
  replace hp := hp.mono hle
  obtain rfl := hr5
  refine WR.step (Ex.notT rfl) (Wn.none rfl) rfl rfl ?_
  refine WR.nil ?_
  refine WQ.then ?_
  refine WC.condF rfl ?_
  refine WC.skip ?_
  refine WQ.then ?_
  refine WC.seq ?_
  refine WC.seq ?_
  refine WC.region ?_
  refine WR.step (Ex.move rfl) (Wn.none rfl) rfl rfl ?_
  first | refine WR.step (Ex.lenSl Try.underlying22 (by assumption) rfl) (Wn.none rfl) rfl rfl ?_ | refine WR.step (Ex.lenRow Try.underlying22 H (by repeat (first | exact List.Mem.head _ | apply List.Mem.tail)) rfl) (Wn.none rfl) rfl rfl ?_ | refine WR.step (Ex.lenSlice Try.underlying22 rfl) (Wn.none rfl) rfl rfl ?_
  refine WR.stepF (Ex.gtr rfl rfl) (by omega) (Wn.none rfl) rfl rfl ?_
  refine WR.nil ?_
  refine WQ.then ?_
  refine WC.condF rfl ?_
  refine WC.skip ?_
  refine WQ.then ?_
  refine WC.seq ?_
  refine WC.region ?_
  refine WR.step (Ex.move rfl) (Wn.none rfl) rfl rfl ?_
  refine WR.call H (decode_diff _ _ hs ho he) rfl (by assumption) (Wn.none rfl) rfl ?_
  intro v12 M w H hle hr12
  replace hp := hp.mono hle
  obtain rfl := hr12
  refine WR.step (Ex.move rfl) (Wn.none rfl) rfl rfl ?_
  refine WR.step (Ex.extract rfl rfl) (Wn.none rfl) rfl rfl ?_
  refine WR.step (Ex.extract rfl rfl) (Wn.none rfl) rfl rfl ?_
  refine WR.alloc [_, _] H Try.zeroValue25 rfl (Wn.none rfl) rfl ?_
  intro b4 w H
  refine WR.step (Ex.assign rfl) (Wn.none rfl) rfl rfl ?_
  refine WR.store [_, _] H rfl rfl rfl (by repeat (first | exact Upd.head | apply Upd.tail)) Try.sizeOf25 rfl (by rfl) (by rfl) (Wn.none rfl) ?_
  intro w H
  refine WR.nil ?_
  refine WQ.then ?_
  refine WC.seq ?_
  refine WC.seq ?_
  refine WC.region ?_
  refine WR.step (Ex.fieldAddr Try.underlying25 rfl Try.sizeOf3 (by decide) rfl) (Wn.none rfl) rfl rfl ?_
  first | refine WR.step (Ex.loadM H rfl (by assumption) Try.isAgg3) (Wn.none rfl) rfl rfl ?_ | refine WR.step (Ex.load1 H rfl (by repeat (first | exact List.Mem.head _ | apply List.Mem.tail)) Try.isAgg3 (by rfl)) (Wn.none rfl) rfl rfl ?_
  refine WR.stepT (Ex.neq rfl rfl) (by decide) (Wn.none rfl) rfl rfl ?_
  refine WR.nil ?_
  refine WQ.then ?_
  refine WC.condT rfl ?_
  refine WC.seq ?_
  refine WC.draw (m := 9) rfl rfl H ?_
  intro w H
  refine WA.two (i := 0) (j := 1) (by kernel_rfl) rfl rfl ?_ ?_
  ·
    refine WR.step (Ex.loadAgg H rfl (by repeat (first | exact List.Mem.head _ | apply List.Mem.tail)) Try.isAgg25 Try.sizeOf25 (by rfl)) (Wn.none rfl) rfl rfl ?_
    refine WR.nil (WQ.any ?_)
    refine WA.one (i := 1) (by kernel_rfl) rfl ?_
    refine WR.call H (at_spec _ _) rfl (trivial) (Wn.none rfl) rfl ?_
    intro v19 M w H hle hr19
    replace hp := hp.mono hle
    obtain rfl := hr19
    refine WR.nil (WQ.any ?_)
    refine WA.one (i := 2) (by kernel_rfl) rfl ?_
    refine WR.stepT (Ex.eqlAgg rfl rfl (by kernel_rfl) (eq25 _ _ _ _)) ⟨rfl, rfl⟩ (Wn.none rfl) rfl rfl ?_
    refine WR.nil (WQ.any ?_)
    refine WA.one (i := 3) (by kernel_rfl) rfl ?_
    refine WR.step (Ex.move rfl) (Wn.none rfl) rfl rfl ?_
    refine WR.nil (WQ.any ?_)
    refine WA.one (i := 4) (by kernel_rfl) rfl ?_
    refine WR.step (Ex.move rfl) (Wn.some rfl rfl rfl) rfl rfl ?_
    refine WR.nil (WQ.any ?_)
    refine WA.one (i := 5) (by kernel_rfl) rfl ?_
    first | refine WR.step (Ex.lenSl Try.underlying22 (by assumption) rfl) (Wn.some rfl rfl rfl) rfl rfl ?_ | refine WR.step (Ex.lenRow Try.underlying22 H (by repeat (first | exact List.Mem.head _ | apply List.Mem.tail)) rfl) (Wn.some rfl rfl rfl) rfl rfl ?_ | refine WR.step (Ex.lenSlice Try.underlying22 rfl) (Wn.some rfl rfl rfl) rfl rfl ?_
    refine WR.nil (WQ.any ?_)
    refine WA.one (i := 6) (by kernel_rfl) rfl ?_
    refine WR.stepT (Ex.eql rfl rfl) rfl (Wn.some rfl rfl rfl) rfl rfl ?_
    refine WR.nil (WQ.any ?_)
    refine WA.one (i := 7) (by kernel_rfl) rfl ?_
    refine WR.step (Ex.pickT rfl rfl) (Wn.none rfl) rfl rfl ?_
    refine WR.nil (WQ.any ?_)
    refine WA.one (i := 8) (by kernel_rfl) rfl ?_
    refine WR.step (Ex.assign rfl) (Wn.none rfl) rfl rfl ?_
    refine WR.nil (WQ.any ?_)
    refine WA.done (by kernel_rfl) ?_
    refine WQ.then ?_
    refine WC.ret ?_
    (repeat (first | refine WQ.thenRet ?_ | refine WQ.inBlockRet ?_))
    refine WQ.ret1 rfl rfl H.ext ?_
    exact rfl
  ·
    refine WR.call H (at_spec _ _) rfl (trivial) (Wn.none rfl) rfl ?_
    intro v19 M w H hle hr19
    replace hp := hp.mono hle
    obtain rfl := hr19
    refine WR.nil (WQ.any ?_)
    refine WA.one (i := 0) (by kernel_rfl) rfl ?_
    refine WR.step (Ex.loadAgg H rfl (by repeat (first | exact List.Mem.head _ | apply List.Mem.tail)) Try.isAgg25 Try.sizeOf25 (by rfl)) (Wn.none rfl) rfl rfl ?_
    refine WR.nil (WQ.any ?_)
    refine WA.one (i := 2) (by kernel_rfl) rfl ?_
    refine WR.stepT (Ex.eqlAgg rfl rfl (by kernel_rfl) (eq25 _ _ _ _)) ⟨rfl, rfl⟩ (Wn.none rfl) rfl rfl ?_
    refine WR.nil (WQ.any ?_)
    refine WA.one (i := 3) (by kernel_rfl) rfl ?_
    refine WR.step (Ex.move rfl) (Wn.none rfl) rfl rfl ?_
    refine WR.nil (WQ.any ?_)
    refine WA.one (i := 4) (by kernel_rfl) rfl ?_
    refine WR.step (Ex.move rfl) (Wn.some rfl rfl rfl) rfl rfl ?_
    refine WR.nil (WQ.any ?_)
    refine WA.one (i := 5) (by kernel_rfl) rfl ?_
    first | refine WR.step (Ex.lenSl Try.underlying22 (by assumption) rfl) (Wn.some rfl rfl rfl) rfl rfl ?_ | refine WR.step (Ex.lenRow Try.underlying22 H (by repeat (first | exact List.Mem.head _ | apply List.Mem.tail)) rfl) (Wn.some rfl rfl rfl) rfl rfl ?_ | refine WR.step (Ex.lenSlice Try.underlying22 rfl) (Wn.some rfl rfl rfl) rfl rfl ?_
    refine WR.nil (WQ.any ?_)
    refine WA.one (i := 6) (by kernel_rfl) rfl ?_
    refine WR.stepT (Ex.eql rfl rfl) rfl (Wn.some rfl rfl rfl) rfl rfl ?_
    refine WR.nil (WQ.any ?_)
    refine WA.one (i := 7) (by kernel_rfl) rfl ?_
    refine WR.step (Ex.pickT rfl rfl) (Wn.none rfl) rfl rfl ?_
    refine WR.nil (WQ.any ?_)
    refine WA.one (i := 8) (by kernel_rfl) rfl ?_
    refine WR.step (Ex.assign rfl) (Wn.none rfl) rfl rfl ?_
    refine WR.nil (WQ.any ?_)
    refine WA.done (by kernel_rfl) ?_
    refine WQ.then ?_
    refine WC.ret ?_
    (repeat (first | refine WQ.thenRet ?_ | refine WQ.inBlockRet ?_))
    refine WQ.ret1 rfl rfl H.ext ?_
    exact rfl

theorem l4_ok (bv : Value) (l : List UInt8) (hs : l.length ≤ 24000) (ho : (lenient l).length ≤ 12000) (he : encode (lenient l) = l) : Ct Try.prog 6 [bv] (fun M => Bs M bv l) (fun r _ => r = .bool true) := by
  refine Ct.of Try.func6 (enters Try.func6 (by kernel_rfl) rfl) rfl rfl rfl ?_
  intro w0 M0 H hp
  refine WC.seq ?_
  refine WC.region ?_
  refine WR.step (Ex.assign rfl) (Wn.none rfl) rfl rfl ?_
  refine WR.nil ?_
  refine WQ.then ?_
  refine WC.seq ?_
  refine WC.seq ?_
  refine WC.region ?_
  refine WR.call H (example_spec) rfl (trivial) (Wn.none rfl) rfl ?_
  intro v5 M w H hle hr5
  replace hp := hp.mono hle
  obtain rfl := hr5
  refine WR.step (Ex.notT rfl) (Wn.none rfl) rfl rfl ?_
  refine WR.nil ?_
  refine WQ.then ?_
  refine WC.condF rfl ?_
  refine WC.skip ?_
  refine WQ.then ?_
  refine WC.seq ?_
  refine WC.seq ?_
  refine WC.region ?_
  refine WR.step (Ex.move rfl) (Wn.none rfl) rfl rfl ?_
  first | refine WR.step (Ex.lenSl Try.underlying22 (by assumption) rfl) (Wn.none rfl) rfl rfl ?_ | refine WR.step (Ex.lenRow Try.underlying22 H (by repeat (first | exact List.Mem.head _ | apply List.Mem.tail)) rfl) (Wn.none rfl) rfl rfl ?_ | refine WR.step (Ex.lenSlice Try.underlying22 rfl) (Wn.none rfl) rfl rfl ?_
  refine WR.stepF (Ex.gtr rfl rfl) (by omega) (Wn.none rfl) rfl rfl ?_
  refine WR.nil ?_
  refine WQ.then ?_
  refine WC.condF rfl ?_
  refine WC.skip ?_
  refine WQ.then ?_
  refine WC.seq ?_
  refine WC.region ?_
  refine WR.step (Ex.move rfl) (Wn.none rfl) rfl rfl ?_
  refine WR.call H (decode_ok _ _ hs ho he) rfl (by assumption) (Wn.none rfl) rfl ?_
  intro v12 M w H hle hr12
  replace hp := hp.mono hle
  obtain ⟨w12, rfl, hf12⟩ := hr12
  refine WR.step (Ex.move rfl) (Wn.none rfl) rfl rfl ?_
  refine WR.step (Ex.extract rfl rfl) (Wn.none rfl) rfl rfl ?_
  refine WR.step (Ex.extract rfl rfl) (Wn.none rfl) rfl rfl ?_
  refine WR.alloc [_, _] H Try.zeroValue25 rfl (Wn.none rfl) rfl ?_
  intro b4 w H
  refine WR.step (Ex.assign rfl) (Wn.none rfl) rfl rfl ?_
  refine WR.store [_, _] H rfl rfl rfl (by repeat (first | exact Upd.head | apply Upd.tail)) Try.sizeOf25 rfl (by rfl) (by rfl) (Wn.none rfl) ?_
  intro w H
  refine WR.nil ?_
  refine WQ.then ?_
  refine WC.seq ?_
  refine WC.seq ?_
  refine WC.region ?_
  refine WR.step (Ex.fieldAddr Try.underlying25 rfl Try.sizeOf3 (by decide) rfl) (Wn.none rfl) rfl rfl ?_
  first | refine WR.step (Ex.loadM H rfl (by assumption) Try.isAgg3) (Wn.none rfl) rfl rfl ?_ | refine WR.step (Ex.load1 H rfl (by repeat (first | exact List.Mem.head _ | apply List.Mem.tail)) Try.isAgg3 (by rfl)) (Wn.none rfl) rfl rfl ?_
  refine WR.stepF (Ex.neq rfl rfl) (by decide) (Wn.none rfl) rfl rfl ?_
  refine WR.nil ?_
  refine WQ.then ?_
  refine WC.condF rfl ?_
  refine WC.skip ?_
  refine WQ.then ?_
  refine WC.seq ?_
  refine WC.region ?_
  refine WR.step (Ex.move rfl) (Wn.none rfl) rfl rfl ?_
  refine WR.call H (lines64_spec _ (lenient l) (by omega) (by rw [chars_len]; omega)) rfl (by assumption) (Wn.none rfl) rfl ?_
  intro v27 M w H hle hr27
  replace hp := hp.mono hle
  replace hf12 := hf12.mono hle
  have hf27 := hr27
  refine WR.step (Ex.move rfl) (Wn.none rfl) rfl rfl ?_
  refine WR.call H (Ct.mono (bytes_spec _ _ _ _) (R' := fun r _ => r = .bool true) (fun _ _ h => h.trans (congrArg Value.bool (decide_eq_true ((encode_lines (lenient l)).symm.trans he))))) rfl (⟨by assumption, by assumption⟩) (Wn.none rfl) rfl ?_
  intro v29 M w H hle hr29
  replace hp := hp.mono hle
  replace hf12 := hf12.mono hle
  replace hf27 := hf27.mono hle
  obtain rfl := hr29
  refine WR.step (Ex.assign rfl) (Wn.none rfl) rfl rfl ?_
  refine WR.nil ?_
  refine WQ.then ?_
  refine WC.ret ?_
  (repeat (first | refine WQ.thenRet ?_ | refine WQ.inBlockRet ?_))
  refine WQ.ret1 rfl rfl H.ext ?_
  exact rfl

theorem l5_big (bv : Value) (l : List UInt8) (p : Int) (hs : 12000 < l.length) : Ct Try.prog 7 [bv, I p] (fun M => Bs M bv l) (fun r _ => r = .bool true) := by
  refine Ct.of Try.func7 (enters Try.func7 (by kernel_rfl) rfl) rfl rfl rfl ?_
  intro w0 M0 H hp
  refine WC.seq ?_
  refine WC.region ?_
  refine WR.step (Ex.assign rfl) (Wn.none rfl) rfl rfl ?_
  refine WR.nil ?_
  refine WQ.then ?_
  refine WC.seq ?_
  refine WC.seq ?_
  refine WC.region ?_
  refine WR.call H (example_spec) rfl (trivial) (Wn.none rfl) rfl ?_
  intro v10 M w H hle hr10
  replace hp := hp.mono hle
  obtain rfl := hr10
  refine WR.step (Ex.notT rfl) (Wn.none rfl) rfl rfl ?_
  refine WR.nil ?_
  refine WQ.then ?_
  refine WC.condF rfl ?_
  refine WC.skip ?_
  refine WQ.then ?_
  refine WC.seq ?_
  refine WC.region ?_
  refine WR.step (Ex.move rfl) (Wn.none rfl) rfl rfl ?_
  refine WR.call H (encode_big _ _ hs) rfl (by assumption) (Wn.none rfl) rfl ?_
  intro v14 M w H hle hr14
  replace hp := hp.mono hle
  obtain rfl := hr14
  refine WR.step (Ex.move rfl) (Wn.none rfl) rfl rfl ?_
  refine WR.step (Ex.extract rfl rfl) (Wn.none rfl) rfl rfl ?_
  refine WR.step (Ex.extract rfl rfl) (Wn.none rfl) rfl rfl ?_
  refine WR.alloc [_, _] H Try.zeroValue25 rfl (Wn.none rfl) rfl ?_
  intro b6 w H
  refine WR.step (Ex.assign rfl) (Wn.none rfl) rfl rfl ?_
  refine WR.store [_, _] H rfl rfl rfl (by repeat (first | exact Upd.head | apply Upd.tail)) Try.sizeOf25 rfl (by rfl) (by rfl) (Wn.none rfl) ?_
  intro w H
  refine WR.nil ?_
  refine WQ.then ?_
  refine WC.seq ?_
  refine WC.seq ?_
  refine WC.region ?_
  refine WR.step (Ex.fieldAddr Try.underlying25 rfl Try.sizeOf3 (by decide) rfl) (Wn.none rfl) rfl rfl ?_
  first | refine WR.step (Ex.loadM H rfl (by assumption) Try.isAgg3) (Wn.none rfl) rfl rfl ?_ | refine WR.step (Ex.load1 H rfl (by repeat (first | exact List.Mem.head _ | apply List.Mem.tail)) Try.isAgg3 (by rfl)) (Wn.none rfl) rfl rfl ?_
  refine WR.stepT (Ex.neq rfl rfl) (by decide) (Wn.none rfl) rfl rfl ?_
  refine WR.step (Ex.move rfl) (Wn.none rfl) rfl rfl ?_
  refine WR.skipG (b := true) rfl rfl rfl rfl rfl ?_
  refine WR.skipG (b := true) rfl rfl rfl rfl rfl ?_
  refine WR.skipG (b := true) rfl rfl rfl rfl rfl ?_
  refine WR.skipG (b := true) rfl rfl rfl rfl rfl ?_
  refine WR.skipG (b := true) rfl rfl rfl rfl rfl ?_
  refine WR.step (Ex.pickT rfl rfl) (Wn.none rfl) rfl rfl ?_
  refine WR.nil ?_
  refine WQ.then ?_
  refine WC.condT rfl ?_
  refine WC.seq ?_
  refine WC.region ?_
  refine WR.step (Ex.fieldAddr Try.underlying25 rfl Try.sizeOf3 (by decide) rfl) (Wn.none rfl) rfl rfl ?_
  first | refine WR.step (Ex.loadM H rfl (by assumption) Try.isAgg3) (Wn.none rfl) rfl rfl ?_ | refine WR.step (Ex.load1 H rfl (by repeat (first | exact List.Mem.head _ | apply List.Mem.tail)) Try.isAgg3 (by rfl)) (Wn.none rfl) rfl rfl ?_
  refine WR.stepF (Ex.eql rfl rfl) (by decide) (Wn.none rfl) rfl rfl ?_
  refine WR.step (Ex.move rfl) (Wn.none rfl) rfl rfl ?_
  refine WR.step (Ex.move rfl) (Wn.some rfl rfl rfl) rfl rfl ?_
  first | refine WR.step (Ex.lenSl Try.underlying22 (by assumption) rfl) (Wn.some rfl rfl rfl) rfl rfl ?_ | refine WR.step (Ex.lenRow Try.underlying22 H (by repeat (first | exact List.Mem.head _ | apply List.Mem.tail)) rfl) (Wn.some rfl rfl rfl) rfl rfl ?_ | refine WR.step (Ex.lenSlice Try.underlying22 rfl) (Wn.some rfl rfl rfl) rfl rfl ?_
  refine WR.stepT (Ex.eql rfl rfl) rfl (Wn.some rfl rfl rfl) rfl rfl ?_
  refine WR.step (Ex.pickF rfl rfl) (Wn.none rfl) rfl rfl ?_
  refine WR.step (Ex.assign rfl) (Wn.none rfl) rfl rfl ?_
  refine WR.nil ?_
  refine WQ.then ?_
  refine WC.ret ?_
  (repeat (first | refine WQ.thenRet ?_ | refine WQ.inBlockRet ?_))
  refine WQ.ret1 rfl rfl H.ext ?_
  exact rfl

theorem l5_out (bv : Value) (l : List UInt8) (p : Int) (hs : l.length ≤ 12000) (ho : ¬ (0 ≤ p ∧ p ≤ ((encode l).length : Int))) : Ct Try.prog 7 [bv, I p] (fun M => Bs M bv l) (fun r _ => r = .bool true) := by
  refine Ct.of Try.func7 (enters Try.func7 (by kernel_rfl) rfl) rfl rfl rfl ?_
  intro w0 M0 H hp
  refine WC.seq ?_
  refine WC.region ?_
  refine WR.step (Ex.assign rfl) (Wn.none rfl) rfl rfl ?_
  refine WR.nil ?_
  refine WQ.then ?_
  refine WC.seq ?_
  refine WC.seq ?_
  refine WC.region ?_
  refine WR.call H (example_spec) rfl (trivial) (Wn.none rfl) rfl ?_
  intro v10 M w H hle hr10
  replace hp := hp.mono hle
  obtain rfl := hr10
  refine WR.step (Ex.notT rfl) (Wn.none rfl) rfl rfl ?_
  refine WR.nil ?_
  refine WQ.then ?_
  refine WC.condF rfl ?_
  refine WC.skip ?_
  refine WQ.then ?_
  refine WC.seq ?_
  refine WC.region ?_
  refine WR.step (Ex.move rfl) (Wn.none rfl) rfl rfl ?_
  refine WR.call H (encode_spec _ _ (by omega)) rfl (by assumption) (Wn.none rfl) rfl ?_
  intro v14 M w H hle hr14
  replace hp := hp.mono hle
  obtain ⟨w14, rfl, hf14⟩ := hr14
  refine WR.step (Ex.move rfl) (Wn.none rfl) rfl rfl ?_
  refine WR.step (Ex.extract rfl rfl) (Wn.none rfl) rfl rfl ?_
  refine WR.step (Ex.extract rfl rfl) (Wn.none rfl) rfl rfl ?_
  refine WR.alloc [_, _] H Try.zeroValue25 rfl (Wn.none rfl) rfl ?_
  intro b6 w H
  refine WR.step (Ex.assign rfl) (Wn.none rfl) rfl rfl ?_
  refine WR.store [_, _] H rfl rfl rfl (by repeat (first | exact Upd.head | apply Upd.tail)) Try.sizeOf25 rfl (by rfl) (by rfl) (Wn.none rfl) ?_
  intro w H
  refine WR.nil ?_
  refine WQ.then ?_
  refine WC.seq ?_
  refine WC.seq ?_
  refine WC.region ?_
  refine WR.step (Ex.fieldAddr Try.underlying25 rfl Try.sizeOf3 (by decide) rfl) (Wn.none rfl) rfl rfl ?_
  first | refine WR.step (Ex.loadM H rfl (by assumption) Try.isAgg3) (Wn.none rfl) rfl rfl ?_ | refine WR.step (Ex.load1 H rfl (by repeat (first | exact List.Mem.head _ | apply List.Mem.tail)) Try.isAgg3 (by rfl)) (Wn.none rfl) rfl rfl ?_
  refine WR.stepF (Ex.neq rfl rfl) (by decide) (Wn.none rfl) rfl rfl ?_
  refine WR.step (Ex.move rfl) (Wn.none rfl) rfl rfl ?_
  refine WR.step (Ex.move rfl) (Wn.some rfl rfl rfl) rfl rfl ?_
  refine WR.step (Ex.move rfl) (Wn.some rfl rfl rfl) rfl rfl ?_
  first | refine WR.step (Ex.lenSl Try.underlying22 (by assumption) rfl) (Wn.some rfl rfl rfl) rfl rfl ?_ | refine WR.step (Ex.lenRow Try.underlying22 H (by repeat (first | exact List.Mem.head _ | apply List.Mem.tail)) rfl) (Wn.some rfl rfl rfl) rfl rfl ?_ | refine WR.step (Ex.lenSlice Try.underlying22 rfl) (Wn.some rfl rfl rfl) rfl rfl ?_
  refine WR.call H (Ct.mono (in_spec _ _ _) (R' := fun r _ => r = .bool false) (fun _ _ h => h.trans (congrArg Value.bool (decide_eq_false ho)))) rfl (trivial) (Wn.some rfl rfl rfl) rfl ?_
  intro v24 M w H hle hr24
  replace hp := hp.mono hle
  replace hf14 := hf14.mono hle
  obtain rfl := hr24
  refine WR.step (Ex.notF rfl) (Wn.some rfl rfl rfl) rfl rfl ?_
  refine WR.step (Ex.pickF rfl rfl) (Wn.none rfl) rfl rfl ?_
  refine WR.nil ?_
  refine WQ.then ?_
  refine WC.condT rfl ?_
  refine WC.seq ?_
  refine WC.region ?_
  refine WR.step (Ex.fieldAddr Try.underlying25 rfl Try.sizeOf3 (by decide) rfl) (Wn.none rfl) rfl rfl ?_
  first | refine WR.step (Ex.loadM H rfl (by assumption) Try.isAgg3) (Wn.none rfl) rfl rfl ?_ | refine WR.step (Ex.load1 H rfl (by repeat (first | exact List.Mem.head _ | apply List.Mem.tail)) Try.isAgg3 (by rfl)) (Wn.none rfl) rfl rfl ?_
  refine WR.stepT (Ex.eql rfl rfl) rfl (Wn.none rfl) rfl rfl ?_
  refine WR.step (Ex.move rfl) (Wn.none rfl) rfl rfl ?_
  refine WR.skipG (b := true) rfl rfl rfl rfl rfl ?_
  refine WR.skipG (b := true) rfl rfl rfl rfl rfl ?_
  refine WR.skipG (b := true) rfl rfl rfl rfl rfl ?_
  refine WR.step (Ex.pickT rfl rfl) (Wn.none rfl) rfl rfl ?_
  refine WR.step (Ex.assign rfl) (Wn.none rfl) rfl rfl ?_
  refine WR.nil ?_
  refine WQ.then ?_
  refine WC.ret ?_
  (repeat (first | refine WQ.thenRet ?_ | refine WQ.inBlockRet ?_))
  refine WQ.ret1 rfl rfl H.ext ?_
  exact rfl

theorem l5_in (bv : Value) (l : List UInt8) (k : Nat) (hs : l.length ≤ 12000) (ho : k ≤ (encode l).length) : Ct Try.prog 7 [bv, I (k : Int)] (fun M => Bs M bv l) (fun r _ => r = .bool true) := by
  refine Ct.of Try.func7 (enters Try.func7 (by kernel_rfl) rfl) rfl rfl rfl ?_
  intro w0 M0 H hp
  refine WC.seq ?_
  refine WC.region ?_
  refine WR.step (Ex.assign rfl) (Wn.none rfl) rfl rfl ?_
  refine WR.nil ?_
  refine WQ.then ?_
  refine WC.seq ?_
  refine WC.seq ?_
  refine WC.region ?_
  refine WR.call H (example_spec) rfl (trivial) (Wn.none rfl) rfl ?_
  intro v10 M w H hle hr10
  replace hp := hp.mono hle
  obtain rfl := hr10
  refine WR.step (Ex.notT rfl) (Wn.none rfl) rfl rfl ?_
  refine WR.nil ?_
  refine WQ.then ?_
  refine WC.condF rfl ?_
  refine WC.skip ?_
  refine WQ.then ?_
  refine WC.seq ?_
  refine WC.region ?_
  refine WR.step (Ex.move rfl) (Wn.none rfl) rfl rfl ?_
  refine WR.call H (encode_spec _ _ (by omega)) rfl (by assumption) (Wn.none rfl) rfl ?_
  intro v14 M w H hle hr14
  replace hp := hp.mono hle
  obtain ⟨w14, rfl, hf14⟩ := hr14
  refine WR.step (Ex.move rfl) (Wn.none rfl) rfl rfl ?_
  refine WR.step (Ex.extract rfl rfl) (Wn.none rfl) rfl rfl ?_
  refine WR.step (Ex.extract rfl rfl) (Wn.none rfl) rfl rfl ?_
  refine WR.alloc [_, _] H Try.zeroValue25 rfl (Wn.none rfl) rfl ?_
  intro b6 w H
  refine WR.step (Ex.assign rfl) (Wn.none rfl) rfl rfl ?_
  refine WR.store [_, _] H rfl rfl rfl (by repeat (first | exact Upd.head | apply Upd.tail)) Try.sizeOf25 rfl (by rfl) (by rfl) (Wn.none rfl) ?_
  intro w H
  refine WR.nil ?_
  refine WQ.then ?_
  refine WC.seq ?_
  refine WC.seq ?_
  refine WC.region ?_
  refine WR.step (Ex.fieldAddr Try.underlying25 rfl Try.sizeOf3 (by decide) rfl) (Wn.none rfl) rfl rfl ?_
  first | refine WR.step (Ex.loadM H rfl (by assumption) Try.isAgg3) (Wn.none rfl) rfl rfl ?_ | refine WR.step (Ex.load1 H rfl (by repeat (first | exact List.Mem.head _ | apply List.Mem.tail)) Try.isAgg3 (by rfl)) (Wn.none rfl) rfl rfl ?_
  refine WR.stepF (Ex.neq rfl rfl) (by decide) (Wn.none rfl) rfl rfl ?_
  refine WR.step (Ex.move rfl) (Wn.none rfl) rfl rfl ?_
  refine WR.step (Ex.move rfl) (Wn.some rfl rfl rfl) rfl rfl ?_
  refine WR.step (Ex.move rfl) (Wn.some rfl rfl rfl) rfl rfl ?_
  first | refine WR.step (Ex.lenSl Try.underlying22 (by assumption) rfl) (Wn.some rfl rfl rfl) rfl rfl ?_ | refine WR.step (Ex.lenRow Try.underlying22 H (by repeat (first | exact List.Mem.head _ | apply List.Mem.tail)) rfl) (Wn.some rfl rfl rfl) rfl rfl ?_ | refine WR.step (Ex.lenSlice Try.underlying22 rfl) (Wn.some rfl rfl rfl) rfl rfl ?_
  refine WR.call H (Ct.mono (in_spec _ _ _) (R' := fun r _ => r = .bool true) (fun _ _ h => h.trans (congrArg Value.bool (decide_eq_true (⟨Int.natCast_nonneg k, Int.ofNat_le.2 ho⟩ : (0 : Int) ≤ (k : Int) ∧ (k : Int) ≤ ((encode l).length : Int)))))) rfl (trivial) (Wn.some rfl rfl rfl) rfl ?_
  intro v24 M w H hle hr24
  replace hp := hp.mono hle
  replace hf14 := hf14.mono hle
  obtain rfl := hr24
  refine WR.step (Ex.notT rfl) (Wn.some rfl rfl rfl) rfl rfl ?_
  refine WR.step (Ex.pickF rfl rfl) (Wn.none rfl) rfl rfl ?_
  refine WR.nil ?_
  refine WQ.then ?_
  refine WC.condF rfl ?_
  refine WC.skip ?_
  refine WQ.then ?_
  refine WC.cut1 (fun (v : Value) => [(0, bv), (7, v)]) (fun (v : Value) w => ∃ M, St w0 M0 M [] w ∧ Bs M v ((encode l).take k ++ [32, 13, 10] ++ (encode l).drop k) ∧ Bs M bv l) ?_ ?_
  ·
    refine WC.draw (m := 11) rfl rfl H ?_
    intro w H
    refine WA.take (i := 0) rfl (by kernel_rfl) (by kernel_rfl) (by kernel_rfl) (fun _ => Ex.move rfl) (Wn.none rfl) rfl rfl (fun _ _ => rfl) ?_
    refine WA.take (i := 1) rfl (by kernel_rfl) (by kernel_rfl) (by kernel_rfl) (fun _ => Ex.move rfl) (Wn.none rfl) rfl rfl (fun _ _ => rfl) ?_
    refine WA.take (i := 6) rfl (by kernel_rfl) (by kernel_rfl) (by kernel_rfl) (fun _ => Ex.move rfl) (Wn.none rfl) rfl rfl (fun _ _ => rfl) ?_
    refine WA.take (i := 7) rfl (by kernel_rfl) (by kernel_rfl) (by kernel_rfl) (fun _ => Ex.move rfl) (Wn.none rfl) rfl rfl (fun _ _ => rfl) ?_
    refine WA.three (i := 2) (j := 4) (k := 8) (by kernel_rfl) rfl rfl rfl ?_ ?_ ?_
    ·
      refine WR.sliceSl (i := 0) (j := k) Try.underlying22 Try.sizeOf5 (by assumption) rfl (.inr ⟨rfl, rfl⟩) (.inl ⟨_, rfl, rfl⟩) (by omega) (by omega) (Wn.none rfl) rfl ?_
      intro v37 hs37
      refine WR.nil (WQ.any ?_)
      refine WA.three (i := 3) (j := 4) (k := 8) (by kernel_rfl) rfl rfl rfl ?_ ?_ ?_
      ·
        replace H := H.newRow 5 encB
        have hel := encode_len l
        refine WR.appendSl ty22 (fun _ => rfl) H rfl (fun _ => by repeat (first | exact Upd.head | apply Upd.tail)) rfl (by assumption) (by first | omega | (simp only [List.length_append, List.length_cons, List.length_nil, List.length_take, List.length_drop]; omega)) (by first | (simp only [maxLen]; omega) | (simp only [maxLen, List.length_append, List.length_cons, List.length_nil, List.length_take, List.length_drop]; omega)) (Wn.none rfl) rfl ?_
        intro v38 w H
        refine WR.nil (WQ.any ?_)
        refine WA.two (i := 4) (j := 8) (by kernel_rfl) rfl rfl ?_ ?_
        ·
          refine WR.lit (enc := encB) ty22 [32, 13, 10] H rfl (by rfl) (fun _ => rfl) rfl rfl (Wn.none rfl) rfl ?_
          intro v39 M w H hle hl39
          replace hp := hp.mono hle
          replace hf14 := hf14.mono hle
          replace hs37 := hs37.mono hle
          refine WR.nil (WQ.any ?_)
          refine WA.two (i := 5) (j := 8) (by kernel_rfl) rfl rfl ?_ ?_
          ·
            refine WR.appendSl ty22 (fun _ => rfl) H rfl (fun _ => by repeat (first | exact Upd.head | apply Upd.tail)) rfl (by assumption) (by first | omega | (simp only [List.length_append, List.length_cons, List.length_nil, List.length_take, List.length_drop]; omega)) (by first | (simp only [maxLen]; omega) | (simp only [maxLen, List.length_append, List.length_cons, List.length_nil, List.length_take, List.length_drop]; omega)) (Wn.none rfl) rfl ?_
            intro v40 w H
            refine WR.nil (WQ.any ?_)
            refine WA.one (i := 8) (by kernel_rfl) rfl ?_
            refine WR.sliceSl (i := k) (j := (encode l).length) Try.underlying22 Try.sizeOf5 (by assumption) rfl (.inl ⟨_, rfl, rfl⟩) (.inr ⟨rfl, rfl⟩) (by omega) (by omega) (Wn.none rfl) rfl ?_
            intro v43 hs43
            refine WR.nil (WQ.any ?_)
            refine WA.one (i := 9) (by kernel_rfl) rfl ?_
            refine WR.appendSl ty22 (fun _ => rfl) H rfl (fun _ => by repeat (first | exact Upd.head | apply Upd.tail)) rfl (by assumption) (by first | omega | (simp only [List.length_append, List.length_cons, List.length_nil, List.length_take, List.length_drop]; omega)) (by first | (simp only [maxLen]; omega) | (simp only [maxLen, List.length_append, List.length_cons, List.length_nil, List.length_take, List.length_drop]; omega)) (Wn.none rfl) rfl ?_
            intro v44 w H
            refine WR.nil (WQ.any ?_)
            refine WA.one (i := 10) (by kernel_rfl) rfl ?_
            refine WR.step (Ex.assign rfl) (Wn.none rfl) rfl rfl ?_
            refine WR.nil (WQ.any ?_)
            refine WA.done (by kernel_rfl) ?_
            refine WQ.meet1 (v44) ⟨rfl, rfl, trivial⟩ ?_
            obtain ⟨M, hle, hf, H⟩ := H.freezeRow (v := v44) (enc := encB) (t := 5) (by repeat (first | exact Rem.head | apply Rem.tail))
            replace hp := hp.mono hle
            refine ⟨M, H.drop (List.nil_sublist _), ?_, hp⟩
            simpa using hf
          ·
            refine WR.sliceSl (i := k) (j := (encode l).length) Try.underlying22 Try.sizeOf5 (by assumption) rfl (.inl ⟨_, rfl, rfl⟩) (.inr ⟨rfl, rfl⟩) (by omega) (by omega) (Wn.none rfl) rfl ?_
            intro v43 hs43
            refine WR.nil (WQ.any ?_)
            refine WA.one (i := 5) (by kernel_rfl) rfl ?_
            refine WR.appendSl ty22 (fun _ => rfl) H rfl (fun _ => by repeat (first | exact Upd.head | apply Upd.tail)) rfl (by assumption) (by first | omega | (simp only [List.length_append, List.length_cons, List.length_nil, List.length_take, List.length_drop]; omega)) (by first | (simp only [maxLen]; omega) | (simp only [maxLen, List.length_append, List.length_cons, List.length_nil, List.length_take, List.length_drop]; omega)) (Wn.none rfl) rfl ?_
            intro v40 w H
            refine WR.nil (WQ.any ?_)
            refine WA.one (i := 9) (by kernel_rfl) rfl ?_
            refine WR.appendSl ty22 (fun _ => rfl) H rfl (fun _ => by repeat (first | exact Upd.head | apply Upd.tail)) rfl (by assumption) (by first | omega | (simp only [List.length_append, List.length_cons, List.length_nil, List.length_take, List.length_drop]; omega)) (by first | (simp only [maxLen]; omega) | (simp only [maxLen, List.length_append, List.length_cons, List.length_nil, List.length_take, List.length_drop]; omega)) (Wn.none rfl) rfl ?_
            intro v44 w H
            refine WR.nil (WQ.any ?_)
            refine WA.one (i := 10) (by kernel_rfl) rfl ?_
            refine WR.step (Ex.assign rfl) (Wn.none rfl) rfl rfl ?_
            refine WR.nil (WQ.any ?_)
            refine WA.done (by kernel_rfl) ?_
            refine WQ.meet1 (v44) ⟨rfl, rfl, trivial⟩ ?_
            obtain ⟨M, hle, hf, H⟩ := H.freezeRow (v := v44) (enc := encB) (t := 5) (by repeat (first | exact Rem.head | apply Rem.tail))
            replace hp := hp.mono hle
            refine ⟨M, H.drop (List.nil_sublist _), ?_, hp⟩
            simpa using hf
        ·
          refine WR.sliceSl (i := k) (j := (encode l).length) Try.underlying22 Try.sizeOf5 (by assumption) rfl (.inl ⟨_, rfl, rfl⟩) (.inr ⟨rfl, rfl⟩) (by omega) (by omega) (Wn.none rfl) rfl ?_
          intro v43 hs43
          refine WR.nil (WQ.any ?_)
          refine WA.one (i := 4) (by kernel_rfl) rfl ?_
          refine WR.lit (enc := encB) ty22 [32, 13, 10] H rfl (by rfl) (fun _ => rfl) rfl rfl (Wn.none rfl) rfl ?_
          intro v39 M w H hle hl39
          replace hp := hp.mono hle
          replace hf14 := hf14.mono hle
          replace hs37 := hs37.mono hle
          replace hs43 := hs43.mono hle
          refine WR.nil (WQ.any ?_)
          refine WA.one (i := 5) (by kernel_rfl) rfl ?_
          refine WR.appendSl ty22 (fun _ => rfl) H rfl (fun _ => by repeat (first | exact Upd.head | apply Upd.tail)) rfl (by assumption) (by first | omega | (simp only [List.length_append, List.length_cons, List.length_nil, List.length_take, List.length_drop]; omega)) (by first | (simp only [maxLen]; omega) | (simp only [maxLen, List.length_append, List.length_cons, List.length_nil, List.length_take, List.length_drop]; omega)) (Wn.none rfl) rfl ?_
          intro v40 w H
          refine WR.nil (WQ.any ?_)
          refine WA.one (i := 9) (by kernel_rfl) rfl ?_
          refine WR.appendSl ty22 (fun _ => rfl) H rfl (fun _ => by repeat (first | exact Upd.head | apply Upd.tail)) rfl (by assumption) (by first | omega | (simp only [List.length_append, List.length_cons, List.length_nil, List.length_take, List.length_drop]; omega)) (by first | (simp only [maxLen]; omega) | (simp only [maxLen, List.length_append, List.length_cons, List.length_nil, List.length_take, List.length_drop]; omega)) (Wn.none rfl) rfl ?_
          intro v44 w H
          refine WR.nil (WQ.any ?_)
          refine WA.one (i := 10) (by kernel_rfl) rfl ?_
          refine WR.step (Ex.assign rfl) (Wn.none rfl) rfl rfl ?_
          refine WR.nil (WQ.any ?_)
          refine WA.done (by kernel_rfl) ?_
          refine WQ.meet1 (v44) ⟨rfl, rfl, trivial⟩ ?_
          obtain ⟨M, hle, hf, H⟩ := H.freezeRow (v := v44) (enc := encB) (t := 5) (by repeat (first | exact Rem.head | apply Rem.tail))
          replace hp := hp.mono hle
          refine ⟨M, H.drop (List.nil_sublist _), ?_, hp⟩
          simpa using hf
      ·
        refine WR.lit (enc := encB) ty22 [32, 13, 10] H rfl (by rfl) (fun _ => rfl) rfl rfl (Wn.none rfl) rfl ?_
        intro v39 M w H hle hl39
        replace hp := hp.mono hle
        replace hf14 := hf14.mono hle
        replace hs37 := hs37.mono hle
        refine WR.nil (WQ.any ?_)
        refine WA.two (i := 3) (j := 8) (by kernel_rfl) rfl rfl ?_ ?_
        ·
          replace H := H.newRow 5 encB
          have hel := encode_len l
          refine WR.appendSl ty22 (fun _ => rfl) H rfl (fun _ => by repeat (first | exact Upd.head | apply Upd.tail)) rfl (by assumption) (by first | omega | (simp only [List.length_append, List.length_cons, List.length_nil, List.length_take, List.length_drop]; omega)) (by first | (simp only [maxLen]; omega) | (simp only [maxLen, List.length_append, List.length_cons, List.length_nil, List.length_take, List.length_drop]; omega)) (Wn.none rfl) rfl ?_
          intro v38 w H
          refine WR.nil (WQ.any ?_)
          refine WA.two (i := 5) (j := 8) (by kernel_rfl) rfl rfl ?_ ?_
          ·
            refine WR.appendSl ty22 (fun _ => rfl) H rfl (fun _ => by repeat (first | exact Upd.head | apply Upd.tail)) rfl (by assumption) (by first | omega | (simp only [List.length_append, List.length_cons, List.length_nil, List.length_take, List.length_drop]; omega)) (by first | (simp only [maxLen]; omega) | (simp only [maxLen, List.length_append, List.length_cons, List.length_nil, List.length_take, List.length_drop]; omega)) (Wn.none rfl) rfl ?_
            intro v40 w H
            refine WR.nil (WQ.any ?_)
            refine WA.one (i := 8) (by kernel_rfl) rfl ?_
            refine WR.sliceSl (i := k) (j := (encode l).length) Try.underlying22 Try.sizeOf5 (by assumption) rfl (.inl ⟨_, rfl, rfl⟩) (.inr ⟨rfl, rfl⟩) (by omega) (by omega) (Wn.none rfl) rfl ?_
            intro v43 hs43
            refine WR.nil (WQ.any ?_)
            refine WA.one (i := 9) (by kernel_rfl) rfl ?_
            refine WR.appendSl ty22 (fun _ => rfl) H rfl (fun _ => by repeat (first | exact Upd.head | apply Upd.tail)) rfl (by assumption) (by first | omega | (simp only [List.length_append, List.length_cons, List.length_nil, List.length_take, List.length_drop]; omega)) (by first | (simp only [maxLen]; omega) | (simp only [maxLen, List.length_append, List.length_cons, List.length_nil, List.length_take, List.length_drop]; omega)) (Wn.none rfl) rfl ?_
            intro v44 w H
            refine WR.nil (WQ.any ?_)
            refine WA.one (i := 10) (by kernel_rfl) rfl ?_
            refine WR.step (Ex.assign rfl) (Wn.none rfl) rfl rfl ?_
            refine WR.nil (WQ.any ?_)
            refine WA.done (by kernel_rfl) ?_
            refine WQ.meet1 (v44) ⟨rfl, rfl, trivial⟩ ?_
            obtain ⟨M, hle, hf, H⟩ := H.freezeRow (v := v44) (enc := encB) (t := 5) (by repeat (first | exact Rem.head | apply Rem.tail))
            replace hp := hp.mono hle
            refine ⟨M, H.drop (List.nil_sublist _), ?_, hp⟩
            simpa using hf
          ·
            refine WR.sliceSl (i := k) (j := (encode l).length) Try.underlying22 Try.sizeOf5 (by assumption) rfl (.inl ⟨_, rfl, rfl⟩) (.inr ⟨rfl, rfl⟩) (by omega) (by omega) (Wn.none rfl) rfl ?_
            intro v43 hs43
            refine WR.nil (WQ.any ?_)
            refine WA.one (i := 5) (by kernel_rfl) rfl ?_
            refine WR.appendSl ty22 (fun _ => rfl) H rfl (fun _ => by repeat (first | exact Upd.head | apply Upd.tail)) rfl (by assumption) (by first | omega | (simp only [List.length_append, List.length_cons, List.length_nil, List.length_take, List.length_drop]; omega)) (by first | (simp only [maxLen]; omega) | (simp only [maxLen, List.length_append, List.length_cons, List.length_nil, List.length_take, List.length_drop]; omega)) (Wn.none rfl) rfl ?_
            intro v40 w H
            refine WR.nil (WQ.any ?_)
            refine WA.one (i := 9) (by kernel_rfl) rfl ?_
            refine WR.appendSl ty22 (fun _ => rfl) H rfl (fun _ => by repeat (first | exact Upd.head | apply Upd.tail)) rfl (by assumption) (by first | omega | (simp only [List.length_append, List.length_cons, List.length_nil, List.length_take, List.length_drop]; omega)) (by first | (simp only [maxLen]; omega) | (simp only [maxLen, List.length_append, List.length_cons, List.length_nil, List.length_take, List.length_drop]; omega)) (Wn.none rfl) rfl ?_
            intro v44 w H
            refine WR.nil (WQ.any ?_)
            refine WA.one (i := 10) (by kernel_rfl) rfl ?_
            refine WR.step (Ex.assign rfl) (Wn.none rfl) rfl rfl ?_
            refine WR.nil (WQ.any ?_)
            refine WA.done (by kernel_rfl) ?_
            refine WQ.meet1 (v44) ⟨rfl, rfl, trivial⟩ ?_
            obtain ⟨M, hle, hf, H⟩ := H.freezeRow (v := v44) (enc := encB) (t := 5) (by repeat (first | exact Rem.head | apply Rem.tail))
            replace hp := hp.mono hle
            refine ⟨M, H.drop (List.nil_sublist _), ?_, hp⟩
            simpa using hf
        ·
          refine WR.sliceSl (i := k) (j := (encode l).length) Try.underlying22 Try.sizeOf5 (by assumption) rfl (.inl ⟨_, rfl, rfl⟩) (.inr ⟨rfl, rfl⟩) (by omega) (by omega) (Wn.none rfl) rfl ?_
          intro v43 hs43
          refine WR.nil (WQ.any ?_)
          refine WA.one (i := 3) (by kernel_rfl) rfl ?_
          replace H := H.newRow 5 encB
          have hel := encode_len l
          refine WR.appendSl ty22 (fun _ => rfl) H rfl (fun _ => by repeat (first | exact Upd.head | apply Upd.tail)) rfl (by assumption) (by first | omega | (simp only [List.length_append, List.length_cons, List.length_nil, List.length_take, List.length_drop]; omega)) (by first | (simp only [maxLen]; omega) | (simp only [maxLen, List.length_append, List.length_cons, List.length_nil, List.length_take, List.length_drop]; omega)) (Wn.none rfl) rfl ?_
          intro v38 w H
          refine WR.nil (WQ.any ?_)
          refine WA.one (i := 5) (by kernel_rfl) rfl ?_
          refine WR.appendSl ty22 (fun _ => rfl) H rfl (fun _ => by repeat (first | exact Upd.head | apply Upd.tail)) rfl (by assumption) (by first | omega | (simp only [List.length_append, List.length_cons, List.length_nil, List.length_take, List.length_drop]; omega)) (by first | (simp only [maxLen]; omega) | (simp only [maxLen, List.length_append, List.length_cons, List.length_nil, List.length_take, List.length_drop]; omega)) (Wn.none rfl) rfl ?_
          intro v40 w H
          refine WR.nil (WQ.any ?_)
          refine WA.one (i := 9) (by kernel_rfl) rfl ?_
          refine WR.appendSl ty22 (fun _ => rfl) H rfl (fun _ => by repeat (first | exact Upd.head | apply Upd.tail)) rfl (by assumption) (by first | omega | (simp only [List.length_append, List.length_cons, List.length_nil, List.length_take, List.length_drop]; omega)) (by first | (simp only [maxLen]; omega) | (simp only [maxLen, List.length_append, List.length_cons, List.length_nil, List.length_take, List.length_drop]; omega)) (Wn.none rfl) rfl ?_
          intro v44 w H
          refine WR.nil (WQ.any ?_)
          refine WA.one (i := 10) (by kernel_rfl) rfl ?_
          refine WR.step (Ex.assign rfl) (Wn.none rfl) rfl rfl ?_
          refine WR.nil (WQ.any ?_)
          refine WA.done (by kernel_rfl) ?_
          refine WQ.meet1 (v44) ⟨rfl, rfl, trivial⟩ ?_
          obtain ⟨M, hle, hf, H⟩ := H.freezeRow (v := v44) (enc := encB) (t := 5) (by repeat (first | exact Rem.head | apply Rem.tail))
          replace hp := hp.mono hle
          refine ⟨M, H.drop (List.nil_sublist _), ?_, hp⟩
          simpa using hf
      ·
        refine WR.sliceSl (i := k) (j := (encode l).length) Try.underlying22 Try.sizeOf5 (by assumption) rfl (.inl ⟨_, rfl, rfl⟩) (.inr ⟨rfl, rfl⟩) (by omega) (by omega) (Wn.none rfl) rfl ?_
        intro v43 hs43
        refine WR.nil (WQ.any ?_)
        refine WA.two (i := 3) (j := 4) (by kernel_rfl) rfl rfl ?_ ?_
        ·
          replace H := H.newRow 5 encB
          have hel := encode_len l
          refine WR.appendSl ty22 (fun _ => rfl) H rfl (fun _ => by repeat (first | exact Upd.head | apply Upd.tail)) rfl (by assumption) (by first | omega | (simp only [List.length_append, List.length_cons, List.length_nil, List.length_take, List.length_drop]; omega)) (by first | (simp only [maxLen]; omega) | (simp only [maxLen, List.length_append, List.length_cons, List.length_nil, List.length_take, List.length_drop]; omega)) (Wn.none rfl) rfl ?_
          intro v38 w H
          refine WR.nil (WQ.any ?_)
          refine WA.one (i := 4) (by kernel_rfl) rfl ?_
          refine WR.lit (enc := encB) ty22 [32, 13, 10] H rfl (by rfl) (fun _ => rfl) rfl rfl (Wn.none rfl) rfl ?_
          intro v39 M w H hle hl39
          replace hp := hp.mono hle
          replace hf14 := hf14.mono hle
          replace hs37 := hs37.mono hle
          replace hs43 := hs43.mono hle
          refine WR.nil (WQ.any ?_)
          refine WA.one (i := 5) (by kernel_rfl) rfl ?_
          refine WR.appendSl ty22 (fun _ => rfl) H rfl (fun _ => by repeat (first | exact Upd.head | apply Upd.tail)) rfl (by assumption) (by first | omega | (simp only [List.length_append, List.length_cons, List.length_nil, List.length_take, List.length_drop]; omega)) (by first | (simp only [maxLen]; omega) | (simp only [maxLen, List.length_append, List.length_cons, List.length_nil, List.length_take, List.length_drop]; omega)) (Wn.none rfl) rfl ?_
          intro v40 w H
          refine WR.nil (WQ.any ?_)
          refine WA.one (i := 9) (by kernel_rfl) rfl ?_
          refine WR.appendSl ty22 (fun _ => rfl) H rfl (fun _ => by repeat (first | exact Upd.head | apply Upd.tail)) rfl (by assumption) (by first | omega | (simp only [List.length_append, List.length_cons, List.length_nil, List.length_take, List.length_drop]; omega)) (by first | (simp only [maxLen]; omega) | (simp only [maxLen, List.length_append, List.length_cons, List.length_nil, List.length_take, List.length_drop]; omega)) (Wn.none rfl) rfl ?_
          intro v44 w H
          refine WR.nil (WQ.any ?_)
          refine WA.one (i := 10) (by kernel_rfl) rfl ?_
          refine WR.step (Ex.assign rfl) (Wn.none rfl) rfl rfl ?_
          refine WR.nil (WQ.any ?_)
          refine WA.done (by kernel_rfl) ?_
          refine WQ.meet1 (v44) ⟨rfl, rfl, trivial⟩ ?_
          obtain ⟨M, hle, hf, H⟩ := H.freezeRow (v := v44) (enc := encB) (t := 5) (by repeat (first | exact Rem.head | apply Rem.tail))
          replace hp := hp.mono hle
          refine ⟨M, H.drop (List.nil_sublist _), ?_, hp⟩
          simpa using hf
        ·
          refine WR.lit (enc := encB) ty22 [32, 13, 10] H rfl (by rfl) (fun _ => rfl) rfl rfl (Wn.none rfl) rfl ?_
          intro v39 M w H hle hl39
          replace hp := hp.mono hle
          replace hf14 := hf14.mono hle
          replace hs37 := hs37.mono hle
          replace hs43 := hs43.mono hle
          refine WR.nil (WQ.any ?_)
          refine WA.one (i := 3) (by kernel_rfl) rfl ?_
          replace H := H.newRow 5 encB
          have hel := encode_len l
          refine WR.appendSl ty22 (fun _ => rfl) H rfl (fun _ => by repeat (first | exact Upd.head | apply Upd.tail)) rfl (by assumption) (by first | omega | (simp only [List.length_append, List.length_cons, List.length_nil, List.length_take, List.length_drop]; omega)) (by first | (simp only [maxLen]; omega) | (simp only [maxLen, List.length_append, List.length_cons, List.length_nil, List.length_take, List.length_drop]; omega)) (Wn.none rfl) rfl ?_
          intro v38 w H
          refine WR.nil (WQ.any ?_)
          refine WA.one (i := 5) (by kernel_rfl) rfl ?_
          refine WR.appendSl ty22 (fun _ => rfl) H rfl (fun _ => by repeat (first | exact Upd.head | apply Upd.tail)) rfl (by assumption) (by first | omega | (simp only [List.length_append, List.length_cons, List.length_nil, List.length_take, List.length_drop]; omega)) (by first | (simp only [maxLen]; omega) | (simp only [maxLen, List.length_append, List.length_cons, List.length_nil, List.length_take, List.length_drop]; omega)) (Wn.none rfl) rfl ?_
          intro v40 w H
          refine WR.nil (WQ.any ?_)
          refine WA.one (i := 9) (by kernel_rfl) rfl ?_
          refine WR.appendSl ty22 (fun _ => rfl) H rfl (fun _ => by repeat (first | exact Upd.head | apply Upd.tail)) rfl (by assumption) (by first | omega | (simp only [List.length_append, List.length_cons, List.length_nil, List.length_take, List.length_drop]; omega)) (by first | (simp only [maxLen]; omega) | (simp only [maxLen, List.length_append, List.length_cons, List.length_nil, List.length_take, List.length_drop]; omega)) (Wn.none rfl) rfl ?_
          intro v44 w H
          refine WR.nil (WQ.any ?_)
          refine WA.one (i := 10) (by kernel_rfl) rfl ?_
          refine WR.step (Ex.assign rfl) (Wn.none rfl) rfl rfl ?_
          refine WR.nil (WQ.any ?_)
          refine WA.done (by kernel_rfl) ?_
          refine WQ.meet1 (v44) ⟨rfl, rfl, trivial⟩ ?_
          obtain ⟨M, hle, hf, H⟩ := H.freezeRow (v := v44) (enc := encB) (t := 5) (by repeat (first | exact Rem.head | apply Rem.tail))
          replace hp := hp.mono hle
          refine ⟨M, H.drop (List.nil_sublist _), ?_, hp⟩
          simpa using hf
    ·
      refine WR.lit (enc := encB) ty22 [32, 13, 10] H rfl (by rfl) (fun _ => rfl) rfl rfl (Wn.none rfl) rfl ?_
      intro v39 M w H hle hl39
      replace hp := hp.mono hle
      replace hf14 := hf14.mono hle
      refine WR.nil (WQ.any ?_)
      refine WA.two (i := 2) (j := 8) (by kernel_rfl) rfl rfl ?_ ?_
      ·
        refine WR.sliceSl (i := 0) (j := k) Try.underlying22 Try.sizeOf5 (by assumption) rfl (.inr ⟨rfl, rfl⟩) (.inl ⟨_, rfl, rfl⟩) (by omega) (by omega) (Wn.none rfl) rfl ?_
        intro v37 hs37
        refine WR.nil (WQ.any ?_)
        refine WA.two (i := 3) (j := 8) (by kernel_rfl) rfl rfl ?_ ?_
        ·
          replace H := H.newRow 5 encB
          have hel := encode_len l
          refine WR.appendSl ty22 (fun _ => rfl) H rfl (fun _ => by repeat (first | exact Upd.head | apply Upd.tail)) rfl (by assumption) (by first | omega | (simp only [List.length_append, List.length_cons, List.length_nil, List.length_take, List.length_drop]; omega)) (by first | (simp only [maxLen]; omega) | (simp only [maxLen, List.length_append, List.length_cons, List.length_nil, List.length_take, List.length_drop]; omega)) (Wn.none rfl) rfl ?_
          intro v38 w H
          refine WR.nil (WQ.any ?_)
          refine WA.two (i := 5) (j := 8) (by kernel_rfl) rfl rfl ?_ ?_
          ·
            refine WR.appendSl ty22 (fun _ => rfl) H rfl (fun _ => by repeat (first | exact Upd.head | apply Upd.tail)) rfl (by assumption) (by first | omega | (simp only [List.length_append, List.length_cons, List.length_nil, List.length_take, List.length_drop]; omega)) (by first | (simp only [maxLen]; omega) | (simp only [maxLen, List.length_append, List.length_cons, List.length_nil, List.length_take, List.length_drop]; omega)) (Wn.none rfl) rfl ?_
            intro v40 w H
            refine WR.nil (WQ.any ?_)
            refine WA.one (i := 8) (by kernel_rfl) rfl ?_
            refine WR.sliceSl (i := k) (j := (encode l).length) Try.underlying22 Try.sizeOf5 (by assumption) rfl (.inl ⟨_, rfl, rfl⟩) (.inr ⟨rfl, rfl⟩) (by omega) (by omega) (Wn.none rfl) rfl ?_
            intro v43 hs43
            refine WR.nil (WQ.any ?_)
            refine WA.one (i := 9) (by kernel_rfl) rfl ?_
            refine WR.appendSl ty22 (fun _ => rfl) H rfl (fun _ => by repeat (first | exact Upd.head | apply Upd.tail)) rfl (by assumption) (by first | omega | (simp only [List.length_append, List.length_cons, List.length_nil, List.length_take, List.length_drop]; omega)) (by first | (simp only [maxLen]; omega) | (simp only [maxLen, List.length_append, List.length_cons, List.length_nil, List.length_take, List.length_drop]; omega)) (Wn.none rfl) rfl ?_
            intro v44 w H
            refine WR.nil (WQ.any ?_)
            refine WA.one (i := 10) (by kernel_rfl) rfl ?_
            refine WR.step (Ex.assign rfl) (Wn.none rfl) rfl rfl ?_
            refine WR.nil (WQ.any ?_)
            refine WA.done (by kernel_rfl) ?_
            refine WQ.meet1 (v44) ⟨rfl, rfl, trivial⟩ ?_
            obtain ⟨M, hle, hf, H⟩ := H.freezeRow (v := v44) (enc := encB) (t := 5) (by repeat (first | exact Rem.head | apply Rem.tail))
            replace hp := hp.mono hle
            refine ⟨M, H.drop (List.nil_sublist _), ?_, hp⟩
            simpa using hf
          ·
            refine WR.sliceSl (i := k) (j := (encode l).length) Try.underlying22 Try.sizeOf5 (by assumption) rfl (.inl ⟨_, rfl, rfl⟩) (.inr ⟨rfl, rfl⟩) (by omega) (by omega) (Wn.none rfl) rfl ?_
            intro v43 hs43
            refine WR.nil (WQ.any ?_)
            refine WA.one (i := 5) (by kernel_rfl) rfl ?_
            refine WR.appendSl ty22 (fun _ => rfl) H rfl (fun _ => by repeat (first | exact Upd.head | apply Upd.tail)) rfl (by assumption) (by first | omega | (simp only [List.length_append, List.length_cons, List.length_nil, List.length_take, List.length_drop]; omega)) (by first | (simp only [maxLen]; omega) | (simp only [maxLen, List.length_append, List.length_cons, List.length_nil, List.length_take, List.length_drop]; omega)) (Wn.none rfl) rfl ?_
            intro v40 w H
            refine WR.nil (WQ.any ?_)
            refine WA.one (i := 9) (by kernel_rfl) rfl ?_
            refine WR.appendSl ty22 (fun _ => rfl) H rfl (fun _ => by repeat (first | exact Upd.head | apply Upd.tail)) rfl (by assumption) (by first | omega | (simp only [List.length_append, List.length_cons, List.length_nil, List.length_take, List.length_drop]; omega)) (by first | (simp only [maxLen]; omega) | (simp only [maxLen, List.length_append, List.length_cons, List.length_nil, List.length_take, List.length_drop]; omega)) (Wn.none rfl) rfl ?_
            intro v44 w H
            refine WR.nil (WQ.any ?_)
            refine WA.one (i := 10) (by kernel_rfl) rfl ?_
            refine WR.step (Ex.assign rfl) (Wn.none rfl) rfl rfl ?_
            refine WR.nil (WQ.any ?_)
            refine WA.done (by kernel_rfl) ?_
            refine WQ.meet1 (v44) ⟨rfl, rfl, trivial⟩ ?_
            obtain ⟨M, hle, hf, H⟩ := H.freezeRow (v := v44) (enc := encB) (t := 5) (by repeat (first | exact Rem.head | apply Rem.tail))
            replace hp := hp.mono hle
            refine ⟨M, H.drop (List.nil_sublist _), ?_, hp⟩
            simpa using hf
        ·
          refine WR.sliceSl (i := k) (j := (encode l).length) Try.underlying22 Try.sizeOf5 (by assumption) rfl (.inl ⟨_, rfl, rfl⟩) (.inr ⟨rfl, rfl⟩) (by omega) (by omega) (Wn.none rfl) rfl ?_
          intro v43 hs43
          refine WR.nil (WQ.any ?_)
          refine WA.one (i := 3) (by kernel_rfl) rfl ?_
          replace H := H.newRow 5 encB
          have hel := encode_len l
          refine WR.appendSl ty22 (fun _ => rfl) H rfl (fun _ => by repeat (first | exact Upd.head | apply Upd.tail)) rfl (by assumption) (by first | omega | (simp only [List.length_append, List.length_cons, List.length_nil, List.length_take, List.length_drop]; omega)) (by first | (simp only [maxLen]; omega) | (simp only [maxLen, List.length_append, List.length_cons, List.length_nil, List.length_take, List.length_drop]; omega)) (Wn.none rfl) rfl ?_
          intro v38 w H
          refine WR.nil (WQ.any ?_)
          refine WA.one (i := 5) (by kernel_rfl) rfl ?_
          refine WR.appendSl ty22 (fun _ => rfl) H rfl (fun _ => by repeat (first | exact Upd.head | apply Upd.tail)) rfl (by assumption) (by first | omega | (simp only [List.length_append, List.length_cons, List.length_nil, List.length_take, List.length_drop]; omega)) (by first | (simp only [maxLen]; omega) | (simp only [maxLen, List.length_append, List.length_cons, List.length_nil, List.length_take, List.length_drop]; omega)) (Wn.none rfl) rfl ?_
          intro v40 w H
          refine WR.nil (WQ.any ?_)
          refine WA.one (i := 9) (by kernel_rfl) rfl ?_
          refine WR.appendSl ty22 (fun _ => rfl) H rfl (fun _ => by repeat (first | exact Upd.head | apply Upd.tail)) rfl (by assumption) (by first | omega | (simp only [List.length_append, List.length_cons, List.length_nil, List.length_take, List.length_drop]; omega)) (by first | (simp only [maxLen]; omega) | (simp only [maxLen, List.length_append, List.length_cons, List.length_nil, List.length_take, List.length_drop]; omega)) (Wn.none rfl) rfl ?_
          intro v44 w H
          refine WR.nil (WQ.any ?_)
          refine WA.one (i := 10) (by kernel_rfl) rfl ?_
          refine WR.step (Ex.assign rfl) (Wn.none rfl) rfl rfl ?_
          refine WR.nil (WQ.any ?_)
          refine WA.done (by kernel_rfl) ?_
          refine WQ.meet1 (v44) ⟨rfl, rfl, trivial⟩ ?_
          obtain ⟨M, hle, hf, H⟩ := H.freezeRow (v := v44) (enc := encB) (t := 5) (by repeat (first | exact Rem.head | apply Rem.tail))
          replace hp := hp.mono hle
          refine ⟨M, H.drop (List.nil_sublist _), ?_, hp⟩
          simpa using hf
      ·
        refine WR.sliceSl (i := k) (j := (encode l).length) Try.underlying22 Try.sizeOf5 (by assumption) rfl (.inl ⟨_, rfl, rfl⟩) (.inr ⟨rfl, rfl⟩) (by omega) (by omega) (Wn.none rfl) rfl ?_
        intro v43 hs43
        refine WR.nil (WQ.any ?_)
        refine WA.one (i := 2) (by kernel_rfl) rfl ?_
        refine WR.sliceSl (i := 0) (j := k) Try.underlying22 Try.sizeOf5 (by assumption) rfl (.inr ⟨rfl, rfl⟩) (.inl ⟨_, rfl, rfl⟩) (by omega) (by omega) (Wn.none rfl) rfl ?_
        intro v37 hs37
        refine WR.nil (WQ.any ?_)
        refine WA.one (i := 3) (by kernel_rfl) rfl ?_
        replace H := H.newRow 5 encB
        have hel := encode_len l
        refine WR.appendSl ty22 (fun _ => rfl) H rfl (fun _ => by repeat (first | exact Upd.head | apply Upd.tail)) rfl (by assumption) (by first | omega | (simp only [List.length_append, List.length_cons, List.length_nil, List.length_take, List.length_drop]; omega)) (by first | (simp only [maxLen]; omega) | (simp only [maxLen, List.length_append, List.length_cons, List.length_nil, List.length_take, List.length_drop]; omega)) (Wn.none rfl) rfl ?_
        intro v38 w H
        refine WR.nil (WQ.any ?_)
        refine WA.one (i := 5) (by kernel_rfl) rfl ?_
        refine WR.appendSl ty22 (fun _ => rfl) H rfl (fun _ => by repeat (first | exact Upd.head | apply Upd.tail)) rfl (by assumption) (by first | omega | (simp only [List.length_append, List.length_cons, List.length_nil, List.length_take, List.length_drop]; omega)) (by first | (simp only [maxLen]; omega) | (simp only [maxLen, List.length_append, List.length_cons, List.length_nil, List.length_take, List.length_drop]; omega)) (Wn.none rfl) rfl ?_
        intro v40 w H
        refine WR.nil (WQ.any ?_)
        refine WA.one (i := 9) (by kernel_rfl) rfl ?_
        refine WR.appendSl ty22 (fun _ => rfl) H rfl (fun _ => by repeat (first | exact Upd.head | apply Upd.tail)) rfl (by assumption) (by first | omega | (simp only [List.length_append, List.length_cons, List.length_nil, List.length_take, List.length_drop]; omega)) (by first | (simp only [maxLen]; omega) | (simp only [maxLen, List.length_append, List.length_cons, List.length_nil, List.length_take, List.length_drop]; omega)) (Wn.none rfl) rfl ?_
        intro v44 w H
        refine WR.nil (WQ.any ?_)
        refine WA.one (i := 10) (by kernel_rfl) rfl ?_
        refine WR.step (Ex.assign rfl) (Wn.none rfl) rfl rfl ?_
        refine WR.nil (WQ.any ?_)
        refine WA.done (by kernel_rfl) ?_
        refine WQ.meet1 (v44) ⟨rfl, rfl, trivial⟩ ?_
        obtain ⟨M, hle, hf, H⟩ := H.freezeRow (v := v44) (enc := encB) (t := 5) (by repeat (first | exact Rem.head | apply Rem.tail))
        replace hp := hp.mono hle
        refine ⟨M, H.drop (List.nil_sublist _), ?_, hp⟩
        simpa using hf
    ·
      refine WR.sliceSl (i := k) (j := (encode l).length) Try.underlying22 Try.sizeOf5 (by assumption) rfl (.inl ⟨_, rfl, rfl⟩) (.inr ⟨rfl, rfl⟩) (by omega) (by omega) (Wn.none rfl) rfl ?_
      intro v43 hs43
      refine WR.nil (WQ.any ?_)
      refine WA.two (i := 2) (j := 4) (by kernel_rfl) rfl rfl ?_ ?_
      ·
        refine WR.sliceSl (i := 0) (j := k) Try.underlying22 Try.sizeOf5 (by assumption) rfl (.inr ⟨rfl, rfl⟩) (.inl ⟨_, rfl, rfl⟩) (by omega) (by omega) (Wn.none rfl) rfl ?_
        intro v37 hs37
        refine WR.nil (WQ.any ?_)
        refine WA.two (i := 3) (j := 4) (by kernel_rfl) rfl rfl ?_ ?_
        ·
          replace H := H.newRow 5 encB
          have hel := encode_len l
          refine WR.appendSl ty22 (fun _ => rfl) H rfl (fun _ => by repeat (first | exact Upd.head | apply Upd.tail)) rfl (by assumption) (by first | omega | (simp only [List.length_append, List.length_cons, List.length_nil, List.length_take, List.length_drop]; omega)) (by first | (simp only [maxLen]; omega) | (simp only [maxLen, List.length_append, List.length_cons, List.length_nil, List.length_take, List.length_drop]; omega)) (Wn.none rfl) rfl ?_
          intro v38 w H
          refine WR.nil (WQ.any ?_)
          refine WA.one (i := 4) (by kernel_rfl) rfl ?_
          refine WR.lit (enc := encB) ty22 [32, 13, 10] H rfl (by rfl) (fun _ => rfl) rfl rfl (Wn.none rfl) rfl ?_
          intro v39 M w H hle hl39
          replace hp := hp.mono hle
          replace hf14 := hf14.mono hle
          replace hs43 := hs43.mono hle
          replace hs37 := hs37.mono hle
          refine WR.nil (WQ.any ?_)
          refine WA.one (i := 5) (by kernel_rfl) rfl ?_
          refine WR.appendSl ty22 (fun _ => rfl) H rfl (fun _ => by repeat (first | exact Upd.head | apply Upd.tail)) rfl (by assumption) (by first | omega | (simp only [List.length_append, List.length_cons, List.length_nil, List.length_take, List.length_drop]; omega)) (by first | (simp only [maxLen]; omega) | (simp only [maxLen, List.length_append, List.length_cons, List.length_nil, List.length_take, List.length_drop]; omega)) (Wn.none rfl) rfl ?_
          intro v40 w H
          refine WR.nil (WQ.any ?_)
          refine WA.one (i := 9) (by kernel_rfl) rfl ?_
          refine WR.appendSl ty22 (fun _ => rfl) H rfl (fun _ => by repeat (first | exact Upd.head | apply Upd.tail)) rfl (by assumption) (by first | omega | (simp only [List.length_append, List.length_cons, List.length_nil, List.length_take, List.length_drop]; omega)) (by first | (simp only [maxLen]; omega) | (simp only [maxLen, List.length_append, List.length_cons, List.length_nil, List.length_take, List.length_drop]; omega)) (Wn.none rfl) rfl ?_
          intro v44 w H
          refine WR.nil (WQ.any ?_)
          refine WA.one (i := 10) (by kernel_rfl) rfl ?_
          refine WR.step (Ex.assign rfl) (Wn.none rfl) rfl rfl ?_
          refine WR.nil (WQ.any ?_)
          refine WA.done (by kernel_rfl) ?_
          refine WQ.meet1 (v44) ⟨rfl, rfl, trivial⟩ ?_
          obtain ⟨M, hle, hf, H⟩ := H.freezeRow (v := v44) (enc := encB) (t := 5) (by repeat (first | exact Rem.head | apply Rem.tail))
          replace hp := hp.mono hle
          refine ⟨M, H.drop (List.nil_sublist _), ?_, hp⟩
          simpa using hf
        ·
          refine WR.lit (enc := encB) ty22 [32, 13, 10] H rfl (by rfl) (fun _ => rfl) rfl rfl (Wn.none rfl) rfl ?_
          intro v39 M w H hle hl39
          replace hp := hp.mono hle
          replace hf14 := hf14.mono hle
          replace hs43 := hs43.mono hle
          replace hs37 := hs37.mono hle
          refine WR.nil (WQ.any ?_)
          refine WA.one (i := 3) (by kernel_rfl) rfl ?_
          replace H := H.newRow 5 encB
          have hel := encode_len l
          refine WR.appendSl ty22 (fun _ => rfl) H rfl (fun _ => by repeat (first | exact Upd.head | apply Upd.tail)) rfl (by assumption) (by first | omega | (simp only [List.length_append, List.length_cons, List.length_nil, List.length_take, List.length_drop]; omega)) (by first | (simp only [maxLen]; omega) | (simp only [maxLen, List.length_append, List.length_cons, List.length_nil, List.length_take, List.length_drop]; omega)) (Wn.none rfl) rfl ?_
          intro v38 w H
          refine WR.nil (WQ.any ?_)
          refine WA.one (i := 5) (by kernel_rfl) rfl ?_
          refine WR.appendSl ty22 (fun _ => rfl) H rfl (fun _ => by repeat (first | exact Upd.head | apply Upd.tail)) rfl (by assumption) (by first | omega | (simp only [List.length_append, List.length_cons, List.length_nil, List.length_take, List.length_drop]; omega)) (by first | (simp only [maxLen]; omega) | (simp only [maxLen, List.length_append, List.length_cons, List.length_nil, List.length_take, List.length_drop]; omega)) (Wn.none rfl) rfl ?_
          intro v40 w H
          refine WR.nil (WQ.any ?_)
          refine WA.one (i := 9) (by kernel_rfl) rfl ?_
          refine WR.appendSl ty22 (fun _ => rfl) H rfl (fun _ => by repeat (first | exact Upd.head | apply Upd.tail)) rfl (by assumption) (by first | omega | (simp only [List.length_append, List.length_cons, List.length_nil, List.length_take, List.length_drop]; omega)) (by first | (simp only [maxLen]; omega) | (simp only [maxLen, List.length_append, List.length_cons, List.length_nil, List.length_take, List.length_drop]; omega)) (Wn.none rfl) rfl ?_
          intro v44 w H
          refine WR.nil (WQ.any ?_)
          refine WA.one (i := 10) (by kernel_rfl) rfl ?_
          refine WR.step (Ex.assign rfl) (Wn.none rfl) rfl rfl ?_
          refine WR.nil (WQ.any ?_)
          refine WA.done (by kernel_rfl) ?_
          refine WQ.meet1 (v44) ⟨rfl, rfl, trivial⟩ ?_
          obtain ⟨M, hle, hf, H⟩ := H.freezeRow (v := v44) (enc := encB) (t := 5) (by repeat (first | exact Rem.head | apply Rem.tail))
          replace hp := hp.mono hle
          refine ⟨M, H.drop (List.nil_sublist _), ?_, hp⟩
          simpa using hf
      ·
        refine WR.lit (enc := encB) ty22 [32, 13, 10] H rfl (by rfl) (fun _ => rfl) rfl rfl (Wn.none rfl) rfl ?_
        intro v39 M w H hle hl39
        replace hp := hp.mono hle
        replace hf14 := hf14.mono hle
        replace hs43 := hs43.mono hle
        refine WR.nil (WQ.any ?_)
        refine WA.one (i := 2) (by kernel_rfl) rfl ?_
        refine WR.sliceSl (i := 0) (j := k) Try.underlying22 Try.sizeOf5 (by assumption) rfl (.inr ⟨rfl, rfl⟩) (.inl ⟨_, rfl, rfl⟩) (by omega) (by omega) (Wn.none rfl) rfl ?_
        intro v37 hs37
        refine WR.nil (WQ.any ?_)
        refine WA.one (i := 3) (by kernel_rfl) rfl ?_
        replace H := H.newRow 5 encB
        have hel := encode_len l
        refine WR.appendSl ty22 (fun _ => rfl) H rfl (fun _ => by repeat (first | exact Upd.head | apply Upd.tail)) rfl (by assumption) (by first | omega | (simp only [List.length_append, List.length_cons, List.length_nil, List.length_take, List.length_drop]; omega)) (by first | (simp only [maxLen]; omega) | (simp only [maxLen, List.length_append, List.length_cons, List.length_nil, List.length_take, List.length_drop]; omega)) (Wn.none rfl) rfl ?_
        intro v38 w H
        refine WR.nil (WQ.any ?_)
        refine WA.one (i := 5) (by kernel_rfl) rfl ?_
        refine WR.appendSl ty22 (fun _ => rfl) H rfl (fun _ => by repeat (first | exact Upd.head | apply Upd.tail)) rfl (by assumption) (by first | omega | (simp only [List.length_append, List.length_cons, List.length_nil, List.length_take, List.length_drop]; omega)) (by first | (simp only [maxLen]; omega) | (simp only [maxLen, List.length_append, List.length_cons, List.length_nil, List.length_take, List.length_drop]; omega)) (Wn.none rfl) rfl ?_
        intro v40 w H
        refine WR.nil (WQ.any ?_)
        refine WA.one (i := 9) (by kernel_rfl) rfl ?_
        refine WR.appendSl ty22 (fun _ => rfl) H rfl (fun _ => by repeat (first | exact Upd.head | apply Upd.tail)) rfl (by assumption) (by first | omega | (simp only [List.length_append, List.length_cons, List.length_nil, List.length_take, List.length_drop]; omega)) (by first | (simp only [maxLen]; omega) | (simp only [maxLen, List.length_append, List.length_cons, List.length_nil, List.length_take, List.length_drop]; omega)) (Wn.none rfl) rfl ?_
        intro v44 w H
        refine WR.nil (WQ.any ?_)
        refine WA.one (i := 10) (by kernel_rfl) rfl ?_
        refine WR.step (Ex.assign rfl) (Wn.none rfl) rfl rfl ?_
        refine WR.nil (WQ.any ?_)
        refine WA.done (by kernel_rfl) ?_
        refine WQ.meet1 (v44) ⟨rfl, rfl, trivial⟩ ?_
        obtain ⟨M, hle, hf, H⟩ := H.freezeRow (v := v44) (enc := encB) (t := 5) (by repeat (first | exact Rem.head | apply Rem.tail))
        replace hp := hp.mono hle
        refine ⟨M, H.drop (List.nil_sublist _), ?_, hp⟩
        simpa using hf
  ·
    intro v w
    rintro ⟨M, H, hv, hp⟩
    refine WC.seq ?_
    refine WC.region ?_
    refine WR.step (Ex.move rfl) (Wn.none rfl) rfl rfl ?_
    refine WR.call H (lenient_spec _ ((encode l).take k ++ [32, 13, 10] ++ (encode l).drop k) (by have := encode_len l; simp only [List.length_append, List.length_take, List.length_drop, List.length_cons, List.length_nil]; omega)) rfl (by assumption) (Wn.none rfl) rfl ?_
    intro v47 M w H hle hr47
    replace hv := hv.mono hle
    replace hp := hp.mono hle
    obtain ⟨w47, rfl, hf47⟩ := hr47
    refine WR.step (Ex.move rfl) (Wn.none rfl) rfl rfl ?_
    refine WR.step (Ex.extract rfl rfl) (Wn.none rfl) rfl rfl ?_
    refine WR.step (Ex.extract rfl rfl) (Wn.none rfl) rfl rfl ?_
    refine WR.alloc [_, _] H Try.zeroValue25 rfl (Wn.none rfl) rfl ?_
    intro b9 w H
    refine WR.step (Ex.assign rfl) (Wn.none rfl) rfl rfl ?_
    refine WR.store [_, _] H rfl rfl rfl (by repeat (first | exact Upd.head | apply Upd.tail)) Try.sizeOf25 rfl (by rfl) (by rfl) (Wn.none rfl) ?_
    intro w H
    refine WR.nil ?_
    refine WQ.then ?_
    refine WC.seq ?_
    refine WC.region ?_
    refine WR.step (Ex.fieldAddr Try.underlying25 rfl Try.sizeOf3 (by decide) rfl) (Wn.none rfl) rfl rfl ?_
    first | refine WR.step (Ex.loadM H rfl (by assumption) Try.isAgg3) (Wn.none rfl) rfl rfl ?_ | refine WR.step (Ex.load1 H rfl (by repeat (first | exact List.Mem.head _ | apply List.Mem.tail)) Try.isAgg3 (by rfl)) (Wn.none rfl) rfl rfl ?_
    refine WR.stepT (Ex.eql rfl rfl) rfl (Wn.none rfl) rfl rfl ?_
    refine WR.step (Ex.move rfl) (Wn.none rfl) rfl rfl ?_
    refine WR.step (Ex.move rfl) (Wn.some rfl rfl rfl) rfl rfl ?_
    refine WR.step (Ex.move rfl) (Wn.some rfl rfl rfl) rfl rfl ?_
    refine WR.call H (Ct.mono (bytes_spec _ _ _ _) (R' := fun r _ => r = .bool true) (fun _ _ h => h.trans (congrArg Value.bool (decide_eq_true (lenient_broken l k))))) rfl (⟨by assumption, by assumption⟩) (Wn.some rfl rfl rfl) rfl ?_
    intro v56 M w H hle hr56
    replace hv := hv.mono hle
    replace hp := hp.mono hle
    replace hf47 := hf47.mono hle
    obtain rfl := hr56
    refine WR.step (Ex.pickT rfl rfl) (Wn.none rfl) rfl rfl ?_
    refine WR.step (Ex.assign rfl) (Wn.none rfl) rfl rfl ?_
    refine WR.nil ?_
    refine WQ.then ?_
    refine WC.ret ?_
    (repeat (first | refine WQ.thenRet ?_ | refine WQ.inBlockRet ?_))
    refine WQ.ret1 rfl rfl H.ext ?_
    exact rfl

theorem law1 (bv : Value) (l : List UInt8) : Ct Try.prog 3 [bv] (fun M => Bs M bv l) (fun r _ => r = .bool true) := by
  rcases Nat.lt_or_ge 12000 l.length with h | h
  · exact l1_big bv l h
  · exact l1_ok bv l h
theorem law2 (bv : Value) (l : List UInt8) : Ct Try.prog 4 [bv] (fun M => Bs M bv l) (fun r _ => r = .bool true) := by
  rcases Nat.lt_or_ge 24000 l.length with h | h
  · exact l2_big bv l h
  · exact l2_ok bv l h
theorem law3 (bv : Value) (l : List UInt8) : Ct Try.prog 5 [bv] (fun M => Bs M bv l) (fun r _ => r = .bool true) := by
  rcases Nat.lt_or_ge 12000 l.length with h | h
  · exact l3_big bv l h
  · exact l3_ok bv l h
theorem law4 (bv : Value) (l : List UInt8) : Ct Try.prog 6 [bv] (fun M => Bs M bv l) (fun r _ => r = .bool true) := by
  rcases Nat.lt_or_ge 24000 l.length with h | h
  · exact l4_big bv l h
  · rcases Nat.lt_or_ge 12000 (lenient l).length with h2 | h2
    · exact l4_long bv l h h2
    · by_cases h3 : encode (lenient l) = l
      · exact l4_ok bv l h h2 h3
      · exact l4_diff bv l h h2 h3
theorem law5 (bv : Value) (l : List UInt8) (p : Int) : Ct Try.prog 7 [bv, I p] (fun M => Bs M bv l) (fun r _ => r = .bool true) := by
  rcases Nat.lt_or_ge 12000 l.length with h | h
  · exact l5_big bv l p h
  · by_cases h2 : 0 ≤ p ∧ p ≤ ((encode l).length : Int)
    · obtain ⟨k, rfl⟩ : ∃ k : Nat, p = (k : Int) := ⟨p.toNat, by omega⟩
      exact l5_in bv l k h (by omega)
    · exact l5_out bv l p h h2

end Go.Proofs.Ytgkpcfgbbgpihaa
